/-
  WALKS of what sums give away: the basis of asks, how many say something new, what is told, answers. Laid by a program of mine out of the operations, with the loops and results told by hand.
-/
import Derived.Test.YtmeacgkhabnjlaaDoorQwAu
namespace Go.Proofs.YtmeacgkhabnjlaaDoor
open Go Go.Qw
set_option maxRecDepth 10000
set_option linter.unusedSimpArgs false
set_option linter.unusedVariables false

theorem of_fn (z : Int) (asks : List Int) (g : GoodK z asks) : LiftsG Tryd.prog noG 30 [.sl .int asks] (.tup [.agg (intsD (basL (ofV asks).1)), .i ((ofV asks).2 : Int)]) := by
  have gz := g.n0
  have gl := g.len
  have gp := pow12 (n := z.toNat) (by omega)
  refine LiftsG.of_bodyW 32 [.cell 2 58, .tmp 3] Tryd.func30 rfl Tryd.ntmps30 (by kernel_rfl) rfl rfl fun w0 X0 hG0 => ?_
  refine AWPD.seq fun K1 hK1 => ?_
  -- region 0
  refine AWPD.keep [0] rfl ?_
  refine AWPD.region tabOK rfl ?_
  refine hK1 _ _ ?_
  clear hK1
  refine AWPD.seq fun K2 hK2 => ?_
  refine AWPD.seq fun K3 hK3 => ?_
  -- region 1
  refine AWPD.keep [0, 2, 3] rfl ?_
  refine AWPD.region tabOK rfl ?_
  refine hK3 _ _ ?_
  clear hK3
  refine AWPD.block ?_
  -- LOOP 0 live [2, 3, 8, 9, 10] changed [3, 10]
  refine AWPD.loopK (σ := Nat) [8, 9] (fun i base => (2, .op 0 0) :: (3, .i ((ofS asks i).2 : Int)) :: (10, .i (i : Int)) :: base) (fun i => [.arr 58 .int (basL (ofS asks i).1)]) (fun n i => n + i = asks.length) (asks.length) 0 [0] rfl rfl (by omega) (by decide) ⟨⟨rfl, rfl, rfl⟩, trivial⟩ (by repeat' first | exact True.intro | exact rfl | exact ⟨rfl, rfl⟩ | refine And.intro ?_ ?_) fun n0 i hI0 => ?_
  have hn0 := hI0
  have hbl := basL_len (ofS asks i).1
  refine AWPD.seq fun K4 hK4 => ?_
  -- region 2
  refine AWPD.keep [2, 3, 8, 9, 10] rfl ?_
  refine AWPD.region tabOK rfl ?_
  refine hK4 _ _ ?_
  clear hK4
  refine AWPD.seq fun K5 hK5 => ?_
  first | refine AWPD.condP rfl (fun h0 => ?_) (fun h0 => ?_) | refine AWPD.condN rfl (fun h0 => ?_) (fun h0 => ?_) | refine AWPD.condAP rfl (fun h0 => ?_) (fun h0 => ?_) | refine AWPD.condOP rfl (fun h0 => ?_) (fun h0 => ?_) | refine AWPD.condONN rfl (fun h0 => ?_) (fun h0 => ?_) | refine AWPD.condOPN rfl (fun h0 => ?_) (fun h0 => ?_) | refine AWPD.condA rfl (fun h0 => ?_) (fun h0 => ?_) | refine AWPD.condO rfl (fun h0 => ?_) (fun h0 => ?_) | refine AWPD.cond rfl (fun h0 => ?_) (fun h0 => ?_)
  · try dsimp only [Ty.T] at h0
    try simp only [castL_self] at h0
    try simp only [Int.toNat_natCast] at h0
    try simp only [Int.toNat_zero] at h0
    have hil : i < asks.length := by omega
    have hai := g.all i hil
    have hb := g.a.bas i (by omega)
    have hlt : cutV (ofS asks i).1 (asks.getD i 0).toNat < 2 ^ z.toNat := hb.ech.cutS_lt hai.2 12
    have hrk := ofS_le asks i
    refine AWPD.skip ?_
    refine hK5 _ _ ?_
    clear hK5
    refine AWPD.seq fun K6 hK6 => ?_
    refine AWPD.block ?_
    refine AWPD.seq fun K7 hK7 => ?_
    -- region 3
    refine AWPD.keep [2, 3, 8, 9, 10] rfl ?_
    refine AWPD.region tabOK rfl ?_
    repeat refine And.intro (by first | exact fun h => h | exact fun _ => rfl | (intro h; rw [h]; rfl) | omega | (intros; (try dsimp only [Ty.T, Ty.size]); (try simp only [castL_self, Int.toNat_natCast, Int.toNat_zero, Int.toNat_one, true_and, List.length_append, List.length_set, List.length_drop, List.length_take, List.length_replicate, List.length_cons, List.length_nil, Nat.zero_add, Nat.mul_one]); omega) | decide | (intros; simp_all; done) | (intros; simp_all; omega)) ?_
    refine hK7 _ _ ?_
    clear hK7
    refine AWPD.seq fun K8 hK8 => ?_
    -- region 4
    refine AWPD.keep [2, 3, 5, 8, 9, 10] rfl ?_
    refine AWPD.region tabOK rfl ?_
    refine Exists.intro _ (Exists.intro _ (And.intro (StepD.callO (i := 0) (cut_fn z.toNat (ofS asks i).1 (asks.getD i 0) (by omega) hb.ech hai) rfl rfl rfl rfl (by first | exact rfl | exact row_free _ _ _) (by first | exact rfl | exact row_free _ _ _)) (And.intro rfl (And.intro trivial ?_))))
    refine hK8 _ _ ?_
    clear hK8
    refine AWPD.seq fun K9 hK9 => ?_
    -- region 5
    refine AWPD.keep [2, 3, 6, 8, 9, 10] rfl ?_
    refine AWPD.region tabOK rfl ?_
    refine hK9 _ _ ?_
    clear hK9
    first | refine AWPD.condP rfl (fun h1 => ?_) (fun h1 => ?_) | refine AWPD.condN rfl (fun h1 => ?_) (fun h1 => ?_) | refine AWPD.condAP rfl (fun h1 => ?_) (fun h1 => ?_) | refine AWPD.condOP rfl (fun h1 => ?_) (fun h1 => ?_) | refine AWPD.condONN rfl (fun h1 => ?_) (fun h1 => ?_) | refine AWPD.condOPN rfl (fun h1 => ?_) (fun h1 => ?_) | refine AWPD.condA rfl (fun h1 => ?_) (fun h1 => ?_) | refine AWPD.condO rfl (fun h1 => ?_) (fun h1 => ?_) | refine AWPD.cond rfl (fun h1 => ?_) (fun h1 => ?_)
    · try dsimp only [Ty.T] at h1
      try simp only [castL_self] at h1
      try simp only [Int.toNat_natCast] at h1
      try simp only [Int.toNat_zero] at h1
      have hr0 : cutV (ofS asks i).1 (asks.getD i 0).toNat ≠ 0 := by omega
      refine AWPD.seq fun K10 hK10 => ?_
      -- region 6
      refine AWPD.keep [2, 3, 6, 8, 9, 10] rfl ?_
      refine AWPD.region tabOK rfl ?_
      refine hK10 _ _ ?_
      clear hK10
      refine AWPD.seq fun K11 hK11 => ?_
      refine AWPD.block ?_
      -- LOOP 1 live [2, 3, 6, 7, 8, 9, 10] changed [7]
      refine AWPD.loopK (σ := Nat) [3, 6, 8, 9, 10] (fun j base => (2, .op 0 0) :: (7, .i (11 - (j : Int))) :: base) (fun j => [.arr 58 .int (basL (ofS asks i).1)]) (fun n j => n + j = 12 ∧ ∀ k, 11 < k + j → k < 12 → (cutV (ofS asks i).1 (asks.getD i 0).toNat).testBit k = false) (12) 0 [0] rfl rfl (⟨by omega, by intro k h1 h2; omega⟩) (by decide) ⟨⟨rfl, rfl, rfl⟩, trivial⟩ (by repeat' first | exact True.intro | exact rfl | exact ⟨rfl, rfl⟩ | refine And.intro ?_ ?_) fun n1 j hI1 => ?_
      obtain ⟨hn1, hv1⟩ := hI1
      have hj : j < 12 := by
        rcases Nat.lt_or_ge j 12 with h | h
        · exact h
        · exfalso
          refine hr0 (Nat.eq_of_testBit_eq fun k => ?_)
          rw [Nat.zero_testBit]
          by_cases h12 : k < 12
          · exact hv1 k (by omega) h12
          · exact Nat.testBit_lt_two_pow (Nat.lt_of_lt_of_le hlt (Nat.pow_le_pow_right (by decide) (by omega)))
      have hix : (11 - (j : Int)).toNat = 11 - j := by omega
      refine AWPD.seq fun K12 hK12 => ?_
      refine AWPD.seq fun K13 hK13 => ?_
      -- region 7
      refine AWPD.keep [2, 3, 6, 7, 8, 9, 10] rfl ?_
      refine AWPD.region tabOK rfl ?_
      refine Exists.intro _ (Exists.intro _ (And.intro (StepD.call (has_fn _ _ (by omega) (by omega)) rfl rfl rfl) (And.intro rfl (And.intro trivial ?_))))
      refine hK13 _ _ ?_
      clear hK13
      first | refine AWPD.cond rfl (fun h2 => ?_) (fun h2 => ?_)
      · try dsimp only [Ty.T] at h2
        try simp only [castL_self] at h2
        try simp only [Int.toNat_natCast] at h2
        try simp only [Int.toNat_zero] at h2
        have hnb : (cutV (ofS asks i).1 (asks.getD i 0).toNat).testBit (11 - j) = false := by
          rw [hix] at h2
          simpa using h2
        refine AWPD.skip ?_
        refine hK12 _ _ ?_
        clear hK12
        refine AWPD.block ?_
        -- region 8
        refine AWPD.keep [2, 3, 6, 7, 8, 9, 10] rfl ?_
        refine AWPD.region tabOK rfl ?_
        repeat refine And.intro (by first | exact fun h => h | exact fun _ => rfl | (intro h; rw [h]; rfl) | omega | (intros; (try dsimp only [Ty.T, Ty.size]); (try simp only [castL_self, Int.toNat_natCast, Int.toNat_zero, Int.toNat_one, true_and, List.length_append, List.length_set, List.length_drop, List.length_take, List.length_replicate, List.length_cons, List.length_nil, Nat.zero_add, Nat.mul_one]); omega) | decide | (intros; simp_all; done) | (intros; simp_all; omega)) ?_
        refine ⟨n1 - 1, j + 1, [0], by omega, ⟨by omega, fun k hk1 hk2 => by
            by_cases h : 11 < k + j
            · exact hv1 k h hk2
            · rw [show k = 11 - j by omega]; exact hnb⟩, ⟨by decide, rfl⟩, ⟨⟨rfl, rfl, rfl⟩, trivial⟩, ?_⟩
        repeat' first | (show (11 : Int) - (j : Int) - 1 = 11 - ((j + 1 : Nat) : Int); omega) | exact True.intro | exact rfl | exact ⟨rfl, rfl⟩ | refine And.intro ?_ ?_
      · try dsimp only [Ty.T] at h2
        try simp only [castL_self] at h2
        try simp only [Int.toNat_natCast] at h2
        try simp only [Int.toNat_zero] at h2
        have hnb : (cutV (ofS asks i).1 (asks.getD i 0).toNat).testBit (11 - j) = true := by
          rw [hix] at h2
          simpa using h2
        have hlog : Nat.log2 (cutV (ofS asks i).1 (asks.getD i 0).toNat) = 11 - j := log_at hnb fun k hk => by
          by_cases h12 : k < 12
          · exact hv1 k (by omega) h12
          · exact Nat.testBit_lt_two_pow (Nat.lt_of_lt_of_le hlt (Nat.pow_le_pow_right (by decide) (by omega)))
        refine AWPD.exit ?_
        refine hK11 _ _ ?_
        clear hK11
        refine AWPD.seq fun K14 hK14 => ?_
        -- region 9
        refine AWPD.keep [2, 3, 6, 7, 8, 9, 10] rfl ?_
        refine AWPD.region tabOK rfl ?_
        repeat refine And.intro (by first | exact fun h => h | exact fun _ => rfl | (intro h; rw [h]; rfl) | omega | (intros; (try dsimp only [Ty.T, Ty.size]); (try simp only [castL_self, Int.toNat_natCast, Int.toNat_zero, Int.toNat_one, true_and, List.length_append, List.length_set, List.length_drop, List.length_take, List.length_replicate, List.length_cons, List.length_nil, Nat.zero_add, Nat.mul_one]); omega) | decide | (intros; simp_all; done) | (intros; simp_all; omega)) ?_
        refine hK14 _ _ ?_
        clear hK14
        -- region 10
        refine AWPD.keep [2, 3, 8, 9, 10] rfl ?_
        refine AWPD.region tabOK rfl ?_
        repeat refine And.intro (by first | exact fun h => h | exact fun _ => rfl | (intro h; rw [h]; rfl) | omega | (intros; (try dsimp only [Ty.T, Ty.size]); (try simp only [castL_self, Int.toNat_natCast, Int.toNat_zero, Int.toNat_one, true_and, List.length_append, List.length_set, List.length_drop, List.length_take, List.length_replicate, List.length_cons, List.length_nil, Nat.zero_add, Nat.mul_one]); omega) | decide | (intros; simp_all; done) | (intros; simp_all; omega)) ?_
        refine hK6 _ _ ?_
        clear hK6
        -- region 11
        refine AWPD.keep [2, 3, 8, 9, 10] rfl ?_
        refine AWPD.region tabOK rfl ?_
        repeat refine And.intro (by first | exact fun h => h | exact fun _ => rfl | (intro h; rw [h]; rfl) | omega | (intros; (try dsimp only [Ty.T, Ty.size]); (try simp only [castL_self, Int.toNat_natCast, Int.toNat_zero, Int.toNat_one, true_and, List.length_append, List.length_set, List.length_drop, List.length_take, List.length_replicate, List.length_cons, List.length_nil, Nat.zero_add, Nat.mul_one]); omega) | decide | (intros; simp_all; done) | (intros; simp_all; omega)) ?_
        refine ⟨n0 - 1, i + 1, [0], by omega, by omega, ⟨by decide, rfl⟩, ⟨⟨rfl, rfl, (by show (basL (ofS asks i).1).set (11 - (j : Int)).toNat _ = _; rw [hix, basL_set, ofS_yes hr0, hlog])⟩, trivial⟩, ?_⟩
        repeat' first | (show (((ofS asks i).2 : Nat) : Int) + 1 = _; rw [ofS_yes hr0]; rfl) | (show (((ofS asks i).2 : Nat) : Int) = _; rw [ofS_no hr0]) | exact True.intro | exact rfl | exact ⟨rfl, rfl⟩ | refine And.intro ?_ ?_
    · try dsimp only [Ty.T] at h1
      try simp only [castL_self] at h1
      try simp only [Int.toNat_natCast] at h1
      try simp only [Int.toNat_zero] at h1
      have hr0 : cutV (ofS asks i).1 (asks.getD i 0).toNat = 0 := by omega
      refine AWPD.skip ?_
      refine hK6 _ _ ?_
      clear hK6
      -- region 11
      refine AWPD.keep [2, 3, 8, 9, 10] rfl ?_
      refine AWPD.region tabOK rfl ?_
      repeat refine And.intro (by first | exact fun h => h | exact fun _ => rfl | (intro h; rw [h]; rfl) | omega | (intros; (try dsimp only [Ty.T, Ty.size]); (try simp only [castL_self, Int.toNat_natCast, Int.toNat_zero, Int.toNat_one, true_and, List.length_append, List.length_set, List.length_drop, List.length_take, List.length_replicate, List.length_cons, List.length_nil, Nat.zero_add, Nat.mul_one]); omega) | decide | (intros; simp_all; done) | (intros; simp_all; omega)) ?_
      refine ⟨n0 - 1, i + 1, [0], by omega, by omega, ⟨by decide, rfl⟩, ⟨⟨rfl, rfl, congrArg (fun p : (Nat → Nat) × Nat => basL p.1) (ofS_no hr0).symm⟩, trivial⟩, ?_⟩
      repeat' first | (show (((ofS asks i).2 : Nat) : Int) + 1 = _; rw [ofS_yes hr0]; rfl) | (show (((ofS asks i).2 : Nat) : Int) = _; rw [ofS_no hr0]) | exact True.intro | exact rfl | exact ⟨rfl, rfl⟩ | refine And.intro ?_ ?_
  · try dsimp only [Ty.T] at h0
    try simp only [castL_self] at h0
    try simp only [Int.toNat_natCast] at h0
    try simp only [Int.toNat_zero] at h0
    have hil : i = asks.length := by omega
    refine AWPD.exit ?_
    refine hK2 _ _ ?_
    clear hK2
    refine AWPD.seq fun K15 hK15 => ?_
    -- region 12
    refine AWPD.keep [2, 3] rfl ?_
    refine AWPD.region tabOK rfl ?_
    repeat refine And.intro (by first | exact fun h => h | exact fun _ => rfl | (intro h; rw [h]; rfl) | omega | (intros; (try dsimp only [Ty.T, Ty.size]); (try simp only [castL_self, Int.toNat_natCast, Int.toNat_zero, Int.toNat_one, true_and, List.length_append, List.length_set, List.length_drop, List.length_take, List.length_replicate, List.length_cons, List.length_nil, Nat.zero_add, Nat.mul_one]); omega) | decide | (intros; simp_all; done) | (intros; simp_all; omega)) ?_
    refine hK15 _ _ ?_
    clear hK15
    refine AWPD.ret (And.intro (.inl rfl) ?_)
    -- result 0
    have e : ofV asks = ofS asks i := by unfold ofV; rw [hil]
    rw [e]
    exact RetW.twoT ⟨0, _, intsD (basL (ofS asks i).1), _, rfl, rfl, tabOK.agg (58, 12) (by decide), rfl, rfl⟩ (fitI rfl rfl)
theorem rank_fn (z : Int) (asks : List Int) : LiftsD Tryd.prog 16 [.i z, .sl .int asks] (.tup [.i (rankV z asks), .er 56 (askE z asks)]) := by
  refine LiftsD.of_body 21 [.tmp 4, .tmp 5] Tryd.func16 rfl Tryd.ntmps16 (by kernel_rfl) rfl rfl fun w0 X0 => ?_
  refine AWPD.seq fun K1 hK1 => ?_
  -- region 0
  refine AWPD.keep [0, 1] rfl ?_
  refine AWPD.region tabOK rfl ?_
  refine hK1 _ _ ?_
  clear hK1
  refine AWPD.seq fun K2 hK2 => ?_
  refine AWPD.seq fun K3 hK3 => ?_
  -- region 1
  refine AWPD.keep [0, 1] rfl ?_
  refine AWPD.region tabOK rfl ?_
  refine Exists.intro _ (Exists.intro _ (And.intro (StepD.call (acheck_fn _ _) rfl rfl rfl) (And.intro rfl (And.intro trivial ?_))))
  refine hK3 _ _ ?_
  clear hK3
  refine AWPD.seq fun K4 hK4 => ?_
  -- region 2
  refine AWPD.keep [1, 6] rfl ?_
  refine AWPD.region tabOK rfl ?_
  refine hK4 _ _ ?_
  clear hK4
  first | refine AWPD.condP rfl (fun h0 => ?_) (fun h0 => ?_) | refine AWPD.condN rfl (fun h0 => ?_) (fun h0 => ?_) | refine AWPD.condAP rfl (fun h0 => ?_) (fun h0 => ?_) | refine AWPD.condOP rfl (fun h0 => ?_) (fun h0 => ?_) | refine AWPD.condONN rfl (fun h0 => ?_) (fun h0 => ?_) | refine AWPD.condOPN rfl (fun h0 => ?_) (fun h0 => ?_) | refine AWPD.condA rfl (fun h0 => ?_) (fun h0 => ?_) | refine AWPD.condO rfl (fun h0 => ?_) (fun h0 => ?_) | refine AWPD.cond rfl (fun h0 => ?_) (fun h0 => ?_)
  · try dsimp only [Ty.T] at h0
    try simp only [castL_self] at h0
    try simp only [Int.toNat_natCast] at h0
    try simp only [Int.toNat_zero] at h0
    refine AWPD.seq fun K5 hK5 => ?_
    -- region 3
    refine AWPD.keep [6] rfl ?_
    refine AWPD.region tabOK rfl ?_
    refine hK5 _ _ ?_
    clear hK5
    refine AWPD.ret (And.intro (.inl rfl) ?_)
    -- result 0
    exact ⟨fitI rfl (by unfold rankV; rw [if_neg h0]), fitE rfl rfl⟩
  · try dsimp only [Ty.T] at h0
    try simp only [castL_self] at h0
    try simp only [Int.toNat_natCast] at h0
    try simp only [Int.toNat_zero] at h0
    have he : askE z asks = 0 := by simpa using h0
    have g := ask_ok he
    have gz := g.n0
    have gl := g.len
    have gb := g.a.bas asks.length (Nat.le_refl _)
    have grk := ofS_le asks asks.length
    have hbl := basL_len (ofV asks).1
    refine AWPD.skip ?_
    refine hK2 _ _ ?_
    clear hK2
    refine AWPD.seq fun K6 hK6 => ?_
    -- region 4
    refine AWPD.keep [1] rfl ?_
    refine AWPD.region tabOK rfl ?_
    refine Exists.intro _ (Exists.intro _ (And.intro (StepD.call (noG_toD (of_fn z asks (by assumption))) rfl rfl rfl) (And.intro rfl (And.intro trivial ?_))))
    repeat refine And.intro (by first | exact fun h => h | exact fun _ => rfl | (intro h; rw [h]; rfl) | omega | (intros; (try dsimp only [Ty.T, Ty.size]); (try simp only [castL_self, Int.toNat_natCast, Int.toNat_zero, Int.toNat_one, true_and, List.length_append, List.length_set, List.length_drop, List.length_take, List.length_replicate, List.length_cons, List.length_nil, Nat.zero_add, Nat.mul_one]); omega) | decide | (intros; simp_all; done) | (intros; simp_all; omega)) ?_
    refine hK6 _ _ ?_
    clear hK6
    refine AWPD.seq fun K7 hK7 => ?_
    -- region 5
    refine AWPD.keep [8] rfl ?_
    refine AWPD.region tabOK rfl ?_
    refine hK7 _ _ ?_
    clear hK7
    refine AWPD.ret (And.intro (.inl rfl) ?_)
    -- result 1
    exact ⟨fitI rfl (by unfold rankV; rw [if_pos he]), fitE rfl he.symm⟩
theorem tells_fn (z : Int) (asks : List Int) (s : Int) : LiftsD Tryd.prog 7 [.i z, .sl .int asks, .i s] (.tup [.b (tellV z asks s), .er 56 (tellE z asks s)]) := by
  refine LiftsD.of_body 30 [.tmp 6, .tmp 7] Tryd.func7 rfl Tryd.ntmps7 (by kernel_rfl) rfl rfl fun w0 X0 => ?_
  refine AWPD.seq fun K1 hK1 => ?_
  -- region 0
  refine AWPD.keep [0, 1, 2] rfl ?_
  refine AWPD.region tabOK rfl ?_
  refine hK1 _ _ ?_
  clear hK1
  refine AWPD.seq fun K2 hK2 => ?_
  refine AWPD.seq fun K3 hK3 => ?_
  -- region 1
  refine AWPD.keep [0, 1, 2] rfl ?_
  refine AWPD.region tabOK rfl ?_
  refine Exists.intro _ (Exists.intro _ (And.intro (StepD.call (acheck_fn _ _) rfl rfl rfl) (And.intro rfl (And.intro trivial ?_))))
  refine hK3 _ _ ?_
  clear hK3
  refine AWPD.seq fun K4 hK4 => ?_
  -- region 2
  refine AWPD.keep [0, 1, 2, 8] rfl ?_
  refine AWPD.region tabOK rfl ?_
  refine hK4 _ _ ?_
  clear hK4
  first | refine AWPD.condP rfl (fun h0 => ?_) (fun h0 => ?_) | refine AWPD.condN rfl (fun h0 => ?_) (fun h0 => ?_) | refine AWPD.condAP rfl (fun h0 => ?_) (fun h0 => ?_) | refine AWPD.condOP rfl (fun h0 => ?_) (fun h0 => ?_) | refine AWPD.condONN rfl (fun h0 => ?_) (fun h0 => ?_) | refine AWPD.condOPN rfl (fun h0 => ?_) (fun h0 => ?_) | refine AWPD.condA rfl (fun h0 => ?_) (fun h0 => ?_) | refine AWPD.condO rfl (fun h0 => ?_) (fun h0 => ?_) | refine AWPD.cond rfl (fun h0 => ?_) (fun h0 => ?_)
  · try dsimp only [Ty.T] at h0
    try simp only [castL_self] at h0
    try simp only [Int.toNat_natCast] at h0
    try simp only [Int.toNat_zero] at h0
    refine AWPD.seq fun K5 hK5 => ?_
    -- region 3
    refine AWPD.keep [8] rfl ?_
    refine AWPD.region tabOK rfl ?_
    refine hK5 _ _ ?_
    clear hK5
    refine AWPD.ret (And.intro (.inl rfl) ?_)
    -- result 0
    have ht : tellE z asks s = askE z asks := by unfold tellE; rw [if_neg h0]
    exact ⟨fitB rfl (by unfold tellV; rw [ht, decide_eq_false h0]; rfl), fitE rfl ht.symm⟩
  · try dsimp only [Ty.T] at h0
    try simp only [castL_self] at h0
    try simp only [Int.toNat_natCast] at h0
    try simp only [Int.toNat_zero] at h0
    have he : askE z asks = 0 := by simpa using h0
    have g := ask_ok he
    have gz := g.n0
    have gl := g.len
    have gb := g.a.bas asks.length (Nat.le_refl _)
    have grk := ofS_le asks asks.length
    have hbl := basL_len (ofV asks).1
    refine AWPD.skip ?_
    refine hK2 _ _ ?_
    clear hK2
    refine AWPD.seq fun K6 hK6 => ?_
    refine AWPD.seq fun K7 hK7 => ?_
    -- region 4
    refine AWPD.keep [0, 1, 2] rfl ?_
    refine AWPD.region tabOK rfl ?_
    refine Exists.intro _ (Exists.intro _ (And.intro (StepD.call (mask_fn _ _ (by omega)) rfl rfl rfl) (And.intro rfl (And.intro trivial ?_))))
    refine hK7 _ _ ?_
    clear hK7
    first | refine AWPD.cond rfl (fun h1 => ?_) (fun h1 => ?_)
    · try dsimp only [Ty.T] at h1
      try simp only [castL_self] at h1
      try simp only [Int.toNat_natCast] at h1
      try simp only [Int.toNat_zero] at h1
      have hm : ¬maskB s z = true := by simpa using h1
      refine AWPD.seq fun K8 hK8 => ?_
      -- region 5
      refine AWPD.keep [] rfl ?_
      refine AWPD.region tabOK rfl ?_
      repeat refine And.intro (by first | exact fun h => h | exact fun _ => rfl | (intro h; rw [h]; rfl) | omega | (intros; (try dsimp only [Ty.T, Ty.size]); (try simp only [castL_self, Int.toNat_natCast, Int.toNat_zero, Int.toNat_one, true_and, List.length_append, List.length_set, List.length_drop, List.length_take, List.length_replicate, List.length_cons, List.length_nil, Nat.zero_add, Nat.mul_one]); omega) | decide | (intros; simp_all; done) | (intros; simp_all; omega)) ?_
      refine hK8 _ _ ?_
      clear hK8
      refine AWPD.ret (And.intro (.inl rfl) ?_)
      -- result 1
      have ht : tellE z asks s = 1 := by unfold tellE; rw [if_pos he, if_neg hm]
      exact ⟨fitB rfl (by unfold tellV; rw [ht]; rfl), fitE rfl ht.symm⟩
    · try dsimp only [Ty.T] at h1
      try simp only [castL_self] at h1
      try simp only [Int.toNat_natCast] at h1
      try simp only [Int.toNat_zero] at h1
      have hm : maskB s z = true := by simpa using h1
      have hms := mask_in hm
      have ht : tellE z asks s = 0 := by unfold tellE; rw [if_pos he, if_pos hm]
      refine AWPD.skip ?_
      refine hK6 _ _ ?_
      clear hK6
      refine AWPD.seq fun K9 hK9 => ?_
      -- region 6
      refine AWPD.keep [1, 2] rfl ?_
      refine AWPD.region tabOK rfl ?_
      refine Exists.intro _ (Exists.intro _ (And.intro (StepD.call (noG_toD (of_fn z asks (by assumption))) rfl rfl rfl) (And.intro rfl (And.intro trivial ?_))))
      repeat refine And.intro (by first | exact fun h => h | exact fun _ => rfl | (intro h; rw [h]; rfl) | omega | (intros; (try dsimp only [Ty.T, Ty.size]); (try simp only [castL_self, Int.toNat_natCast, Int.toNat_zero, Int.toNat_one, true_and, List.length_append, List.length_set, List.length_drop, List.length_take, List.length_replicate, List.length_cons, List.length_nil, Nat.zero_add, Nat.mul_one]); omega) | decide | (intros; simp_all; done) | (intros; simp_all; omega)) ?_
      refine hK9 _ _ ?_
      clear hK9
      refine AWPD.seq fun K10 hK10 => ?_
      -- region 7
      refine AWPD.keep [2, 9] rfl ?_
      refine AWPD.region tabOK rfl ?_
      refine Exists.intro _ (Exists.intro _ (And.intro (StepD.callO (i := 0) (cut_fn z.toNat (ofV asks).1 s (by omega) gb.ech hms) rfl rfl rfl rfl (by first | exact rfl | exact row_free _ _ _) (by first | exact rfl | exact row_free _ _ _)) (And.intro rfl (And.intro trivial ?_))))
      refine hK10 _ _ ?_
      clear hK10
      refine AWPD.ret (And.intro (.inl rfl) ?_)
      -- result 2
      exact ⟨fitB rfl (by unfold tellV; rw [ht]; exact decide_eq_decide.2 (by omega)), fitE rfl ht.symm⟩
theorem aodd_fn (x : Int) (hx : 0 ≤ x ∧ x ≤ 4095) : LiftsD Tryd.prog 32 [.i x] (.i ((popN x.toNat % 2 : Nat) : Int)) := by
  have hpl := popN_le x.toNat
  refine LiftsD.of_body 6 [.tmp 2] Tryd.func32 rfl Tryd.ntmps32 (by kernel_rfl) rfl rfl fun w0 X0 => ?_
  refine AWPD.seq fun K1 hK1 => ?_
  -- region 0
  refine AWPD.keep [0] rfl ?_
  refine AWPD.region tabOK rfl ?_
  refine hK1 _ _ ?_
  clear hK1
  refine AWPD.seq fun K2 hK2 => ?_
  -- region 1
  refine AWPD.keep [0] rfl ?_
  refine AWPD.region tabOK rfl ?_
  refine Exists.intro _ (Exists.intro _ (And.intro (StepD.call (coreMany_fn _ (by omega)) rfl rfl rfl) (And.intro rfl (And.intro trivial ?_))))
  refine hK2 _ _ ?_
  clear hK2
  refine AWPD.ret (And.intro (.inl rfl) ?_)
  -- result 0
  refine RetD.one ?_
  exact fitI rfl (by rw [bits_and (by omega) (by omega), Int.toNat_natCast]; exact congrArg Int.ofNat (and_one _))
theorem answers_fn (z : Int) (asks : List Int) (bits : Int) : LiftsD Tryd.prog 8 [.i z, .sl .int asks, .i bits] (.tup [.sl .int (ansV z asks bits), .er 56 (tellE z asks bits)]) := by
  refine LiftsD.of_body 38 [.tmp 6, .tmp 7] Tryd.func8 rfl Tryd.ntmps8 (by kernel_rfl) rfl rfl fun w0 X0 => ?_
  refine AWPD.seq fun K1 hK1 => ?_
  -- region 0
  refine AWPD.keep [0, 1, 2] rfl ?_
  refine AWPD.region tabOK rfl ?_
  refine hK1 _ _ ?_
  clear hK1
  refine AWPD.seq fun K2 hK2 => ?_
  refine AWPD.seq fun K3 hK3 => ?_
  -- region 1
  refine AWPD.keep [0, 1, 2] rfl ?_
  refine AWPD.region tabOK rfl ?_
  refine Exists.intro _ (Exists.intro _ (And.intro (StepD.call (acheck_fn _ _) rfl rfl rfl) (And.intro rfl (And.intro trivial ?_))))
  refine hK3 _ _ ?_
  clear hK3
  refine AWPD.seq fun K4 hK4 => ?_
  -- region 2
  refine AWPD.keep [0, 1, 2, 8] rfl ?_
  refine AWPD.region tabOK rfl ?_
  refine hK4 _ _ ?_
  clear hK4
  first | refine AWPD.condP rfl (fun h0 => ?_) (fun h0 => ?_) | refine AWPD.condN rfl (fun h0 => ?_) (fun h0 => ?_) | refine AWPD.condAP rfl (fun h0 => ?_) (fun h0 => ?_) | refine AWPD.condOP rfl (fun h0 => ?_) (fun h0 => ?_) | refine AWPD.condONN rfl (fun h0 => ?_) (fun h0 => ?_) | refine AWPD.condOPN rfl (fun h0 => ?_) (fun h0 => ?_) | refine AWPD.condA rfl (fun h0 => ?_) (fun h0 => ?_) | refine AWPD.condO rfl (fun h0 => ?_) (fun h0 => ?_) | refine AWPD.cond rfl (fun h0 => ?_) (fun h0 => ?_)
  · try dsimp only [Ty.T] at h0
    try simp only [castL_self] at h0
    try simp only [Int.toNat_natCast] at h0
    try simp only [Int.toNat_zero] at h0
    refine AWPD.seq fun K5 hK5 => ?_
    -- region 3
    refine AWPD.keep [8] rfl ?_
    refine AWPD.region tabOK rfl ?_
    refine hK5 _ _ ?_
    clear hK5
    refine AWPD.ret (And.intro (.inl rfl) ?_)
    -- result 0
    have ht : tellE z asks bits = askE z asks := by unfold tellE; rw [if_neg h0]
    exact ⟨fitN rfl (by unfold ansV; rw [ht, if_neg h0]) (by decide), fitE rfl ht.symm⟩
  · try dsimp only [Ty.T] at h0
    try simp only [castL_self] at h0
    try simp only [Int.toNat_natCast] at h0
    try simp only [Int.toNat_zero] at h0
    have he : askE z asks = 0 := by simpa using h0
    have g := ask_ok he
    have gz := g.n0
    have gl := g.len
    have gb := g.a.bas asks.length (Nat.le_refl _)
    have grk := ofS_le asks asks.length
    have hbl := basL_len (ofV asks).1
    refine AWPD.skip ?_
    refine hK2 _ _ ?_
    clear hK2
    refine AWPD.seq fun K6 hK6 => ?_
    refine AWPD.seq fun K7 hK7 => ?_
    -- region 4
    refine AWPD.keep [0, 1, 2] rfl ?_
    refine AWPD.region tabOK rfl ?_
    refine Exists.intro _ (Exists.intro _ (And.intro (StepD.call (mask_fn _ _ (by omega)) rfl rfl rfl) (And.intro rfl (And.intro trivial ?_))))
    refine hK7 _ _ ?_
    clear hK7
    first | refine AWPD.cond rfl (fun h1 => ?_) (fun h1 => ?_)
    · try dsimp only [Ty.T] at h1
      try simp only [castL_self] at h1
      try simp only [Int.toNat_natCast] at h1
      try simp only [Int.toNat_zero] at h1
      have hm : ¬maskB bits z = true := by simpa using h1
      refine AWPD.seq fun K8 hK8 => ?_
      -- region 5
      refine AWPD.keep [] rfl ?_
      refine AWPD.region tabOK rfl ?_
      repeat refine And.intro (by first | exact fun h => h | exact fun _ => rfl | (intro h; rw [h]; rfl) | omega | (intros; (try dsimp only [Ty.T, Ty.size]); (try simp only [castL_self, Int.toNat_natCast, Int.toNat_zero, Int.toNat_one, true_and, List.length_append, List.length_set, List.length_drop, List.length_take, List.length_replicate, List.length_cons, List.length_nil, Nat.zero_add, Nat.mul_one]); omega) | decide | (intros; simp_all; done) | (intros; simp_all; omega)) ?_
      refine hK8 _ _ ?_
      clear hK8
      refine AWPD.ret (And.intro (.inl rfl) ?_)
      -- result 1
      have ht : tellE z asks bits = 1 := by unfold tellE; rw [if_pos he, if_neg hm]
      exact ⟨fitN rfl (by unfold ansV; rw [ht]; rfl) (by decide), fitE rfl ht.symm⟩
    · try dsimp only [Ty.T] at h1
      try simp only [castL_self] at h1
      try simp only [Int.toNat_natCast] at h1
      try simp only [Int.toNat_zero] at h1
      have hm : maskB bits z = true := by simpa using h1
      have hms := mask_in hm
      have hpp := pow12 (n := z.toNat) (by omega)
      have ht : tellE z asks bits = 0 := by unfold tellE; rw [if_pos he, if_pos hm]
      refine AWPD.skip ?_
      refine hK6 _ _ ?_
      clear hK6
      refine AWPD.seq fun K9 hK9 => ?_
      -- region 6
      refine AWPD.keep [1, 2] rfl ?_
      refine AWPD.region tabOK rfl ?_
      refine hK9 _ _ ?_
      clear hK9
      refine AWPD.seq fun K10 hK10 => ?_
      refine AWPD.seq fun K11 hK11 => ?_
      -- region 7
      refine AWPD.keep [1, 2, 9] rfl ?_
      refine AWPD.region tabOK rfl ?_
      refine hK11 _ _ ?_
      clear hK11
      refine AWPD.block ?_
      -- LOOP 0 live [2, 9, 23, 24, 25] changed [9, 25]
      refine AWPD.nilRow 9 3 .int rfl (by decide) ?_
      refine AWPD.loopK (σ := Nat) [2, 23, 24] (fun i base => (9, .ob 0) :: (25, .i (i : Int)) :: base) (fun i => [.row 3 .int (ansL asks bits i)]) (fun n i => n + i = asks.length) (asks.length) 0 [0] rfl rfl (by omega) (by decide) ⟨⟨rfl, rfl, rfl⟩, trivial⟩ (by repeat' first | exact True.intro | exact rfl | exact ⟨rfl, rfl⟩ | refine And.intro ?_ ?_) fun n0 i hI0 => ?_
      have hn0 := hI0
      have hal := ansL_len asks bits i
      refine AWPD.seq fun K12 hK12 => ?_
      -- region 8
      refine AWPD.keep [2, 9, 23, 24, 25] rfl ?_
      refine AWPD.region tabOK rfl ?_
      refine hK12 _ _ ?_
      clear hK12
      refine AWPD.seq fun K13 hK13 => ?_
      first | refine AWPD.condP rfl (fun h2 => ?_) (fun h2 => ?_) | refine AWPD.condN rfl (fun h2 => ?_) (fun h2 => ?_) | refine AWPD.condAP rfl (fun h2 => ?_) (fun h2 => ?_) | refine AWPD.condOP rfl (fun h2 => ?_) (fun h2 => ?_) | refine AWPD.condONN rfl (fun h2 => ?_) (fun h2 => ?_) | refine AWPD.condOPN rfl (fun h2 => ?_) (fun h2 => ?_) | refine AWPD.condA rfl (fun h2 => ?_) (fun h2 => ?_) | refine AWPD.condO rfl (fun h2 => ?_) (fun h2 => ?_) | refine AWPD.cond rfl (fun h2 => ?_) (fun h2 => ?_)
      · try dsimp only [Ty.T] at h2
        try simp only [castL_self] at h2
        try simp only [Int.toNat_natCast] at h2
        try simp only [Int.toNat_zero] at h2
        have hil : i < asks.length := by omega
        have hai := g.small hil
        have hba := bits_and (a := asks.getD i 0) (b := bits) (by omega) (by omega)
        have hle : (asks.getD i 0).toNat &&& bits.toNat ≤ (asks.getD i 0).toNat := Nat.and_le_left
        refine AWPD.skip ?_
        refine hK13 _ _ ?_
        clear hK13
        refine AWPD.seq fun K14 hK14 => ?_
        refine AWPD.block ?_
        refine AWPD.seq fun K15 hK15 => ?_
        -- region 9
        refine AWPD.keep [2, 9, 23, 24, 25] rfl ?_
        refine AWPD.region tabOK rfl ?_
        repeat refine And.intro (by first | exact fun h => h | exact fun _ => rfl | (intro h; rw [h]; rfl) | omega | (intros; (try dsimp only [Ty.T, Ty.size]); (try simp only [castL_self, Int.toNat_natCast, Int.toNat_zero, Int.toNat_one, true_and, List.length_append, List.length_set, List.length_drop, List.length_take, List.length_replicate, List.length_cons, List.length_nil, Nat.zero_add, Nat.mul_one]); omega) | decide | (intros; simp_all; done) | (intros; simp_all; omega)) ?_
        refine hK15 _ _ ?_
        clear hK15
        -- region 10
        refine AWPD.keep [2, 9, 11, 23, 24, 25] rfl ?_
        refine AWPD.region tabOK rfl ?_
        refine Exists.intro _ (Exists.intro _ (And.intro (StepD.call (aodd_fn (bitsI .and (asks.getD i 0) bits) (by omega)) rfl rfl rfl) (And.intro rfl (And.intro trivial ?_))))
        repeat refine And.intro (by first | exact fun h => h | exact fun _ => rfl | (intro h; rw [h]; rfl) | omega | (intros; (try dsimp only [Ty.T, Ty.size]); (try simp only [castL_self, Int.toNat_natCast, Int.toNat_zero, Int.toNat_one, true_and, List.length_append, List.length_set, List.length_drop, List.length_take, List.length_replicate, List.length_cons, List.length_nil, Nat.zero_add, Nat.mul_one]); omega) | decide | (intros; simp_all; done) | (intros; simp_all; omega)) ?_
        refine hK14 _ _ ?_
        clear hK14
        -- region 11
        refine AWPD.keep [2, 9, 23, 24, 25] rfl ?_
        refine AWPD.region tabOK rfl ?_
        repeat refine And.intro (by first | exact fun h => h | exact fun _ => rfl | (intro h; rw [h]; rfl) | omega | (intros; (try dsimp only [Ty.T, Ty.size]); (try simp only [castL_self, Int.toNat_natCast, Int.toNat_zero, Int.toNat_one, true_and, List.length_append, List.length_set, List.length_drop, List.length_take, List.length_replicate, List.length_cons, List.length_nil, Nat.zero_add, Nat.mul_one]); omega) | decide | (intros; simp_all; done) | (intros; simp_all; omega)) ?_
        refine ⟨n0 - 1, i + 1, [1], by omega, by omega, ⟨by decide, rfl⟩, ⟨⟨rfl, rfl, (by rw [← ansL_app]; show ansL asks bits i ++ [((popN (bitsI .and (asks.getD i 0) bits).toNat % 2 : Nat) : Int)] = _; rw [hba, Int.toNat_natCast]; rfl)⟩, trivial⟩, ?_⟩
        repeat' first | exact True.intro | exact rfl | exact ⟨rfl, rfl⟩ | refine And.intro ?_ ?_
      · try dsimp only [Ty.T] at h2
        try simp only [castL_self] at h2
        try simp only [Int.toNat_natCast] at h2
        try simp only [Int.toNat_zero] at h2
        have hil : i = asks.length := by omega
        refine AWPD.exit ?_
        refine hK10 _ _ ?_
        clear hK10
        refine AWPD.seq fun K16 hK16 => ?_
        -- region 12
        refine AWPD.keep [9] rfl ?_
        refine AWPD.region tabOK rfl ?_
        refine hK16 _ _ ?_
        clear hK16
        refine AWPD.ret (And.intro (.inl rfl) ?_)
        -- result 2
        exact ⟨fitR rfl rfl (by unfold ansV; rw [if_pos ht, hil]), fitE rfl ht.symm⟩
end Go.Proofs.YtmeacgkhabnjlaaDoor
