/-
  WALKS of what is left, of whether one is blind, and of what must be added. Laid by a program of mine out of the operations, with the loops and results told by hand.
-/
import Derived.Test.YtkncfjcmhaaafaaQwDe
namespace Go.Proofs.Ytkncfjcmhaaafaa
open Go Go.Qw
set_option maxRecDepth 10000
set_option linter.unusedSimpArgs false
set_option linter.unusedVariables false
set_option linter.unusedSectionVars false


theorem pre_one {α : Type} {q : α} {L : List α} (h : [q] <+: L) : ∃ r, L = q :: r := by
  obtain ⟨r, rfl⟩ := h
  exact ⟨r, rfl⟩
theorem mis_head {l : List (Int × Int)} {i j : Nat} (hi : i < (colV l 0).length) (hj : j < (colV l 1).length) (h0 : misC l (colV l 0) (colV l 1) i = []) (h1 : misR l ((colV l 0).getD i 0) (colV l 1) j = []) (hm : ((colV l 0).getD i 0, (colV l 1).getD j 0) ∉ l) :
    ∃ r, misV l = ((colV l 0).getD i 0, (colV l 1).getD j 0) :: r := by
  have e1 : misR l ((colV l 0).getD i 0) (colV l 1) (j + 1) = [((colV l 0).getD i 0, (colV l 1).getD j 0)] := by rw [misR_no hm, h1]; rfl
  have p1 := misR_pre l ((colV l 0).getD i 0) (colV l 1) (j + 1) ((colV l 1).length - (j + 1))
  rw [e1, show j + 1 + ((colV l 1).length - (j + 1)) = (colV l 1).length by omega] at p1
  have e2 : misC l (colV l 0) (colV l 1) (i + 1) = misR l ((colV l 0).getD i 0) (colV l 1) (colV l 1).length := by rw [misC, h0, List.nil_append]
  have p2 := misC_pre l (colV l 0) (colV l 1) (i + 1) ((colV l 0).length - (i + 1))
  rw [e2, show i + 1 + ((colV l 0).length - (i + 1)) = (colV l 0).length by omega] at p2
  exact pre_one (p1.trans p2)
theorem misC_b {l : List (Int × Int)} (hl : l.length ≤ 40) {i j : Nat} (hi : i < (colV l 0).length) (hj : j ≤ (colV l 1).length) : (misC l (colV l 0) (colV l 1) i).length + (misR l ((colV l 0).getD i 0) (colV l 1) j).length ≤ 2000 := by
  have h1 := misC_len l (colV l 0) (colV l 1) i
  have h2 := misR_len l ((colV l 0).getD i 0) (colV l 1) j
  have hX := colV_len l 0
  have hY := colV_len l 1
  have h3 : (colV l 1).length * i ≤ 40 * 40 := Nat.mul_le_mul (by omega) (by omega)
  omega
theorem misV_b {l : List (Int × Int)} (hl : l.length ≤ 40) : (misV l).length ≤ 2000 := by
  have h1 := misC_len l (colV l 0) (colV l 1) (colV l 0).length
  have hX := colV_len l 0
  have hY := colV_len l 1
  have h3 : (colV l 1).length * (colV l 0).length ≤ 40 * 40 := Nat.mul_le_mul (by omega) (by omega)
  unfold misV
  omega

theorem left_fn (l : List (Int × Int)) (s : Int) : LiftsD Try.prog 9 [.sl .two l, .i s] (.tup [.sl .int (leftV l s), .er 45 (wldE l)]) := by
  refine LiftsD.of_body 32 [.tmp 4, .tmp 5] Try.func9 rfl Try.ntmps9 (by kernel_rfl) rfl rfl fun w0 X0 => ?_
  refine AWPD.seq fun K1 hK1 => ?_
  -- region 0
  refine AWPD.keep [0, 1] rfl ?_
  refine AWPD.region tabOK rfl ?_
  refine hK1 _ _ ?_
  clear hK1
  refine AWPD.seq fun K2 hK2 => ?_
  refine AWPD.seq fun K3 hK3 => ?_
  -- region 1
  refine AWPD.keep [0, 1] rfl ?_
  refine AWPD.region tabOK rfl ?_
  refine Exists.intro _ (Exists.intro _ (And.intro (StepD.call (dcheck_fn _) rfl rfl rfl) (And.intro rfl (And.intro trivial ?_))))
  refine hK3 _ _ ?_
  clear hK3
  refine AWPD.seq fun K4 hK4 => ?_
  -- region 2
  refine AWPD.keep [0, 1, 6] rfl ?_
  refine AWPD.region tabOK rfl ?_
  refine hK4 _ _ ?_
  clear hK4
  first | refine AWPD.condP rfl (fun h0 => ?_) (fun h0 => ?_) | refine AWPD.condN rfl (fun h0 => ?_) (fun h0 => ?_) | refine AWPD.condAP rfl (fun h0 => ?_) (fun h0 => ?_) | refine AWPD.condOP rfl (fun h0 => ?_) (fun h0 => ?_) | refine AWPD.condONN rfl (fun h0 => ?_) (fun h0 => ?_) | refine AWPD.condOPN rfl (fun h0 => ?_) (fun h0 => ?_) | refine AWPD.condA rfl (fun h0 => ?_) (fun h0 => ?_) | refine AWPD.condO rfl (fun h0 => ?_) (fun h0 => ?_) | refine AWPD.cond rfl (fun h0 => ?_) (fun h0 => ?_)
  · try dsimp only [Ty.T] at h0
    try simp only [castL_self] at h0
    try simp only [Int.toNat_natCast] at h0
    try simp only [Int.toNat_zero] at h0
    refine AWPD.seq fun K5 hK5 => ?_
    -- region 3
    refine AWPD.keep [6] rfl ?_
    refine AWPD.region tabOK rfl ?_
    refine hK5 _ _ ?_
    clear hK5
    refine AWPD.ret (And.intro (.inl rfl) ?_)
    -- result 0
    exact ⟨fitN rfl (by unfold leftV; rw [if_neg h0]) (by decide), fitE rfl rfl⟩
  · try dsimp only [Ty.T] at h0
    try simp only [castL_self] at h0
    try simp only [Int.toNat_natCast] at h0
    try simp only [Int.toNat_zero] at h0
    have he : wldE l = 0 := by simpa using h0
    have g := wld_ok he
    have gl := g.1
    refine AWPD.skip ?_
    refine hK2 _ _ ?_
    clear hK2
    refine AWPD.seq fun K6 hK6 => ?_
    -- region 4
    refine AWPD.keep [0, 1] rfl ?_
    refine AWPD.region tabOK rfl ?_
    refine hK6 _ _ ?_
    clear hK6
    refine AWPD.seq fun K7 hK7 => ?_
    refine AWPD.seq fun K8 hK8 => ?_
    -- region 5
    refine AWPD.keep [0, 1, 7] rfl ?_
    refine AWPD.region tabOK rfl ?_
    refine hK8 _ _ ?_
    clear hK8
    refine AWPD.block ?_
    -- LOOP 0 live [1, 7, 15, 16, 17] changed [7, 17]
    refine AWPD.nilRow 7 24 .two rfl (by decide) ?_
    refine AWPD.loopK (σ := Nat) [1, 15, 16] (fun i base => (7, .ob 0) :: (17, .i (i : Int)) :: base) (fun i => [.row 24 .two (leftP l s i)]) (fun n i => n + i = l.length) (l.length) 0 [0] rfl rfl (by omega) (by decide) ⟨⟨rfl, rfl, rfl⟩, trivial⟩ (by repeat' first | exact True.intro | exact rfl | exact ⟨rfl, rfl⟩ | refine And.intro ?_ ?_) fun n0 i hI0 => ?_
    have hn0 := hI0
    have hpl := leftP_len l s i
    refine AWPD.seq fun K9 hK9 => ?_
    -- region 6
    refine AWPD.keep [1, 7, 15, 16, 17] rfl ?_
    refine AWPD.region tabOK rfl ?_
    refine hK9 _ _ ?_
    clear hK9
    refine AWPD.seq fun K10 hK10 => ?_
    first | refine AWPD.condP rfl (fun h1 => ?_) (fun h1 => ?_) | refine AWPD.condN rfl (fun h1 => ?_) (fun h1 => ?_) | refine AWPD.condAP rfl (fun h1 => ?_) (fun h1 => ?_) | refine AWPD.condOP rfl (fun h1 => ?_) (fun h1 => ?_) | refine AWPD.condONN rfl (fun h1 => ?_) (fun h1 => ?_) | refine AWPD.condOPN rfl (fun h1 => ?_) (fun h1 => ?_) | refine AWPD.condA rfl (fun h1 => ?_) (fun h1 => ?_) | refine AWPD.condO rfl (fun h1 => ?_) (fun h1 => ?_) | refine AWPD.cond rfl (fun h1 => ?_) (fun h1 => ?_)
    · try dsimp only [Ty.T] at h1
      try simp only [castL_self] at h1
      try simp only [Int.toNat_natCast] at h1
      try simp only [Int.toNat_zero] at h1
      have hil : i < l.length := by omega
      refine AWPD.skip ?_
      refine hK10 _ _ ?_
      clear hK10
      refine AWPD.seq fun K11 hK11 => ?_
      refine AWPD.block ?_
      refine AWPD.seq fun K12 hK12 => ?_
      -- region 7
      refine AWPD.keep [1, 7, 15, 16, 17] rfl ?_
      refine AWPD.region tabOK rfl ?_
      repeat refine And.intro (by first | exact fun h => h | exact fun _ => rfl | (intro h; rw [h]; rfl) | omega | (intros; (try dsimp only [Ty.T, Ty.size]); (try simp only [castL_self, Int.toNat_natCast, Int.toNat_zero, Int.toNat_one, true_and, List.length_append, List.length_set, List.length_drop, List.length_take, List.length_replicate, List.length_cons, List.length_nil, Nat.zero_add, Nat.mul_one]); omega) | decide | (intros; simp_all; done) | (intros; simp_all; omega)) ?_
      refine hK12 _ _ ?_
      clear hK12
      refine AWPD.seq fun K13 hK13 => ?_
      -- region 8
      refine AWPD.keep [1, 7, 9, 15, 16, 17] rfl ?_
      refine AWPD.region tabOK rfl ?_
      repeat refine And.intro (by first | exact fun h => h | exact fun _ => rfl | (intro h; rw [h]; rfl) | omega | (intros; (try dsimp only [Ty.T, Ty.size]); (try simp only [castL_self, Int.toNat_natCast, Int.toNat_zero, Int.toNat_one, true_and, List.length_append, List.length_set, List.length_drop, List.length_take, List.length_replicate, List.length_cons, List.length_nil, Nat.zero_add, Nat.mul_one]); omega) | decide | (intros; simp_all; done) | (intros; simp_all; omega)) ?_
      refine hK13 _ _ ?_
      clear hK13
      first | refine AWPD.condP rfl (fun h2 => ?_) (fun h2 => ?_) | refine AWPD.condN rfl (fun h2 => ?_) (fun h2 => ?_) | refine AWPD.condAP rfl (fun h2 => ?_) (fun h2 => ?_) | refine AWPD.condOP rfl (fun h2 => ?_) (fun h2 => ?_) | refine AWPD.condONN rfl (fun h2 => ?_) (fun h2 => ?_) | refine AWPD.condOPN rfl (fun h2 => ?_) (fun h2 => ?_) | refine AWPD.condA rfl (fun h2 => ?_) (fun h2 => ?_) | refine AWPD.condO rfl (fun h2 => ?_) (fun h2 => ?_) | refine AWPD.cond rfl (fun h2 => ?_) (fun h2 => ?_)
      · try dsimp only [Ty.T] at h2
        try simp only [castL_self] at h2
        try simp only [Int.toNat_natCast] at h2
        try simp only [Int.toNat_zero] at h2
        have hs2 : (l.getD i (0, 0)).2 = s := h2
        -- region 9
        refine AWPD.keep [1, 7, 9, 15, 16, 17] rfl ?_
        refine AWPD.region tabOK rfl ?_
        repeat refine And.intro (by first | exact fun h => h | exact fun _ => rfl | (intro h; rw [h]; rfl) | omega | (intros; (try dsimp only [Ty.T, Ty.size]); (try simp only [castL_self, Int.toNat_natCast, Int.toNat_zero, Int.toNat_one, true_and, List.length_append, List.length_set, List.length_drop, List.length_take, List.length_replicate, List.length_cons, List.length_nil, Nat.zero_add, Nat.mul_one]); omega) | decide | (intros; simp_all; done) | (intros; simp_all; omega)) ?_
        refine hK11 _ _ ?_
        clear hK11
        -- region 10
        refine AWPD.keep [1, 7, 15, 16, 17] rfl ?_
        refine AWPD.region tabOK rfl ?_
        repeat refine And.intro (by first | exact fun h => h | exact fun _ => rfl | (intro h; rw [h]; rfl) | omega | (intros; (try dsimp only [Ty.T, Ty.size]); (try simp only [castL_self, Int.toNat_natCast, Int.toNat_zero, Int.toNat_one, true_and, List.length_append, List.length_set, List.length_drop, List.length_take, List.length_replicate, List.length_cons, List.length_nil, Nat.zero_add, Nat.mul_one]); omega) | decide | (intros; simp_all; done) | (intros; simp_all; omega)) ?_
        refine ⟨n0 - 1, i + 1, [2], by omega, by omega, ⟨by decide, rfl⟩, ⟨⟨rfl, rfl, (by rw [leftP, if_pos hs2]; rfl)⟩, trivial⟩, ?_⟩
        repeat' first | exact True.intro | exact rfl | exact ⟨rfl, rfl⟩ | refine And.intro ?_ ?_
      · try dsimp only [Ty.T] at h2
        try simp only [castL_self] at h2
        try simp only [Int.toNat_natCast] at h2
        try simp only [Int.toNat_zero] at h2
        have hs2 : ¬(l.getD i (0, 0)).2 = s := h2
        refine AWPD.skip ?_
        refine hK11 _ _ ?_
        clear hK11
        -- region 10
        refine AWPD.keep [1, 7, 15, 16, 17] rfl ?_
        refine AWPD.region tabOK rfl ?_
        repeat refine And.intro (by first | exact fun h => h | exact fun _ => rfl | (intro h; rw [h]; rfl) | omega | (intros; (try dsimp only [Ty.T, Ty.size]); (try simp only [castL_self, Int.toNat_natCast, Int.toNat_zero, Int.toNat_one, true_and, List.length_append, List.length_set, List.length_drop, List.length_take, List.length_replicate, List.length_cons, List.length_nil, Nat.zero_add, Nat.mul_one]); omega) | decide | (intros; simp_all; done) | (intros; simp_all; omega)) ?_
        refine ⟨n0 - 1, i + 1, [0], by omega, by omega, ⟨by decide, rfl⟩, ⟨⟨rfl, rfl, (by rw [leftP, if_neg hs2]; rfl)⟩, trivial⟩, ?_⟩
        repeat' first | exact True.intro | exact rfl | exact ⟨rfl, rfl⟩ | refine And.intro ?_ ?_
    · try dsimp only [Ty.T] at h1
      try simp only [castL_self] at h1
      try simp only [Int.toNat_natCast] at h1
      try simp only [Int.toNat_zero] at h1
      have hil : i = l.length := by omega
      refine AWPD.exit ?_
      refine hK7 _ _ ?_
      clear hK7
      refine AWPD.seq fun K14 hK14 => ?_
      -- region 11
      refine AWPD.freeze 7 rfl rfl rfl ?_
      refine AWPD.keep [7] rfl ?_
      refine AWPD.region tabOK rfl ?_
      refine Exists.intro _ (Exists.intro _ (And.intro (StepD.call (column_fn (leftP l s i) 0 (by omega) (by omega)) rfl rfl rfl) (And.intro rfl (And.intro trivial ?_))))
      refine hK14 _ _ ?_
      clear hK14
      refine AWPD.ret (And.intro (.inl rfl) ?_)
      -- result 1
      exact ⟨⟨rfl, (by unfold leftV; rw [if_pos he, hil]; rfl)⟩, fitE rfl he.symm⟩
theorem blind_fn (l : List (Int × Int)) : LiftsD Try.prog 8 [.sl .two l] (.tup [.b (blindB l), .sl .int (blindL l), .er 45 (wldE l)]) := by
  refine LiftsD.of_body 40 [.tmp 2, .tmp 3, .tmp 4] Try.func8 rfl Try.ntmps8 (by kernel_rfl) rfl rfl fun w0 X0 => ?_
  refine AWPD.seq fun K1 hK1 => ?_
  -- region 0
  refine AWPD.keep [0] rfl ?_
  refine AWPD.region tabOK rfl ?_
  refine hK1 _ _ ?_
  clear hK1
  refine AWPD.seq fun K2 hK2 => ?_
  refine AWPD.seq fun K3 hK3 => ?_
  -- region 1
  refine AWPD.keep [0] rfl ?_
  refine AWPD.region tabOK rfl ?_
  refine Exists.intro _ (Exists.intro _ (And.intro (StepD.call (dcheck_fn _) rfl rfl rfl) (And.intro rfl (And.intro trivial ?_))))
  refine hK3 _ _ ?_
  clear hK3
  refine AWPD.seq fun K4 hK4 => ?_
  -- region 2
  refine AWPD.keep [0, 5] rfl ?_
  refine AWPD.region tabOK rfl ?_
  refine hK4 _ _ ?_
  clear hK4
  first | refine AWPD.condP rfl (fun h0 => ?_) (fun h0 => ?_) | refine AWPD.condN rfl (fun h0 => ?_) (fun h0 => ?_) | refine AWPD.condAP rfl (fun h0 => ?_) (fun h0 => ?_) | refine AWPD.condOP rfl (fun h0 => ?_) (fun h0 => ?_) | refine AWPD.condONN rfl (fun h0 => ?_) (fun h0 => ?_) | refine AWPD.condOPN rfl (fun h0 => ?_) (fun h0 => ?_) | refine AWPD.condA rfl (fun h0 => ?_) (fun h0 => ?_) | refine AWPD.condO rfl (fun h0 => ?_) (fun h0 => ?_) | refine AWPD.cond rfl (fun h0 => ?_) (fun h0 => ?_)
  · try dsimp only [Ty.T] at h0
    try simp only [castL_self] at h0
    try simp only [Int.toNat_natCast] at h0
    try simp only [Int.toNat_zero] at h0
    refine AWPD.seq fun K5 hK5 => ?_
    -- region 3
    refine AWPD.keep [5] rfl ?_
    refine AWPD.region tabOK rfl ?_
    refine hK5 _ _ ?_
    clear hK5
    refine AWPD.ret (And.intro (.inl rfl) ?_)
    -- result 0
    exact ⟨fitB rfl (by unfold blindB; rw [decide_eq_false h0]; rfl), fitN rfl (by unfold blindL; rw [if_neg h0]) (by decide), fitE rfl rfl⟩
  · try dsimp only [Ty.T] at h0
    try simp only [castL_self] at h0
    try simp only [Int.toNat_natCast] at h0
    try simp only [Int.toNat_zero] at h0
    have he : wldE l = 0 := by simpa using h0
    have g := wld_ok he
    have gl := g.1
    have hX := colV_len l 0
    have hY := colV_len l 1
    refine AWPD.skip ?_
    refine hK2 _ _ ?_
    clear hK2
    refine AWPD.seq fun K6 hK6 => ?_
    refine AWPD.seq fun K7 hK7 => ?_
    -- region 4
    refine AWPD.keep [0] rfl ?_
    refine AWPD.region tabOK rfl ?_
    refine Exists.intro _ (Exists.intro _ (And.intro (StepD.call (column_fn l 0 (by omega) (by omega)) rfl rfl rfl) (And.intro rfl (And.intro trivial ?_))))
    refine hK7 _ _ ?_
    clear hK7
    refine AWPD.block ?_
    -- LOOP 0 live [0, 16, 17, 18] changed [18]
    refine AWPD.loopK (σ := Nat) [0, 16, 17] (fun i base => (18, .i (i : Int)) :: base) (fun _ => []) (fun n i => n + i = (colV l 0).length ∧ misC l (colV l 0) (colV l 1) i = []) ((colV l 0).length) 0 [] rfl rfl (⟨by omega, rfl⟩) (by decide) trivial (by repeat' first | exact True.intro | exact rfl | exact ⟨rfl, rfl⟩ | refine And.intro ?_ ?_) fun n0 i hI0 => ?_
    obtain ⟨hn0, hv0⟩ := hI0
    refine AWPD.seq fun K8 hK8 => ?_
    -- region 5
    refine AWPD.keep [0, 16, 17, 18] rfl ?_
    refine AWPD.region tabOK rfl ?_
    refine hK8 _ _ ?_
    clear hK8
    refine AWPD.seq fun K9 hK9 => ?_
    first | refine AWPD.condP rfl (fun h1 => ?_) (fun h1 => ?_) | refine AWPD.condN rfl (fun h1 => ?_) (fun h1 => ?_) | refine AWPD.condAP rfl (fun h1 => ?_) (fun h1 => ?_) | refine AWPD.condOP rfl (fun h1 => ?_) (fun h1 => ?_) | refine AWPD.condONN rfl (fun h1 => ?_) (fun h1 => ?_) | refine AWPD.condOPN rfl (fun h1 => ?_) (fun h1 => ?_) | refine AWPD.condA rfl (fun h1 => ?_) (fun h1 => ?_) | refine AWPD.condO rfl (fun h1 => ?_) (fun h1 => ?_) | refine AWPD.cond rfl (fun h1 => ?_) (fun h1 => ?_)
    · try dsimp only [Ty.T] at h1
      try simp only [castL_self] at h1
      try simp only [Int.toNat_natCast] at h1
      try simp only [Int.toNat_zero] at h1
      have hix : i < (colV l 0).length := by omega
      refine AWPD.skip ?_
      refine hK9 _ _ ?_
      clear hK9
      refine AWPD.seq fun K10 hK10 => ?_
      refine AWPD.block ?_
      refine AWPD.seq fun K11 hK11 => ?_
      -- region 6
      refine AWPD.keep [0, 16, 17, 18] rfl ?_
      refine AWPD.region tabOK rfl ?_
      repeat refine And.intro (by first | exact fun h => h | exact fun _ => rfl | (intro h; rw [h]; rfl) | omega | (intros; (try dsimp only [Ty.T, Ty.size]); (try simp only [castL_self, Int.toNat_natCast, Int.toNat_zero, Int.toNat_one, true_and, List.length_append, List.length_set, List.length_drop, List.length_take, List.length_replicate, List.length_cons, List.length_nil, Nat.zero_add, Nat.mul_one]); omega) | decide | (intros; simp_all; done) | (intros; simp_all; omega)) ?_
      refine hK11 _ _ ?_
      clear hK11
      refine AWPD.seq fun K12 hK12 => ?_
      -- region 7
      refine AWPD.keep [0, 7, 16, 17, 18] rfl ?_
      refine AWPD.region tabOK rfl ?_
      refine Exists.intro _ (Exists.intro _ (And.intro (StepD.call (column_fn l 1 (by omega) (by omega)) rfl rfl rfl) (And.intro rfl (And.intro trivial ?_))))
      refine hK12 _ _ ?_
      clear hK12
      refine AWPD.block ?_
      -- LOOP 1 live [0, 7, 16, 17, 18, 23, 24, 25] changed [25]
      refine AWPD.loopK (σ := Nat) [0, 7, 16, 17, 18, 23, 24] (fun j base => (25, .i (j : Int)) :: base) (fun _ => []) (fun n j => n + j = (colV l 1).length ∧ misR l ((colV l 0).getD i 0) (colV l 1) j = []) ((colV l 1).length) 0 [] rfl rfl (⟨by omega, rfl⟩) (by decide) trivial (by repeat' first | exact True.intro | exact rfl | exact ⟨rfl, rfl⟩ | refine And.intro ?_ ?_) fun n1 j hI1 => ?_
      obtain ⟨hn1, hv1⟩ := hI1
      refine AWPD.seq fun K13 hK13 => ?_
      -- region 8
      refine AWPD.keep [0, 7, 16, 17, 18, 23, 24, 25] rfl ?_
      refine AWPD.region tabOK rfl ?_
      refine hK13 _ _ ?_
      clear hK13
      refine AWPD.seq fun K14 hK14 => ?_
      first | refine AWPD.condP rfl (fun h2 => ?_) (fun h2 => ?_) | refine AWPD.condN rfl (fun h2 => ?_) (fun h2 => ?_) | refine AWPD.condAP rfl (fun h2 => ?_) (fun h2 => ?_) | refine AWPD.condOP rfl (fun h2 => ?_) (fun h2 => ?_) | refine AWPD.condONN rfl (fun h2 => ?_) (fun h2 => ?_) | refine AWPD.condOPN rfl (fun h2 => ?_) (fun h2 => ?_) | refine AWPD.condA rfl (fun h2 => ?_) (fun h2 => ?_) | refine AWPD.condO rfl (fun h2 => ?_) (fun h2 => ?_) | refine AWPD.cond rfl (fun h2 => ?_) (fun h2 => ?_)
      · try dsimp only [Ty.T] at h2
        try simp only [castL_self] at h2
        try simp only [Int.toNat_natCast] at h2
        try simp only [Int.toNat_zero] at h2
        have hjx : j < (colV l 1).length := by omega
        refine AWPD.skip ?_
        refine hK14 _ _ ?_
        clear hK14
        refine AWPD.seq fun K15 hK15 => ?_
        refine AWPD.block ?_
        refine AWPD.seq fun K16 hK16 => ?_
        -- region 9
        refine AWPD.keep [0, 7, 16, 17, 18, 23, 24, 25] rfl ?_
        refine AWPD.region tabOK rfl ?_
        repeat refine And.intro (by first | exact fun h => h | exact fun _ => rfl | (intro h; rw [h]; rfl) | omega | (intros; (try dsimp only [Ty.T, Ty.size]); (try simp only [castL_self, Int.toNat_natCast, Int.toNat_zero, Int.toNat_one, true_and, List.length_append, List.length_set, List.length_drop, List.length_take, List.length_replicate, List.length_cons, List.length_nil, Nat.zero_add, Nat.mul_one]); omega) | decide | (intros; simp_all; done) | (intros; simp_all; omega)) ?_
        refine hK16 _ _ ?_
        clear hK16
        refine AWPD.seq fun K17 hK17 => ?_
        -- region 10
        refine AWPD.keep [0, 7, 9, 16, 17, 18, 23, 24, 25] rfl ?_
        refine AWPD.region tabOK rfl ?_
        refine Exists.intro _ (Exists.intro _ (And.intro (StepD.call (contains_fn l ((colV l 0).getD i 0, (colV l 1).getD j 0) (by omega)) rfl rfl rfl) (And.intro rfl (And.intro trivial ?_))))
        refine hK17 _ _ ?_
        clear hK17
        first | refine AWPD.cond rfl (fun h3 => ?_) (fun h3 => ?_)
        · try dsimp only [Ty.T] at h3
          try simp only [castL_self] at h3
          try simp only [Int.toNat_natCast] at h3
          try simp only [Int.toNat_zero] at h3
          have hm : ((colV l 0).getD i 0, (colV l 1).getD j 0) ∉ l := by simpa using h3
          obtain ⟨r, hr⟩ := mis_head hix hjx hv0 hv1 hm
          refine AWPD.seq fun K18 hK18 => ?_
          -- region 11
          refine AWPD.keep [7, 9] rfl ?_
          refine AWPD.region tabOK rfl ?_
          refine hK18 _ _ ?_
          clear hK18
          refine AWPD.ret (And.intro (.inl rfl) ?_)
          -- result 1
          exact ⟨fitB rfl (by unfold blindB; rw [hr]; simp), ⟨rfl, (by unfold blindL; rw [if_pos he, hr]; rfl)⟩, fitE rfl he.symm⟩
        · try dsimp only [Ty.T] at h3
          try simp only [castL_self] at h3
          try simp only [Int.toNat_natCast] at h3
          try simp only [Int.toNat_zero] at h3
          have hm : ((colV l 0).getD i 0, (colV l 1).getD j 0) ∈ l := by simpa using h3
          refine AWPD.skip ?_
          refine hK15 _ _ ?_
          clear hK15
          -- region 12
          refine AWPD.keep [0, 7, 16, 17, 18, 23, 24, 25] rfl ?_
          refine AWPD.region tabOK rfl ?_
          repeat refine And.intro (by first | exact fun h => h | exact fun _ => rfl | (intro h; rw [h]; rfl) | omega | (intros; (try dsimp only [Ty.T, Ty.size]); (try simp only [castL_self, Int.toNat_natCast, Int.toNat_zero, Int.toNat_one, true_and, List.length_append, List.length_set, List.length_drop, List.length_take, List.length_replicate, List.length_cons, List.length_nil, Nat.zero_add, Nat.mul_one]); omega) | decide | (intros; simp_all; done) | (intros; simp_all; omega)) ?_
          refine ⟨n1 - 1, j + 1, [], by omega, ⟨by omega, by rw [misR_yes hm, hv1]⟩, ⟨by decide, rfl⟩, trivial, ?_⟩
          repeat' first | exact True.intro | exact rfl | exact ⟨rfl, rfl⟩ | refine And.intro ?_ ?_
      · try dsimp only [Ty.T] at h2
        try simp only [castL_self] at h2
        try simp only [Int.toNat_natCast] at h2
        try simp only [Int.toNat_zero] at h2
        have hjx : j = (colV l 1).length := by omega
        refine AWPD.exit ?_
        refine hK10 _ _ ?_
        clear hK10
        -- region 13
        refine AWPD.keep [0, 16, 17, 18] rfl ?_
        refine AWPD.region tabOK rfl ?_
        repeat refine And.intro (by first | exact fun h => h | exact fun _ => rfl | (intro h; rw [h]; rfl) | omega | (intros; (try dsimp only [Ty.T, Ty.size]); (try simp only [castL_self, Int.toNat_natCast, Int.toNat_zero, Int.toNat_one, true_and, List.length_append, List.length_set, List.length_drop, List.length_take, List.length_replicate, List.length_cons, List.length_nil, Nat.zero_add, Nat.mul_one]); omega) | decide | (intros; simp_all; done) | (intros; simp_all; omega)) ?_
        refine ⟨n0 - 1, i + 1, [], by omega, ⟨by omega, by rw [misC, hv0, ← hjx, hv1]; rfl⟩, ⟨by decide, rfl⟩, trivial, ?_⟩
        repeat' first | exact True.intro | exact rfl | exact ⟨rfl, rfl⟩ | refine And.intro ?_ ?_
    · try dsimp only [Ty.T] at h1
      try simp only [castL_self] at h1
      try simp only [Int.toNat_natCast] at h1
      try simp only [Int.toNat_zero] at h1
      have hix : i = (colV l 0).length := by omega
      have hmv : misV l = [] := by unfold misV; rw [← hix]; exact hv0
      refine AWPD.exit ?_
      refine hK6 _ _ ?_
      clear hK6
      refine AWPD.seq fun K19 hK19 => ?_
      -- region 14
      refine AWPD.keep [] rfl ?_
      refine AWPD.region tabOK rfl ?_
      refine hK19 _ _ ?_
      clear hK19
      refine AWPD.ret (And.intro (.inl rfl) ?_)
      -- result 2
      exact ⟨fitB rfl (by unfold blindB; rw [hmv, decide_eq_true he]; rfl), fitN rfl (by unfold blindL; rw [if_pos he, hmv]) (by decide), fitE rfl he.symm⟩
theorem mix_fn (l : List (Int × Int)) : LiftsD Try.prog 10 [.sl .two l] (.tup [.sl .two (mixV l), .er 45 (mixE l)]) := by
  refine LiftsD.of_body 51 [.tmp 2, .tmp 3] Try.func10 rfl Try.ntmps10 (by kernel_rfl) rfl rfl fun w0 X0 => ?_
  refine AWPD.seq fun K1 hK1 => ?_
  -- region 0
  refine AWPD.keep [0] rfl ?_
  refine AWPD.region tabOK rfl ?_
  refine hK1 _ _ ?_
  clear hK1
  refine AWPD.seq fun K2 hK2 => ?_
  refine AWPD.seq fun K3 hK3 => ?_
  -- region 1
  refine AWPD.keep [0] rfl ?_
  refine AWPD.region tabOK rfl ?_
  refine Exists.intro _ (Exists.intro _ (And.intro (StepD.call (dcheck_fn _) rfl rfl rfl) (And.intro rfl (And.intro trivial ?_))))
  refine hK3 _ _ ?_
  clear hK3
  refine AWPD.seq fun K4 hK4 => ?_
  -- region 2
  refine AWPD.keep [0, 4] rfl ?_
  refine AWPD.region tabOK rfl ?_
  refine hK4 _ _ ?_
  clear hK4
  first | refine AWPD.condP rfl (fun h0 => ?_) (fun h0 => ?_) | refine AWPD.condN rfl (fun h0 => ?_) (fun h0 => ?_) | refine AWPD.condAP rfl (fun h0 => ?_) (fun h0 => ?_) | refine AWPD.condOP rfl (fun h0 => ?_) (fun h0 => ?_) | refine AWPD.condONN rfl (fun h0 => ?_) (fun h0 => ?_) | refine AWPD.condOPN rfl (fun h0 => ?_) (fun h0 => ?_) | refine AWPD.condA rfl (fun h0 => ?_) (fun h0 => ?_) | refine AWPD.condO rfl (fun h0 => ?_) (fun h0 => ?_) | refine AWPD.cond rfl (fun h0 => ?_) (fun h0 => ?_)
  · try dsimp only [Ty.T] at h0
    try simp only [castL_self] at h0
    try simp only [Int.toNat_natCast] at h0
    try simp only [Int.toNat_zero] at h0
    refine AWPD.seq fun K5 hK5 => ?_
    -- region 3
    refine AWPD.keep [4] rfl ?_
    refine AWPD.region tabOK rfl ?_
    refine hK5 _ _ ?_
    clear hK5
    refine AWPD.ret (And.intro (.inl rfl) ?_)
    -- result 0
    have hE : mixE l = wldE l := by unfold mixE; rw [if_neg h0]
    exact ⟨fitN rfl (by unfold mixV; rw [hE, if_neg h0]) (by decide), fitE rfl hE.symm⟩
  · try dsimp only [Ty.T] at h0
    try simp only [castL_self] at h0
    try simp only [Int.toNat_natCast] at h0
    try simp only [Int.toNat_zero] at h0
    have he : wldE l = 0 := by simpa using h0
    have g := wld_ok he
    have gl := g.1
    have hX := colV_len l 0
    have hY := colV_len l 1
    refine AWPD.skip ?_
    refine hK2 _ _ ?_
    clear hK2
    refine AWPD.seq fun K6 hK6 => ?_
    -- region 4
    refine AWPD.keep [0] rfl ?_
    refine AWPD.region tabOK rfl ?_
    refine hK6 _ _ ?_
    clear hK6
    refine AWPD.seq fun K7 hK7 => ?_
    refine AWPD.seq fun K8 hK8 => ?_
    -- region 5
    refine AWPD.keep [0, 5] rfl ?_
    refine AWPD.region tabOK rfl ?_
    refine Exists.intro _ (Exists.intro _ (And.intro (StepD.call (column_fn l 0 (by omega) (by omega)) rfl rfl rfl) (And.intro rfl (And.intro trivial ?_))))
    refine hK8 _ _ ?_
    clear hK8
    refine AWPD.block ?_
    -- LOOP 0 live [0, 5, 17, 18, 19] changed [5, 19]
    refine AWPD.nilRow 5 24 .two rfl (by decide) ?_
    refine AWPD.loopK (σ := Nat) [0, 17, 18] (fun i base => (5, .ob 0) :: (19, .i (i : Int)) :: base) (fun i => [.row 24 .two (misC l (colV l 0) (colV l 1) i)]) (fun n i => n + i = (colV l 0).length) ((colV l 0).length) 0 [0] rfl rfl (by omega) (by decide) ⟨⟨rfl, rfl, rfl⟩, trivial⟩ (by repeat' first | exact True.intro | exact rfl | exact ⟨rfl, rfl⟩ | refine And.intro ?_ ?_) fun n0 i hI0 => ?_
    have hn0 := hI0
    refine AWPD.seq fun K9 hK9 => ?_
    -- region 6
    refine AWPD.keep [0, 5, 17, 18, 19] rfl ?_
    refine AWPD.region tabOK rfl ?_
    refine hK9 _ _ ?_
    clear hK9
    refine AWPD.seq fun K10 hK10 => ?_
    first | refine AWPD.condP rfl (fun h1 => ?_) (fun h1 => ?_) | refine AWPD.condN rfl (fun h1 => ?_) (fun h1 => ?_) | refine AWPD.condAP rfl (fun h1 => ?_) (fun h1 => ?_) | refine AWPD.condOP rfl (fun h1 => ?_) (fun h1 => ?_) | refine AWPD.condONN rfl (fun h1 => ?_) (fun h1 => ?_) | refine AWPD.condOPN rfl (fun h1 => ?_) (fun h1 => ?_) | refine AWPD.condA rfl (fun h1 => ?_) (fun h1 => ?_) | refine AWPD.condO rfl (fun h1 => ?_) (fun h1 => ?_) | refine AWPD.cond rfl (fun h1 => ?_) (fun h1 => ?_)
    · try dsimp only [Ty.T] at h1
      try simp only [castL_self] at h1
      try simp only [Int.toNat_natCast] at h1
      try simp only [Int.toNat_zero] at h1
      have hix : i < (colV l 0).length := by omega
      refine AWPD.skip ?_
      refine hK10 _ _ ?_
      clear hK10
      refine AWPD.seq fun K11 hK11 => ?_
      refine AWPD.block ?_
      refine AWPD.seq fun K12 hK12 => ?_
      -- region 7
      refine AWPD.keep [0, 5, 17, 18, 19] rfl ?_
      refine AWPD.region tabOK rfl ?_
      repeat refine And.intro (by first | exact fun h => h | exact fun _ => rfl | (intro h; rw [h]; rfl) | omega | (intros; (try dsimp only [Ty.T, Ty.size]); (try simp only [castL_self, Int.toNat_natCast, Int.toNat_zero, Int.toNat_one, true_and, List.length_append, List.length_set, List.length_drop, List.length_take, List.length_replicate, List.length_cons, List.length_nil, Nat.zero_add, Nat.mul_one]); omega) | decide | (intros; simp_all; done) | (intros; simp_all; omega)) ?_
      refine hK12 _ _ ?_
      clear hK12
      refine AWPD.seq fun K13 hK13 => ?_
      -- region 8
      refine AWPD.keep [0, 5, 7, 17, 18, 19] rfl ?_
      refine AWPD.region tabOK rfl ?_
      refine Exists.intro _ (Exists.intro _ (And.intro (StepD.call (column_fn l 1 (by omega) (by omega)) rfl rfl rfl) (And.intro rfl (And.intro trivial ?_))))
      refine hK13 _ _ ?_
      clear hK13
      refine AWPD.block ?_
      -- LOOP 1 live [0, 5, 7, 17, 18, 19, 24, 25, 26] changed [5, 26]
      refine AWPD.loopK (σ := Nat) [0, 7, 17, 18, 19, 24, 25] (fun j base => (5, .ob 0) :: (26, .i (j : Int)) :: base) (fun j => [.row 24 .two (misC l (colV l 0) (colV l 1) i ++ misR l ((colV l 0).getD i 0) (colV l 1) j)]) (fun n j => n + j = (colV l 1).length) ((colV l 1).length) 0 [0] rfl rfl (by omega) (by decide) ⟨⟨rfl, rfl, (by show misC l (colV l 0) (colV l 1) i = _; simp [misR])⟩, trivial⟩ (by repeat' first | exact True.intro | exact rfl | exact ⟨rfl, rfl⟩ | refine And.intro ?_ ?_) fun n1 j hI1 => ?_
      have hn1 := hI1
      have hcb := misC_b gl hix (j := j) (by omega)
      refine AWPD.seq fun K14 hK14 => ?_
      -- region 9
      refine AWPD.keep [0, 5, 7, 17, 18, 19, 24, 25, 26] rfl ?_
      refine AWPD.region tabOK rfl ?_
      refine hK14 _ _ ?_
      clear hK14
      refine AWPD.seq fun K15 hK15 => ?_
      first | refine AWPD.condP rfl (fun h2 => ?_) (fun h2 => ?_) | refine AWPD.condN rfl (fun h2 => ?_) (fun h2 => ?_) | refine AWPD.condAP rfl (fun h2 => ?_) (fun h2 => ?_) | refine AWPD.condOP rfl (fun h2 => ?_) (fun h2 => ?_) | refine AWPD.condONN rfl (fun h2 => ?_) (fun h2 => ?_) | refine AWPD.condOPN rfl (fun h2 => ?_) (fun h2 => ?_) | refine AWPD.condA rfl (fun h2 => ?_) (fun h2 => ?_) | refine AWPD.condO rfl (fun h2 => ?_) (fun h2 => ?_) | refine AWPD.cond rfl (fun h2 => ?_) (fun h2 => ?_)
      · try dsimp only [Ty.T] at h2
        try simp only [castL_self] at h2
        try simp only [Int.toNat_natCast] at h2
        try simp only [Int.toNat_zero] at h2
        have hjx : j < (colV l 1).length := by omega
        refine AWPD.skip ?_
        refine hK15 _ _ ?_
        clear hK15
        refine AWPD.seq fun K16 hK16 => ?_
        refine AWPD.block ?_
        refine AWPD.seq fun K17 hK17 => ?_
        -- region 10
        refine AWPD.keep [0, 5, 7, 17, 18, 19, 24, 25, 26] rfl ?_
        refine AWPD.region tabOK rfl ?_
        repeat refine And.intro (by first | exact fun h => h | exact fun _ => rfl | (intro h; rw [h]; rfl) | omega | (intros; (try dsimp only [Ty.T, Ty.size]); (try simp only [castL_self, Int.toNat_natCast, Int.toNat_zero, Int.toNat_one, true_and, List.length_append, List.length_set, List.length_drop, List.length_take, List.length_replicate, List.length_cons, List.length_nil, Nat.zero_add, Nat.mul_one]); omega) | decide | (intros; simp_all; done) | (intros; simp_all; omega)) ?_
        refine hK17 _ _ ?_
        clear hK17
        refine AWPD.seq fun K18 hK18 => ?_
        -- region 11
        refine AWPD.keep [0, 5, 7, 9, 17, 18, 19, 24, 25, 26] rfl ?_
        refine AWPD.region tabOK rfl ?_
        repeat refine And.intro (by first | exact fun h => h | exact fun _ => rfl | (intro h; rw [h]; rfl) | omega | (intros; (try dsimp only [Ty.T, Ty.size]); (try simp only [castL_self, Int.toNat_natCast, Int.toNat_zero, Int.toNat_one, true_and, List.length_append, List.length_set, List.length_drop, List.length_take, List.length_replicate, List.length_cons, List.length_nil, Nat.zero_add, Nat.mul_one]); omega) | decide | (intros; simp_all; done) | (intros; simp_all; omega)) ?_
        refine hK18 _ _ ?_
        clear hK18
        refine AWPD.seq fun K19 hK19 => ?_
        -- region 12
        refine AWPD.keep [0, 5, 7, 10, 17, 18, 19, 24, 25, 26] rfl ?_
        refine AWPD.region tabOK rfl ?_
        repeat refine And.intro (by first | exact fun h => h | exact fun _ => rfl | (intro h; rw [h]; rfl) | omega | (intros; (try dsimp only [Ty.T, Ty.size]); (try simp only [castL_self, Int.toNat_natCast, Int.toNat_zero, Int.toNat_one, true_and, List.length_append, List.length_set, List.length_drop, List.length_take, List.length_replicate, List.length_cons, List.length_nil, Nat.zero_add, Nat.mul_one]); omega) | decide | (intros; simp_all; done) | (intros; simp_all; omega)) ?_
        refine Exists.intro _ (Exists.intro _ (And.intro (StepD.call (contains_fn l ((colV l 0).getD i 0, (colV l 1).getD j 0) (by omega)) rfl rfl rfl) (And.intro rfl (And.intro trivial ?_))))
        refine hK19 _ _ ?_
        clear hK19
        first | refine AWPD.cond rfl (fun h3 => ?_) (fun h3 => ?_)
        · try dsimp only [Ty.T] at h3
          try simp only [castL_self] at h3
          try simp only [Int.toNat_natCast] at h3
          try simp only [Int.toNat_zero] at h3
          have hm : ((colV l 0).getD i 0, (colV l 1).getD j 0) ∉ l := by simpa using h3
          -- region 13
          refine AWPD.keep [0, 5, 7, 10, 17, 18, 19, 24, 25, 26] rfl ?_
          refine AWPD.region tabOK rfl ?_
          repeat refine And.intro (by first | exact fun h => h | exact fun _ => rfl | (intro h; rw [h]; rfl) | omega | (intros; (try dsimp only [Ty.T, Ty.size]); (try simp only [castL_self, Int.toNat_natCast, Int.toNat_zero, Int.toNat_one, true_and, List.length_append, List.length_set, List.length_drop, List.length_take, List.length_replicate, List.length_cons, List.length_nil, Nat.zero_add, Nat.mul_one]); omega) | decide | (intros; simp_all; done) | (intros; simp_all; omega)) ?_
          refine hK16 _ _ ?_
          clear hK16
          -- region 14
          refine AWPD.keep [0, 5, 7, 17, 18, 19, 24, 25, 26] rfl ?_
          refine AWPD.region tabOK rfl ?_
          repeat refine And.intro (by first | exact fun h => h | exact fun _ => rfl | (intro h; rw [h]; rfl) | omega | (intros; (try dsimp only [Ty.T, Ty.size]); (try simp only [castL_self, Int.toNat_natCast, Int.toNat_zero, Int.toNat_one, true_and, List.length_append, List.length_set, List.length_drop, List.length_take, List.length_replicate, List.length_cons, List.length_nil, Nat.zero_add, Nat.mul_one]); omega) | decide | (intros; simp_all; done) | (intros; simp_all; omega)) ?_
          refine ⟨n1 - 1, j + 1, [2], by omega, by omega, ⟨by decide, rfl⟩, ⟨⟨rfl, rfl, (by rw [misR_no hm, ← List.append_assoc]; rfl)⟩, trivial⟩, ?_⟩
          repeat' first | exact True.intro | exact rfl | exact ⟨rfl, rfl⟩ | refine And.intro ?_ ?_
        · try dsimp only [Ty.T] at h3
          try simp only [castL_self] at h3
          try simp only [Int.toNat_natCast] at h3
          try simp only [Int.toNat_zero] at h3
          have hm : ((colV l 0).getD i 0, (colV l 1).getD j 0) ∈ l := by simpa using h3
          refine AWPD.skip ?_
          refine hK16 _ _ ?_
          clear hK16
          -- region 14
          refine AWPD.keep [0, 5, 7, 17, 18, 19, 24, 25, 26] rfl ?_
          refine AWPD.region tabOK rfl ?_
          repeat refine And.intro (by first | exact fun h => h | exact fun _ => rfl | (intro h; rw [h]; rfl) | omega | (intros; (try dsimp only [Ty.T, Ty.size]); (try simp only [castL_self, Int.toNat_natCast, Int.toNat_zero, Int.toNat_one, true_and, List.length_append, List.length_set, List.length_drop, List.length_take, List.length_replicate, List.length_cons, List.length_nil, Nat.zero_add, Nat.mul_one]); omega) | decide | (intros; simp_all; done) | (intros; simp_all; omega)) ?_
          refine ⟨n1 - 1, j + 1, [0], by omega, by omega, ⟨by decide, rfl⟩, ⟨⟨rfl, rfl, (by rw [misR_yes hm]; rfl)⟩, trivial⟩, ?_⟩
          repeat' first | exact True.intro | exact rfl | exact ⟨rfl, rfl⟩ | refine And.intro ?_ ?_
      · try dsimp only [Ty.T] at h2
        try simp only [castL_self] at h2
        try simp only [Int.toNat_natCast] at h2
        try simp only [Int.toNat_zero] at h2
        have hjx : j = (colV l 1).length := by omega
        refine AWPD.exit ?_
        refine hK11 _ _ ?_
        clear hK11
        -- region 15
        refine AWPD.keep [0, 5, 17, 18, 19] rfl ?_
        refine AWPD.region tabOK rfl ?_
        repeat refine And.intro (by first | exact fun h => h | exact fun _ => rfl | (intro h; rw [h]; rfl) | omega | (intros; (try dsimp only [Ty.T, Ty.size]); (try simp only [castL_self, Int.toNat_natCast, Int.toNat_zero, Int.toNat_one, true_and, List.length_append, List.length_set, List.length_drop, List.length_take, List.length_replicate, List.length_cons, List.length_nil, Nat.zero_add, Nat.mul_one]); omega) | decide | (intros; simp_all; done) | (intros; simp_all; omega)) ?_
        refine ⟨n0 - 1, i + 1, [0], by omega, by omega, ⟨by decide, rfl⟩, ⟨⟨rfl, rfl, (by rw [misC, hjx]; rfl)⟩, trivial⟩, ?_⟩
        repeat' first | exact True.intro | exact rfl | exact ⟨rfl, rfl⟩ | refine And.intro ?_ ?_
    · try dsimp only [Ty.T] at h1
      try simp only [castL_self] at h1
      try simp only [Int.toNat_natCast] at h1
      try simp only [Int.toNat_zero] at h1
      have hix : i = (colV l 0).length := by omega
      have hmv : misC l (colV l 0) (colV l 1) i = misV l := by unfold misV; rw [← hix]
      have hmb := misV_b gl
      refine AWPD.exit ?_
      refine hK7 _ _ ?_
      clear hK7
      refine AWPD.seq fun K20 hK20 => ?_
      refine AWPD.seq fun K21 hK21 => ?_
      -- region 16
      rw [hmv]
      refine AWPD.keep [0, 5] rfl ?_
      refine AWPD.region tabOK rfl ?_
      repeat refine And.intro (by first | exact fun h => h | exact fun _ => rfl | (intro h; rw [h]; rfl) | omega | (intros; (try dsimp only [Ty.T, Ty.size]); (try simp only [castL_self, Int.toNat_natCast, Int.toNat_zero, Int.toNat_one, true_and, List.length_append, List.length_set, List.length_drop, List.length_take, List.length_replicate, List.length_cons, List.length_nil, Nat.zero_add, Nat.mul_one]); omega) | decide | (intros; simp_all; done) | (intros; simp_all; omega)) ?_
      refine hK21 _ _ ?_
      clear hK21
      first | refine AWPD.condP rfl (fun h4 => ?_) (fun h4 => ?_) | refine AWPD.condN rfl (fun h4 => ?_) (fun h4 => ?_) | refine AWPD.condAP rfl (fun h4 => ?_) (fun h4 => ?_) | refine AWPD.condOP rfl (fun h4 => ?_) (fun h4 => ?_) | refine AWPD.condONN rfl (fun h4 => ?_) (fun h4 => ?_) | refine AWPD.condOPN rfl (fun h4 => ?_) (fun h4 => ?_) | refine AWPD.condA rfl (fun h4 => ?_) (fun h4 => ?_) | refine AWPD.condO rfl (fun h4 => ?_) (fun h4 => ?_) | refine AWPD.cond rfl (fun h4 => ?_) (fun h4 => ?_)
      · try dsimp only [Ty.T] at h4
        try simp only [castL_self] at h4
        try simp only [Int.toNat_natCast] at h4
        try simp only [Int.toNat_zero] at h4
        have hE : mixE l = 4 := by unfold mixE; rw [if_pos he, if_pos (by omega)]
        refine AWPD.seq fun K22 hK22 => ?_
        -- region 17
        refine AWPD.keep [] rfl ?_
        refine AWPD.region tabOK rfl ?_
        repeat refine And.intro (by first | exact fun h => h | exact fun _ => rfl | (intro h; rw [h]; rfl) | omega | (intros; (try dsimp only [Ty.T, Ty.size]); (try simp only [castL_self, Int.toNat_natCast, Int.toNat_zero, Int.toNat_one, true_and, List.length_append, List.length_set, List.length_drop, List.length_take, List.length_replicate, List.length_cons, List.length_nil, Nat.zero_add, Nat.mul_one]); omega) | decide | (intros; simp_all; done) | (intros; simp_all; omega)) ?_
        refine hK22 _ _ ?_
        clear hK22
        refine AWPD.ret (And.intro (.inl rfl) ?_)
        -- result 1
        exact ⟨fitN rfl (by unfold mixV; rw [hE]; rfl) (by decide), fitE rfl hE.symm⟩
      · try dsimp only [Ty.T] at h4
        try simp only [castL_self] at h4
        try simp only [Int.toNat_natCast] at h4
        try simp only [Int.toNat_zero] at h4
        have hE : mixE l = 0 := by unfold mixE; rw [if_pos he, if_neg (by omega)]
        refine AWPD.skip ?_
        refine hK20 _ _ ?_
        clear hK20
        refine AWPD.seq fun K23 hK23 => ?_
        -- region 18
        refine AWPD.keep [5] rfl ?_
        refine AWPD.region tabOK rfl ?_
        refine hK23 _ _ ?_
        clear hK23
        refine AWPD.ret (And.intro (.inl rfl) ?_)
        -- result 2
        exact ⟨fitR rfl rfl (by unfold mixV; rw [hE]; rfl), fitE rfl hE.symm⟩
end Go.Proofs.Ytkncfjcmhaaafaa
