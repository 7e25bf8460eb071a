/-
  WALKS of the document's answers on what is purged, and of the law PurgeSays.
-/
import Derived.Test.YtndoigkmdcgjfaaDoorQwLv
import Derived.Test.YtndoigkmdcgjfaaDoorQwDo
namespace Go.Proofs.YtndoigkmdcgjfaaDoor
open Go Go.Qw
set_option maxRecDepth 10000
set_option linter.unusedSimpArgs false
set_option linter.unusedVariables false
set_option linter.unusedSectionVars false
set_option maxHeartbeats 2000000


section
variable {P : Int} {A : List Int} {N S : List (List Int)} {f : List Int} {part : Int}
theorem intW_snoc (w : List Nat) (a : Nat) : intW w ++ [(a : Int)] = intW (w ++ [a]) := by simp [intW]
/-- What the document says of a part. -/
theorem quiet_same (g : GoodC P A N S f part) (h : (leftD A.length (nx N) (besN N A f part) (badN S part)) 0 0 < 0) : quietB N A f part S = true := by
  obtain ⟨g1, _, g3⟩ := left_ex (g.m.inL (f := f) (part := part)) (badN S part)
  exact (left_quiet g g1 g3).2 h
theorem loud_same (g : GoodC P A N S f part) (h : ¬(leftD A.length (nx N) (besN N A f part) (badN S part)) 0 0 < 0) : quietB N A f part S = false := by
  obtain ⟨g1, _, g3⟩ := left_ex (g.m.inL (f := f) (part := part)) (badN S part)
  cases hq : quietB N A f part S with
  | false => rfl
  | true => exact absurd ((left_quiet g g1 g3).1 hq) h
theorem word_same (g : GoodC P A N S f part) {w : List Nat} (h : ¬(leftD A.length (nx N) (besN N A f part) (badN S part)) 0 0 < 0) (hg : greedy A.length (nx N) (besN N A f part) (leftD A.length (nx N) (besN N A f part) (badN S part)) 0 0 w)
    (h0 : 0 ≤ (leftD A.length (nx N) (besN N A f part) (badN S part)) (w.foldl (nx N) 0) (w.foldl (besN N A f part) 0)) (he : ¬0 < (leftD A.length (nx N) (besN N A f part) (badN S part)) (w.foldl (nx N) 0) (w.foldl (besN N A f part) 0)) : intW w = quPath N A f part (quEnd N A f part S) := by
  obtain ⟨g1, _, g3⟩ := left_ex (g.m.inL (f := f) (part := part)) (badN S part)
  have e := greedy_end w hg
  exact (left_word g g1 g3 hg (by omega) (loud_same g h)).symm
theorem qW_len (g : GoodC P A N S f part) : (quietW P A N S f part).length ≤ 256 := by
  unfold quietW
  split
  · rename_i h
    obtain ⟨L, e, _, h2, _⟩ := g.loud h.2
    rw [← e]
    exact Nat.le_trans h2 (Nat.mul_le_mul g.m.few g.m.few)
  · exact Nat.zero_le _
end

theorem rquiet_fn (P : Int) (A : List Int) (N S : List (List Int)) (f : List Int) (part : Int) (he : chkE P A N S f part = 0) : LiftsD Tryd.prog 38 [.agg [.i P, .sl .int A, .sl (.sl .int) N, .sl (.sl .int) S], .sl .int f, .i part] (.tup [.b (quietV P A N S f part), .sl .int (quietW P A N S f part)]) := by
  have g := chk_good he
  have gp := g.part
  have gP := g.m.parts
  have hN := g.m.few
  have hN0 := g.m.some
  have hA6 := g.m.acts6
  have iL := g.m.inL (f := f) (part := part)
  obtain ⟨gL, glow, gcl⟩ := left_ex iL (badN S part)
  have htl := tabI_len N.length (leftD A.length (nx N) (besN N A f part) (badN S part)) N.length
  have hrw : ∀ i, i < N.length → ((tabI N.length (leftD A.length (nx N) (besN N A f part) (badN S part)) N.length).getD i []).length = N.length := fun i hi => tabI_row hi
  have hat : ∀ i j, i < N.length → j < N.length → ((tabI N.length (leftD A.length (nx N) (besN N A f part) (badN S part)) N.length).getD i []).getD j 0 = (leftD A.length (nx N) (besN N A f part) (badN S part)) i j := fun i j hi hj => tabI_at hi hj
  have hr0 := hrw 0 hN0
  have hN256 : N.length * N.length ≤ 256 := Nat.mul_le_mul hN hN
  refine LiftsD.of_body 82 [.tmp 6, .tmp 7] Tryd.func38 rfl Tryd.ntmps38 (by kernel_rfl) rfl rfl fun w0 X0 => ?_
  refine AWPD.seq fun K1 hK1 => ?_
  -- region 0
  refine AWPD.keep [0, 1, 2] rfl ?_
  refine AWPD.region tabOK rfl ?_
  refine hK1 _ _ ?_
  clear hK1
  refine AWPD.seq fun K2 hK2 => ?_
  -- region 1
  refine AWPD.keep [1, 2, 3] rfl ?_
  refine AWPD.region tabOK rfl ?_
  repeat refine And.intro (by first | exact fun h => h | exact fun _ => rfl | (intro h; rw [h]; rfl) | omega | (intros; (try dsimp only [Ty.T, Ty.size]); (try simp only [castL_self, Int.toNat_natCast, Int.toNat_zero, Int.toNat_one, true_and, List.length_append, List.length_set, List.length_drop, List.length_take, List.length_replicate, List.length_cons, List.length_nil, Nat.zero_add, Nat.mul_one]); omega) | decide | (intros; simp_all; done) | (intros; simp_all; omega)) ?_
  refine Exists.intro _ (Exists.intro _ (And.intro (StepD.call (left_fn _ _ _ _ _ _ (by assumption)) rfl rfl rfl) (And.intro rfl (And.intro trivial ?_))))
  refine hK2 _ _ ?_
  clear hK2
  refine AWPD.seq fun K3 hK3 => ?_
  refine AWPD.seq fun K4 hK4 => ?_
  -- region 2
  refine AWPD.keep [1, 2, 3, 8] rfl ?_
  refine AWPD.region tabOK rfl ?_
  repeat refine And.intro (by first | exact fun h => h | exact fun _ => rfl | (intro h; rw [h]; rfl) | omega | (intros; (try dsimp only [Ty.T, Ty.size]); (try simp only [castL_self, Int.toNat_natCast, Int.toNat_zero, Int.toNat_one, true_and, List.length_append, List.length_set, List.length_drop, List.length_take, List.length_replicate, List.length_cons, List.length_nil, Nat.zero_add, Nat.mul_one]); omega) | decide | (intros; simp_all; done) | (intros; simp_all; omega)) ?_
  refine hK4 _ _ ?_
  clear hK4
  first | refine AWPD.condP rfl (fun h0 => ?_) (fun h0 => ?_) | refine AWPD.condN rfl (fun h0 => ?_) (fun h0 => ?_) | refine AWPD.condAP rfl (fun h0 => ?_) (fun h0 => ?_) | refine AWPD.condOP rfl (fun h0 => ?_) (fun h0 => ?_) | refine AWPD.condONN rfl (fun h0 => ?_) (fun h0 => ?_) | refine AWPD.condOPN rfl (fun h0 => ?_) (fun h0 => ?_) | refine AWPD.condA rfl (fun h0 => ?_) (fun h0 => ?_) | refine AWPD.condO rfl (fun h0 => ?_) (fun h0 => ?_) | refine AWPD.cond rfl (fun h0 => ?_) (fun h0 => ?_)
  · try dsimp only [Ty.T] at h0
    try simp only [castL_self] at h0
    try simp only [Int.toNat_natCast] at h0
    try simp only [Int.toNat_zero] at h0
    rw [hat 0 0 hN0 hN0] at h0
    have hq := quiet_same g h0
    refine AWPD.seq fun K5 hK5 => ?_
    -- region 3
    refine AWPD.keep [] rfl ?_
    refine AWPD.region tabOK rfl ?_
    refine hK5 _ _ ?_
    clear hK5
    refine AWPD.ret (And.intro (.inl rfl) ?_)
    -- result 0
    exact ⟨fitB rfl (by unfold quietV; rw [if_pos he, hq]), fitN rfl (by unfold quietW; rw [if_neg (fun h => by rw [hq] at h; exact absurd h.2 (by decide))]) (by decide)⟩
  · try dsimp only [Ty.T] at h0
    try simp only [castL_self] at h0
    try simp only [Int.toNat_natCast] at h0
    try simp only [Int.toNat_zero] at h0
    rw [hat 0 0 hN0 hN0] at h0
    have hq := loud_same g h0
    refine AWPD.skip ?_
    refine hK3 _ _ ?_
    clear hK3
    refine AWPD.seq fun K6 hK6 => ?_
    -- region 4
    refine AWPD.keep [1, 2, 3, 8] rfl ?_
    refine AWPD.region tabOK rfl ?_
    refine hK6 _ _ ?_
    clear hK6
    refine AWPD.seq fun K7 hK7 => ?_
    -- region 5
    refine AWPD.keep [1, 2, 3, 8, 9] rfl ?_
    refine AWPD.region tabOK rfl ?_
    refine hK7 _ _ ?_
    clear hK7
    refine AWPD.seq fun K8 hK8 => ?_
    -- region 6
    refine AWPD.keep [1, 2, 3, 8, 9, 10] rfl ?_
    refine AWPD.region tabOK rfl ?_
    refine hK8 _ _ ?_
    clear hK8
    refine AWPD.seq fun K9 hK9 => ?_
    refine AWPD.block ?_
    -- LOOP 0 live [1, 2, 3, 8, 9, 10, 11] changed [9, 10, 11]
    refine AWPD.nilRow 9 3 .int rfl (by decide) ?_
    refine AWPD.loopK (σ := List Nat) [1, 2, 3, 8] (fun w base => (9, .ob 0) :: (10, .i ((List.foldl (nx N) 0 w : Nat) : Int)) :: (11, .i ((List.foldl (besN N A f part) 0 w : Nat) : Int)) :: base) (fun w => [.row 3 .int (intW w)]) (fun n w => (n : Int) + (w.length : Int) = (leftD A.length (nx N) (besN N A f part) (badN S part)) 0 0 ∧ greedy A.length (nx N) (besN N A f part) (leftD A.length (nx N) (besN N A f part) (badN S part)) 0 0 w ∧ 0 ≤ (leftD A.length (nx N) (besN N A f part) (badN S part)) (List.foldl (nx N) 0 w) (List.foldl (besN N A f part) 0 w)) ((leftD A.length (nx N) (besN N A f part) (badN S part)) 0 0).toNat [] [0] rfl rfl (⟨by show ((((leftD A.length (nx N) (besN N A f part) (badN S part)) 0 0).toNat : Nat) : Int) + 0 = _; omega, trivial, by show 0 ≤ (leftD A.length (nx N) (besN N A f part) (badN S part)) 0 0; omega⟩) (by decide) ⟨⟨rfl, rfl, rfl⟩, trivial⟩ (by repeat' first | exact True.intro | exact rfl | exact ⟨rfl, rfl⟩ | refine And.intro ?_ ?_) fun n0 w hI0 => ?_
    obtain ⟨hn0, hgr, hpos⟩ := hI0
    have hin := greedy_in w hgr
    have hend := greedy_end w hgr
    have hsl := fold_in iL.x w 0 hN0 hin
    have hul := fold_in iL.y w 0 hN0 hin
    have htop := gL.top hN0 hN0
    have hws := word_same g h0 hgr hpos
    generalize hse : List.foldl (nx N) 0 w = s at *
    generalize hue : List.foldl (besN N A f part) 0 w = u at *
    refine AWPD.seq fun K10 hK10 => ?_
    refine AWPD.seq fun K11 hK11 => ?_
    -- region 7
    have hr1 := hrw s hsl
    refine AWPD.keep [1, 2, 3, 8, 9, 10, 11] rfl ?_
    refine AWPD.region tabOK rfl ?_
    repeat refine And.intro (by first | exact fun h => h | exact fun _ => rfl | (intro h; rw [h]; rfl) | omega | (intros; (try dsimp only [Ty.T, Ty.size]); (try simp only [castL_self, Int.toNat_natCast, Int.toNat_zero, Int.toNat_one, true_and, List.length_append, List.length_set, List.length_drop, List.length_take, List.length_replicate, List.length_cons, List.length_nil, Nat.zero_add, Nat.mul_one]); omega) | decide | (intros; simp_all; done) | (intros; simp_all; omega)) ?_
    refine hK11 _ _ ?_
    clear hK11
    first | refine AWPD.condP rfl (fun h1 => ?_) (fun h1 => ?_) | refine AWPD.condN rfl (fun h1 => ?_) (fun h1 => ?_) | refine AWPD.condAP rfl (fun h1 => ?_) (fun h1 => ?_) | refine AWPD.condOP rfl (fun h1 => ?_) (fun h1 => ?_) | refine AWPD.condONN rfl (fun h1 => ?_) (fun h1 => ?_) | refine AWPD.condOPN rfl (fun h1 => ?_) (fun h1 => ?_) | refine AWPD.condA rfl (fun h1 => ?_) (fun h1 => ?_) | refine AWPD.condO rfl (fun h1 => ?_) (fun h1 => ?_) | refine AWPD.cond rfl (fun h1 => ?_) (fun h1 => ?_)
    · try dsimp only [Ty.T] at h1
      try simp only [castL_self] at h1
      try simp only [Int.toNat_natCast] at h1
      try simp only [Int.toNat_zero] at h1
      rw [hat s u hsl hul] at h1
      obtain ⟨a0, ha0, ha1⟩ := gL.more iL gcl hsl hul h1
      refine AWPD.skip ?_
      refine hK10 _ _ ?_
      clear hK10
      refine AWPD.block ?_
      refine AWPD.seq fun K12 hK12 => ?_
      -- region 8
      refine AWPD.keep [1, 2, 3, 8, 9, 10, 11] rfl ?_
      refine AWPD.region tabOK rfl ?_
      refine hK12 _ _ ?_
      clear hK12
      refine AWPD.seq fun K13 hK13 => ?_
      refine AWPD.block ?_
      -- LOOP 1 live [1, 2, 3, 8, 9, 10, 11, 12] changed [12]
      refine AWPD.loopK (σ := Nat) [1, 2, 3, 8, 9, 10, 11] (fun a base => (12, .i (a : Int)) :: base) (fun a => [.row 3 .int (intW w)]) (fun n a => n + a = A.length ∧ ∀ b, b < a → (leftD A.length (nx N) (besN N A f part) (badN S part)) (nx N s b) (besN N A f part u b) ≠ (leftD A.length (nx N) (besN N A f part) (badN S part)) s u - 1) (A.length) 0 [0] rfl rfl (⟨by omega, by intro b hb; omega⟩) (by decide) ⟨⟨rfl, rfl, rfl⟩, trivial⟩ (by repeat' first | exact True.intro | exact rfl | exact ⟨rfl, rfl⟩ | refine And.intro ?_ ?_) fun n1 a hI1 => ?_
      obtain ⟨hn1, hv1⟩ := hI1
      have hne := hv1
      have hal : a < A.length := by
        rcases Nat.lt_or_ge a0 a with h | h
        · exact absurd ha1 (hne a0 h)
        · omega
      have hxr := g.m.nx_lt hsl hal
      have hyr := iL.y u a hul hal
      refine AWPD.seq fun K14 hK14 => ?_
      refine AWPD.seq fun K15 hK15 => ?_
      -- region 9
      have hr1 := hrw s hsl
      have hr2 := hrw _ hxr.2.2
      have hr2 : ((tabI N.length (leftD A.length (nx N) (besN N A f part) (badN S part)) N.length).getD ((N.getD s []).getD a 0).toNat []).length = N.length := hr2
      have hrow := g.m.rowN s hsl
      refine AWPD.keep [1, 2, 3, 8, 9, 10, 11, 12] rfl ?_
      refine AWPD.draw tabOK [] rfl (by kernel_rfl) ?_
      repeat refine And.intro (by first | exact fun h => h | exact fun _ => rfl | (intro h; rw [h]; rfl) | omega | (intros; (try dsimp only [Ty.T, Ty.size]); (try simp only [castL_self, Int.toNat_natCast, Int.toNat_zero, Int.toNat_one, true_and, List.length_append, List.length_set, List.length_drop, List.length_take, List.length_replicate, List.length_cons, List.length_nil, Nat.zero_add, Nat.mul_one]); omega) | decide | (intros; simp_all; done) | (intros; simp_all; omega)) ?_
      refine Exists.intro _ (Exists.intro _ (And.intro (StepD.call (beside_fn P A N S f part u a g hul hal) rfl rfl rfl) (And.intro rfl (And.intro rfl ?_))))
      repeat refine And.intro (by first | exact fun h => h | exact fun _ => rfl | (intro h; rw [h]; rfl) | omega | (intros; (try dsimp only [Ty.T, Ty.size]); (try simp only [castL_self, Int.toNat_natCast, Int.toNat_zero, Int.toNat_one, true_and, List.length_append, List.length_set, List.length_drop, List.length_take, List.length_replicate, List.length_cons, List.length_nil, Nat.zero_add, Nat.mul_one]); omega) | decide | (intros; simp_all; done) | (intros; simp_all; omega)) ?_
      refine hK15 _ _ ?_
      clear hK15
      first | refine AWPD.condP rfl (fun h2 => ?_) (fun h2 => ?_)
      · try dsimp only [Ty.T] at h2
        try simp only [castL_self] at h2
        try simp only [Int.toNat_natCast] at h2
        try simp only [Int.toNat_zero] at h2
        have hne2 : (leftD A.length (nx N) (besN N A f part) (badN S part)) (nx N s a) (besN N A f part u a) ≠ (leftD A.length (nx N) (besN N A f part) (badN S part)) s u - 1 := by
          rw [hat s u hsl hul] at h2
          have h2 : ((tabI N.length (leftD A.length (nx N) (besN N A f part) (badN S part)) N.length).getD (nx N s a) []).getD (besN N A f part u a) 0 ≠ (leftD A.length (nx N) (besN N A f part) (badN S part)) s u - 1 := h2
          rwa [hat _ _ hxr.2.2 hyr] at h2
        refine AWPD.skip ?_
        refine hK14 _ _ ?_
        clear hK14
        refine AWPD.block ?_
        -- region 10
        refine AWPD.keep [1, 2, 3, 8, 9, 10, 11, 12] rfl ?_
        refine AWPD.region tabOK rfl ?_
        repeat refine And.intro (by first | exact fun h => h | exact fun _ => rfl | (intro h; rw [h]; rfl) | omega | (intros; (try dsimp only [Ty.T, Ty.size]); (try simp only [castL_self, Int.toNat_natCast, Int.toNat_zero, Int.toNat_one, true_and, List.length_append, List.length_set, List.length_drop, List.length_take, List.length_replicate, List.length_cons, List.length_nil, Nat.zero_add, Nat.mul_one]); omega) | decide | (intros; simp_all; done) | (intros; simp_all; omega)) ?_
        refine ⟨n1 - 1, a + 1, [0], by omega, ⟨by omega, fun b hb => by
              rcases Nat.lt_or_ge b a with h | h
              · exact hne b h
              · rw [show b = a by omega]; exact hne2⟩, ⟨by decide, rfl⟩, ⟨⟨rfl, rfl, rfl⟩, trivial⟩, ?_⟩
        repeat' first | exact True.intro | exact rfl | exact ⟨rfl, rfl⟩ | refine And.intro ?_ ?_
      · try dsimp only [Ty.T] at h2
        try simp only [castL_self] at h2
        try simp only [Int.toNat_natCast] at h2
        try simp only [Int.toNat_zero] at h2
        have heq2 : (leftD A.length (nx N) (besN N A f part) (badN S part)) (nx N s a) (besN N A f part u a) = (leftD A.length (nx N) (besN N A f part) (badN S part)) s u - 1 := by
          rw [hat s u hsl hul] at h2
          have h2 : ¬((tabI N.length (leftD A.length (nx N) (besN N A f part) (badN S part)) N.length).getD (nx N s a) []).getD (besN N A f part u a) 0 ≠ (leftD A.length (nx N) (besN N A f part) (badN S part)) s u - 1 := h2
          rw [hat _ _ hxr.2.2 hyr] at h2
          exact Decidable.not_not.1 h2
        have hst : stepG A.length (nx N) (besN N A f part) (leftD A.length (nx N) (besN N A f part) (badN S part)) s u a := ⟨hal, heq2, hne⟩
        have e10 : (N.getD s []).getD a 0 = ((List.foldl (nx N) 0 (w ++ [a]) : Nat) : Int) := by rw [fold_snoc, hse]; unfold nx at hxr ⊢; omega
        have e11 : ((besN N A f part u a : Nat) : Int) = ((List.foldl (besN N A f part) 0 (w ++ [a]) : Nat) : Int) := by rw [fold_snoc, hue]
        have hgn := greedy_snoc w hgr (by rw [hse, hue]; exact hst)
        have hln : (w ++ [a]).length = w.length + 1 := by simp
        refine AWPD.exit ?_
        refine hK13 _ _ ?_
        clear hK13
        refine AWPD.seq fun K16 hK16 => ?_
        -- region 11
        have hwl := intW_len w
        refine AWPD.keep [1, 2, 3, 8, 9, 10, 11, 12] rfl ?_
        refine AWPD.region tabOK rfl ?_
        repeat refine And.intro (by first | exact fun h => h | exact fun _ => rfl | (intro h; rw [h]; rfl) | omega | (intros; (try dsimp only [Ty.T, Ty.size]); (try simp only [castL_self, Int.toNat_natCast, Int.toNat_zero, Int.toNat_one, true_and, List.length_append, List.length_set, List.length_drop, List.length_take, List.length_replicate, List.length_cons, List.length_nil, Nat.zero_add, Nat.mul_one]); omega) | decide | (intros; simp_all; done) | (intros; simp_all; omega)) ?_
        refine hK16 _ _ ?_
        clear hK16
        refine AWPD.seq fun K17 hK17 => ?_
        -- region 12
        have hrow := g.m.rowN s hsl
        refine AWPD.keep [1, 2, 3, 8, 9, 10, 11, 12] rfl ?_
        refine AWPD.region tabOK rfl ?_
        repeat refine And.intro (by first | exact fun h => h | exact fun _ => rfl | (intro h; rw [h]; rfl) | omega | (intros; (try dsimp only [Ty.T, Ty.size]); (try simp only [castL_self, Int.toNat_natCast, Int.toNat_zero, Int.toNat_one, true_and, List.length_append, List.length_set, List.length_drop, List.length_take, List.length_replicate, List.length_cons, List.length_nil, Nat.zero_add, Nat.mul_one]); omega) | decide | (intros; simp_all; done) | (intros; simp_all; omega)) ?_
        refine hK17 _ _ ?_
        clear hK17
        refine AWPD.seq fun K18 hK18 => ?_
        -- region 13
        refine AWPD.keep [1, 2, 3, 8, 9, 11, 12, 13] rfl ?_
        refine AWPD.region tabOK rfl ?_
        repeat refine And.intro (by first | exact fun h => h | exact fun _ => rfl | (intro h; rw [h]; rfl) | omega | (intros; (try dsimp only [Ty.T, Ty.size]); (try simp only [castL_self, Int.toNat_natCast, Int.toNat_zero, Int.toNat_one, true_and, List.length_append, List.length_set, List.length_drop, List.length_take, List.length_replicate, List.length_cons, List.length_nil, Nat.zero_add, Nat.mul_one]); omega) | decide | (intros; simp_all; done) | (intros; simp_all; omega)) ?_
        refine Exists.intro _ (Exists.intro _ (And.intro (StepD.call (beside_fn P A N S f part u a g hul hal) rfl rfl rfl) (And.intro rfl (And.intro trivial ?_))))
        refine hK18 _ _ ?_
        clear hK18
        -- region 14
        refine AWPD.keep [1, 2, 3, 8, 9, 11, 13] rfl ?_
        refine AWPD.region tabOK rfl ?_
        refine ⟨n0 - 1, w ++ [a], [1], by omega, ⟨by omega, hgn, by rw [fold_snoc, fold_snoc, hse, hue]; omega⟩, ⟨by decide, rfl⟩, ⟨⟨rfl, rfl, intW_snoc w a⟩, trivial⟩, ?_⟩
        repeat' first | exact e10 | exact e11 | exact True.intro | exact rfl | exact ⟨rfl, rfl⟩ | refine And.intro ?_ ?_
    · try dsimp only [Ty.T] at h1
      try simp only [castL_self] at h1
      try simp only [Int.toNat_natCast] at h1
      try simp only [Int.toNat_zero] at h1
      rw [hat s u hsl hul] at h1
      refine AWPD.exit ?_
      refine hK9 _ _ ?_
      clear hK9
      refine AWPD.seq fun K19 hK19 => ?_
      -- region 15
      refine AWPD.keep [9] rfl ?_
      refine AWPD.region tabOK rfl ?_
      refine hK19 _ _ ?_
      clear hK19
      refine AWPD.ret (And.intro (.inl rfl) ?_)
      -- result 1
      exact ⟨fitB rfl (by unfold quietV; rw [if_pos he, hq]), fitR rfl rfl (by unfold quietW; rw [if_pos ⟨he, hq⟩]; exact hws h1)⟩
theorem rpurge_fn (P : Int) (A : List Int) (N S : List (List Int)) (f : List Int) (part : Int) (w : List Int) (hb : bothE P A N S f part w = 0) : LiftsD Tryd.prog 39 [.agg [.i P, .sl .int A, .sl (.sl .int) N, .sl (.sl .int) S], .sl .int f, .i part, .sl .int w] (.sl .int (purgeL A f part w)) := by
  have g := both_ok hb
  have gp := g.part
  have gP := g.m.parts
  have gw := g.few
  refine LiftsD.of_body 38 [.tmp 8] Tryd.func39 rfl Tryd.ntmps39 (by kernel_rfl) rfl rfl fun w0 X0 => ?_
  refine AWPD.seq fun K1 hK1 => ?_
  -- region 0
  refine AWPD.keep [0, 1, 2, 3] rfl ?_
  refine AWPD.region tabOK rfl ?_
  refine hK1 _ _ ?_
  clear hK1
  refine AWPD.seq fun K2 hK2 => ?_
  -- region 1
  refine AWPD.keep [1, 2, 3, 4] rfl ?_
  refine AWPD.region tabOK rfl ?_
  refine hK2 _ _ ?_
  clear hK2
  refine AWPD.seq fun K3 hK3 => ?_
  refine AWPD.seq fun K4 hK4 => ?_
  -- region 2
  refine AWPD.keep [1, 2, 3, 4, 9] rfl ?_
  refine AWPD.region tabOK rfl ?_
  refine hK4 _ _ ?_
  clear hK4
  refine AWPD.block ?_
  -- LOOP 0 live [1, 2, 3, 4, 9, 10] changed [9, 10]
  refine AWPD.nilRow 9 3 .int rfl (by decide) ?_
  refine AWPD.loopK (σ := Nat) [1, 2, 3, 4] (fun i base => (10, .i (i : Int)) :: (9, .ob 0) :: base) (fun i => [.row 3 .int (purgeL A f part (w.take i))]) (fun n i => n + i = w.length) (w.length) 0 [0] rfl rfl (by omega) (by decide) ⟨⟨rfl, rfl, rfl⟩, trivial⟩ (by repeat' first | exact True.intro | exact rfl | exact ⟨rfl, rfl⟩ | refine And.intro ?_ ?_) fun n0 i hI0 => ?_
  have hn0 := hI0
  have hpl := purgeL_len A f part (w.take i)
  rw [List.length_take] at hpl
  refine AWPD.seq fun K5 hK5 => ?_
  refine AWPD.seq fun K6 hK6 => ?_
  -- region 3
  refine AWPD.keep [1, 2, 3, 4, 9, 10] rfl ?_
  refine AWPD.region tabOK rfl ?_
  refine hK6 _ _ ?_
  clear hK6
  first | refine AWPD.condP rfl (fun h0 => ?_) (fun h0 => ?_) | refine AWPD.condN rfl (fun h0 => ?_) (fun h0 => ?_) | refine AWPD.condAP rfl (fun h0 => ?_) (fun h0 => ?_) | refine AWPD.condOP rfl (fun h0 => ?_) (fun h0 => ?_) | refine AWPD.condONN rfl (fun h0 => ?_) (fun h0 => ?_) | refine AWPD.condOPN rfl (fun h0 => ?_) (fun h0 => ?_) | refine AWPD.condA rfl (fun h0 => ?_) (fun h0 => ?_) | refine AWPD.condO rfl (fun h0 => ?_) (fun h0 => ?_) | refine AWPD.cond rfl (fun h0 => ?_) (fun h0 => ?_)
  · try dsimp only [Ty.T] at h0
    try simp only [castL_self] at h0
    try simp only [Int.toNat_natCast] at h0
    try simp only [Int.toNat_zero] at h0
    have ha := g.act (i := i) (by omega)
    refine AWPD.skip ?_
    refine hK5 _ _ ?_
    clear hK5
    refine AWPD.seq fun K7 hK7 => ?_
    refine AWPD.block ?_
    refine AWPD.seq fun K8 hK8 => ?_
    -- region 5
    refine AWPD.keep [1, 2, 3, 4, 9, 10] rfl ?_
    refine AWPD.draw tabOK [] rfl (by kernel_rfl) ?_
    repeat refine And.intro (by first | exact fun h => h | exact fun _ => rfl | (intro h; rw [h]; rfl) | omega | (intros; (try dsimp only [Ty.T, Ty.size]); (try simp only [castL_self, Int.toNat_natCast, Int.toNat_zero, Int.toNat_one, true_and, List.length_append, List.length_set, List.length_drop, List.length_take, List.length_replicate, List.length_cons, List.length_nil, Nat.zero_add, Nat.mul_one]); omega) | decide | (intros; simp_all; done) | (intros; simp_all; omega)) ?_
    refine Exists.intro _ (Exists.intro _ (And.intro (StepD.call (bit_fn (f.getD (A.getD (w.getD i 0).toNat 0).toNat 0) part (by omega) (by omega)) rfl rfl rfl) (And.intro rfl (And.intro rfl ?_))))
    refine hK8 _ _ ?_
    clear hK8
    first | refine AWPD.cond rfl (fun h1 => ?_) (fun h1 => ?_)
    · try dsimp only [Ty.T] at h1
      try simp only [castL_self] at h1
      try simp only [Int.toNat_natCast] at h1
      try simp only [Int.toNat_zero] at h1
      have hy : actOn A f part (w.getD i 0) = true := h1
      -- region 6
      refine AWPD.keep [1, 2, 3, 4, 9, 10] rfl ?_
      refine AWPD.region tabOK rfl ?_
      repeat refine And.intro (by first | exact fun h => h | exact fun _ => rfl | (intro h; rw [h]; rfl) | omega | (intros; (try dsimp only [Ty.T, Ty.size]); (try simp only [castL_self, Int.toNat_natCast, Int.toNat_zero, Int.toNat_one, true_and, List.length_append, List.length_set, List.length_drop, List.length_take, List.length_replicate, List.length_cons, List.length_nil, Nat.zero_add, Nat.mul_one]); omega) | decide | (intros; simp_all; done) | (intros; simp_all; omega)) ?_
      refine hK7 _ _ ?_
      clear hK7
      -- region 4
      refine AWPD.keep [1, 2, 3, 4, 9, 10] rfl ?_
      refine AWPD.region tabOK rfl ?_
      repeat refine And.intro (by first | exact fun h => h | exact fun _ => rfl | (intro h; rw [h]; rfl) | omega | (intros; (try dsimp only [Ty.T, Ty.size]); (try simp only [castL_self, Int.toNat_natCast, Int.toNat_zero, Int.toNat_one, true_and, List.length_append, List.length_set, List.length_drop, List.length_take, List.length_replicate, List.length_cons, List.length_nil, Nat.zero_add, Nat.mul_one]); omega) | decide | (intros; simp_all; done) | (intros; simp_all; omega)) ?_
      refine ⟨n0 - 1, i + 1, [1], by omega, by omega, ⟨by decide, rfl⟩, ⟨⟨rfl, rfl, purge_yes (by omega) hy⟩, trivial⟩, ?_⟩
      repeat' first | exact True.intro | exact rfl | exact ⟨rfl, rfl⟩ | refine And.intro ?_ ?_
    · try dsimp only [Ty.T] at h1
      try simp only [castL_self] at h1
      try simp only [Int.toNat_natCast] at h1
      try simp only [Int.toNat_zero] at h1
      have hn : ¬actOn A f part (w.getD i 0) = true := by rw [show actOn A f part (w.getD i 0) = false from h1]; decide
      refine AWPD.skip ?_
      refine hK7 _ _ ?_
      clear hK7
      -- region 4
      refine AWPD.keep [1, 2, 3, 4, 9, 10] rfl ?_
      refine AWPD.region tabOK rfl ?_
      repeat refine And.intro (by first | exact fun h => h | exact fun _ => rfl | (intro h; rw [h]; rfl) | omega | (intros; (try dsimp only [Ty.T, Ty.size]); (try simp only [castL_self, Int.toNat_natCast, Int.toNat_zero, Int.toNat_one, true_and, List.length_append, List.length_set, List.length_drop, List.length_take, List.length_replicate, List.length_cons, List.length_nil, Nat.zero_add, Nat.mul_one]); omega) | decide | (intros; simp_all; done) | (intros; simp_all; omega)) ?_
      refine ⟨n0 - 1, i + 1, [0], by omega, by omega, ⟨by decide, rfl⟩, ⟨⟨rfl, rfl, purge_no (by omega) hn⟩, trivial⟩, ?_⟩
      repeat' first | exact True.intro | exact rfl | exact ⟨rfl, rfl⟩ | refine And.intro ?_ ?_
  · try dsimp only [Ty.T] at h0
    try simp only [castL_self] at h0
    try simp only [Int.toNat_natCast] at h0
    try simp only [Int.toNat_zero] at h0
    refine AWPD.exit ?_
    refine hK3 _ _ ?_
    clear hK3
    refine AWPD.seq fun K9 hK9 => ?_
    -- region 7
    refine AWPD.keep [9] rfl ?_
    refine AWPD.region tabOK rfl ?_
    refine hK9 _ _ ?_
    clear hK9
    refine AWPD.ret (And.intro (.inl rfl) ?_)
    -- result 0
    refine RetD.one ?_
    exact fitR rfl rfl (by rw [List.take_of_length_le (by omega)])
theorem purgeSays_fn (P : Int) (A : List Int) (N S : List (List Int)) (f : List Int) (part : Int) (w : List Int) : LiftsG Tryd.prog errG 9 [.agg [.i P, .sl .int A, .sl (.sl .int) N, .sl (.sl .int) S], .sl .int f, .i part, .sl .int w] (.b true) := by
  refine LiftsG.of_body 82 [.tmp 8] Tryd.func9 rfl Tryd.ntmps9 (by kernel_rfl) rfl rfl fun w0 X0 hG0 => ?_
  refine AWPD.seq fun K1 hK1 => ?_
  -- region 0
  refine AWPD.keep [0, 1, 2, 3] rfl ?_
  refine AWPD.region tabOK rfl ?_
  refine hK1 _ _ ?_
  clear hK1
  refine AWPD.seq fun K2 hK2 => ?_
  -- region 1
  refine AWPD.keep [1, 2, 3, 4] rfl ?_
  refine AWPD.region tabOK rfl ?_
  repeat refine And.intro (by first | exact fun h => h | exact fun _ => rfl | (intro h; rw [h]; rfl) | omega | (intros; (try dsimp only [Ty.T, Ty.size]); (try simp only [castL_self, Int.toNat_natCast, Int.toNat_zero, Int.toNat_one, true_and, List.length_append, List.length_set, List.length_drop, List.length_take, List.length_replicate, List.length_cons, List.length_nil, Nat.zero_add, Nat.mul_one]); omega) | decide | (intros; simp_all; done) | (intros; simp_all; omega)) ?_
  refine Exists.intro _ (Exists.intro _ (And.intro (StepD.call (rpart_fn _ _ _ _ _ _) rfl rfl rfl) (And.intro rfl (And.intro trivial ?_))))
  refine hK2 _ _ ?_
  clear hK2
  refine AWPD.seq fun K3 hK3 => ?_
  -- region 2
  refine AWPD.keep [1, 2, 3, 4, 9] rfl ?_
  refine AWPD.region tabOK rfl ?_
  refine hK3 _ _ ?_
  clear hK3
  refine AWPD.seq fun K4 hK4 => ?_
  -- region 3
  refine AWPD.keep [1, 2, 3, 4, 9, 10] rfl ?_
  refine AWPD.region tabOK rfl ?_
  refine hK4 _ _ ?_
  clear hK4
  refine AWPD.seq fun K5 hK5 => ?_
  refine AWPD.seq fun K6 hK6 => ?_
  -- region 4
  refine AWPD.keep [1, 2, 3, 4, 9, 10, 11] rfl ?_
  refine AWPD.region tabOK rfl ?_
  refine hK6 _ _ ?_
  clear hK6
  first | refine AWPD.condP rfl (fun h0 => ?_) (fun h0 => ?_) | refine AWPD.condN rfl (fun h0 => ?_) (fun h0 => ?_) | refine AWPD.condAP rfl (fun h0 => ?_) (fun h0 => ?_) | refine AWPD.condOP rfl (fun h0 => ?_) (fun h0 => ?_) | refine AWPD.condONN rfl (fun h0 => ?_) (fun h0 => ?_) | refine AWPD.condOPN rfl (fun h0 => ?_) (fun h0 => ?_) | refine AWPD.condA rfl (fun h0 => ?_) (fun h0 => ?_) | refine AWPD.condO rfl (fun h0 => ?_) (fun h0 => ?_) | refine AWPD.cond rfl (fun h0 => ?_) (fun h0 => ?_)
  · try dsimp only [Ty.T] at h0
    try simp only [castL_self] at h0
    try simp only [Int.toNat_natCast] at h0
    try simp only [Int.toNat_zero] at h0
    have he : chkE P A N S f part = 0 := h0
    have g := chk_good he
    have hql := qW_len g
    have hbw : bothE P A N S f part w = wordE P A N S w := by unfold bothE; rw [if_neg (fun h => h he)]
    -- region 5
    refine AWPD.keep [1, 2, 3, 4, 9] rfl ?_
    refine AWPD.region tabOK rfl ?_
    repeat refine And.intro (by first | exact fun h => h | exact fun _ => rfl | (intro h; rw [h]; rfl) | omega | (intros; (try dsimp only [Ty.T, Ty.size]); (try simp only [castL_self, Int.toNat_natCast, Int.toNat_zero, Int.toNat_one, true_and, List.length_append, List.length_set, List.length_drop, List.length_take, List.length_replicate, List.length_cons, List.length_nil, Nat.zero_add, Nat.mul_one]); omega) | decide | (intros; simp_all; done) | (intros; simp_all; omega)) ?_
    refine Exists.intro _ (Exists.intro _ (And.intro (StepD.call (rquiet_fn _ _ _ _ _ _ (by assumption)) rfl rfl rfl) (And.intro rfl (And.intro trivial ?_))))
    refine hK5 _ _ ?_
    clear hK5
    refine AWPD.seq fun K7 hK7 => ?_
    -- region 6
    refine AWPD.keep [1, 2, 3, 4, 9, 10, 11] rfl ?_
    refine AWPD.region tabOK rfl ?_
    repeat refine And.intro (by first | exact fun h => h | exact fun _ => rfl | (intro h; rw [h]; rfl) | omega | (intros; (try dsimp only [Ty.T, Ty.size]); (try simp only [castL_self, Int.toNat_natCast, Int.toNat_zero, Int.toNat_one, true_and, List.length_append, List.length_set, List.length_drop, List.length_take, List.length_replicate, List.length_cons, List.length_nil, Nat.zero_add, Nat.mul_one]); omega) | decide | (intros; simp_all; done) | (intros; simp_all; omega)) ?_
    refine Exists.intro _ (Exists.intro _ (And.intro (StepD.call (quiet_fn _ _ _ _ _ _) rfl rfl rfl) (And.intro rfl (And.intro trivial ?_))))
    refine hK7 _ _ ?_
    clear hK7
    refine AWPD.seq fun K8 hK8 => ?_
    -- region 7
    try rw [hv0]
    try rw [hw0]
    refine AWPD.keep [1, 2, 3, 4, 9, 10, 11, 12, 13, 14] rfl ?_
    refine AWPD.region tabOK rfl ?_
    refine Exists.intro _ (Exists.intro _ (And.intro (StepD.callG errG_stays rfl hG0 (error_fn _ _) rfl rfl rfl) (And.intro rfl (And.intro trivial ?_))))
    repeat refine And.intro (by first | exact fun h => h | exact fun _ => rfl | (intro h; rw [h]; rfl) | omega | (intros; (try dsimp only [Ty.T, Ty.size]); (try simp only [castL_self, Int.toNat_natCast, Int.toNat_zero, Int.toNat_one, true_and, List.length_append, List.length_set, List.length_drop, List.length_take, List.length_replicate, List.length_cons, List.length_nil, Nat.zero_add, Nat.mul_one]); omega) | decide | (intros; simp_all; done) | (intros; simp_all; omega)) ?_
    refine Exists.intro _ (Exists.intro _ (And.intro (fun hg => StepD.call (by first | exact ints_fn _ _ (by omega) | exact LiftsD.fit (ints_fn [] [] (by decide)) ⟨⟨rfl, rfl⟩, ⟨rfl, by decide⟩, trivial⟩) rfl rfl rfl) (And.intro (fun hf => rfl) (And.intro rfl (And.intro trivial ?_)))))
    repeat refine And.intro (by first | exact fun h => h | exact fun _ => rfl | (intro h; rw [h]; rfl) | omega | (intros; (try dsimp only [Ty.T, Ty.size]); (try simp only [castL_self, Int.toNat_natCast, Int.toNat_zero, Int.toNat_one, true_and, List.length_append, List.length_set, List.length_drop, List.length_take, List.length_replicate, List.length_cons, List.length_nil, Nat.zero_add, Nat.mul_one]); omega) | decide | (intros; simp_all; done) | (intros; simp_all; omega)) ?_
    refine hK8 _ _ ?_
    clear hK8
    refine AWPD.seq fun K9 hK9 => ?_
    refine AWPD.seq fun K10 hK10 => ?_
    -- region 8
    refine AWPD.keep [1, 2, 3, 4, 9, 15] rfl ?_
    refine AWPD.region tabOK rfl ?_
    refine hK10 _ _ ?_
    clear hK10
    first | refine AWPD.condP rfl (fun h1 => ?_) (fun h1 => ?_) | refine AWPD.condN rfl (fun h1 => ?_) (fun h1 => ?_) | refine AWPD.condAP rfl (fun h1 => ?_) (fun h1 => ?_) | refine AWPD.condOP rfl (fun h1 => ?_) (fun h1 => ?_) | refine AWPD.condONN rfl (fun h1 => ?_) (fun h1 => ?_) | refine AWPD.condOPN rfl (fun h1 => ?_) (fun h1 => ?_) | refine AWPD.condA rfl (fun h1 => ?_) (fun h1 => ?_) | refine AWPD.condO rfl (fun h1 => ?_) (fun h1 => ?_) | refine AWPD.cond rfl (fun h1 => ?_) (fun h1 => ?_)
    · try dsimp only [Ty.T] at h1
      try simp only [castL_self] at h1
      try simp only [Int.toNat_natCast] at h1
      try simp only [Int.toNat_zero] at h1
      try (exact absurd h1 hne0; done)
      all_goals
        -- region 9
        refine AWPD.keep [1, 2, 3, 4, 15] rfl ?_
        refine AWPD.region tabOK rfl ?_
        repeat refine And.intro (by first | exact fun h => h | exact fun _ => rfl | (intro h; rw [h]; rfl) | omega | (intros; (try dsimp only [Ty.T, Ty.size]); (try simp only [castL_self, Int.toNat_natCast, Int.toNat_zero, Int.toNat_one, true_and, List.length_append, List.length_set, List.length_drop, List.length_take, List.length_replicate, List.length_cons, List.length_nil, Nat.zero_add, Nat.mul_one]); omega) | decide | (intros; simp_all; done) | (intros; simp_all; omega)) ?_
        refine Exists.intro _ (Exists.intro _ (And.intro (StepD.call (rword_fn _ _ _ _ _) rfl rfl rfl) (And.intro rfl (And.intro trivial ?_))))
        refine hK9 _ _ ?_
        clear hK9
        refine AWPD.seq fun K11 hK11 => ?_
        -- region 10
        refine AWPD.keep [1, 2, 3, 4, 9, 15] rfl ?_
        refine AWPD.region tabOK rfl ?_
        refine hK11 _ _ ?_
        clear hK11
        refine AWPD.seq fun K12 hK12 => ?_
        refine AWPD.seq fun K13 hK13 => ?_
        -- region 11
        refine AWPD.keep [1, 2, 3, 4, 9, 15, 16] rfl ?_
        refine AWPD.region tabOK rfl ?_
        refine hK13 _ _ ?_
        clear hK13
        first | refine AWPD.condP rfl (fun h2 => ?_) (fun h2 => ?_) | refine AWPD.condN rfl (fun h2 => ?_) (fun h2 => ?_) | refine AWPD.condAP rfl (fun h2 => ?_) (fun h2 => ?_) | refine AWPD.condOP rfl (fun h2 => ?_) (fun h2 => ?_) | refine AWPD.condONN rfl (fun h2 => ?_) (fun h2 => ?_) | refine AWPD.condOPN rfl (fun h2 => ?_) (fun h2 => ?_) | refine AWPD.condA rfl (fun h2 => ?_) (fun h2 => ?_) | refine AWPD.condO rfl (fun h2 => ?_) (fun h2 => ?_) | refine AWPD.cond rfl (fun h2 => ?_) (fun h2 => ?_)
        · try dsimp only [Ty.T] at h2
          try simp only [castL_self] at h2
          try simp only [Int.toNat_natCast] at h2
          try simp only [Int.toNat_zero] at h2
          try (exact absurd h2 hne0; done)
          all_goals
            have hb : bothE P A N S f part w = 0 := hbw.trans h2
            have hpv : purgeV P A N S f part w = purgeL A f part w := by unfold purgeV; rw [if_pos hb]
            have gw := (both_ok hb).few
            have hpl := purgeL_len A f part w
            -- region 12
            refine AWPD.keep [1, 2, 3, 4, 9, 15] rfl ?_
            refine AWPD.region tabOK rfl ?_
            repeat refine And.intro (by first | exact fun h => h | exact fun _ => rfl | (intro h; rw [h]; rfl) | omega | (intros; (try dsimp only [Ty.T, Ty.size]); (try simp only [castL_self, Int.toNat_natCast, Int.toNat_zero, Int.toNat_one, true_and, List.length_append, List.length_set, List.length_drop, List.length_take, List.length_replicate, List.length_cons, List.length_nil, Nat.zero_add, Nat.mul_one]); omega) | decide | (intros; simp_all; done) | (intros; simp_all; omega)) ?_
            refine Exists.intro _ (Exists.intro _ (And.intro (StepD.call (rpurge_fn _ _ _ _ _ _ _ (by assumption)) rfl rfl rfl) (And.intro rfl (And.intro trivial ?_))))
            refine hK12 _ _ ?_
            clear hK12
            refine AWPD.seq fun K14 hK14 => ?_
            -- region 13
            refine AWPD.keep [1, 2, 3, 4, 9, 15, 16] rfl ?_
            refine AWPD.region tabOK rfl ?_
            repeat refine And.intro (by first | exact fun h => h | exact fun _ => rfl | (intro h; rw [h]; rfl) | omega | (intros; (try dsimp only [Ty.T, Ty.size]); (try simp only [castL_self, Int.toNat_natCast, Int.toNat_zero, Int.toNat_one, true_and, List.length_append, List.length_set, List.length_drop, List.length_take, List.length_replicate, List.length_cons, List.length_nil, Nat.zero_add, Nat.mul_one]); omega) | decide | (intros; simp_all; done) | (intros; simp_all; omega)) ?_
            refine Exists.intro _ (Exists.intro _ (And.intro (StepD.call (purge_fn _ _ _ _ _ _ _) rfl rfl rfl) (And.intro rfl (And.intro trivial ?_))))
            refine hK14 _ _ ?_
            clear hK14
            refine AWPD.seq fun K15 hK15 => ?_
            -- region 14
            try rw [hpv]
            try rw [hp0]
            try rw [hbw]
            refine AWPD.keep [9, 13, 14, 15, 16] rfl ?_
            refine AWPD.region tabOK rfl ?_
            repeat refine And.intro (by first | exact fun h => h | exact fun _ => rfl | (intro h; rw [h]; rfl) | omega | (intros; (try dsimp only [Ty.T, Ty.size]); (try simp only [castL_self, Int.toNat_natCast, Int.toNat_zero, Int.toNat_one, true_and, List.length_append, List.length_set, List.length_drop, List.length_take, List.length_replicate, List.length_cons, List.length_nil, Nat.zero_add, Nat.mul_one]); omega) | decide | (intros; simp_all; done) | (intros; simp_all; omega)) ?_
            refine Exists.intro _ (Exists.intro _ (And.intro (fun hg => StepD.callG errG_stays rfl hG0 (error_fn _ _) rfl rfl rfl) (And.intro (fun hf => rfl) (And.intro rfl (And.intro trivial ?_)))))
            repeat refine And.intro (by first | exact fun h => h | exact fun _ => rfl | (intro h; rw [h]; rfl) | omega | (intros; (try dsimp only [Ty.T, Ty.size]); (try simp only [castL_self, Int.toNat_natCast, Int.toNat_zero, Int.toNat_one, true_and, List.length_append, List.length_set, List.length_drop, List.length_take, List.length_replicate, List.length_cons, List.length_nil, Nat.zero_add, Nat.mul_one]); omega) | decide | (intros; simp_all; done) | (intros; simp_all; omega)) ?_
            refine Exists.intro _ (Exists.intro _ (And.intro (fun hg => StepD.call (by first | exact ints_fn _ _ (by omega) | exact LiftsD.fit (ints_fn [] [] (by decide)) ⟨⟨rfl, rfl⟩, ⟨rfl, by decide⟩, trivial⟩) rfl rfl rfl) (And.intro (fun hf => rfl) (And.intro rfl (And.intro trivial ?_)))))
            repeat refine And.intro (by first | exact fun h => h | exact fun _ => rfl | (intro h; rw [h]; rfl) | omega | (intros; (try dsimp only [Ty.T, Ty.size]); (try simp only [castL_self, Int.toNat_natCast, Int.toNat_zero, Int.toNat_one, true_and, List.length_append, List.length_set, List.length_drop, List.length_take, List.length_replicate, List.length_cons, List.length_nil, Nat.zero_add, Nat.mul_one]); omega) | decide | (intros; simp_all; done) | (intros; simp_all; omega)) ?_
            refine hK15 _ _ ?_
            clear hK15
            refine AWPD.ret (And.intro (.inl rfl) ?_)
            -- result 0
            refine RetD.one ?_
            refine fitB rfl ?_
            simp [*]
        · try dsimp only [Ty.T] at h2
          try simp only [castL_self] at h2
          try simp only [Int.toNat_natCast] at h2
          try simp only [Int.toNat_zero] at h2
          try have hp0 : purgeV P A N S f part w = [] := by unfold purgeV; rw [if_neg (by rw [hbw]; exact h2)]
          refine AWPD.skip ?_
          refine hK12 _ _ ?_
          clear hK12
          refine AWPD.seq fun K16 hK16 => ?_
          -- region 13
          refine AWPD.keep [1, 2, 3, 4, 9, 15, 16] rfl ?_
          refine AWPD.region tabOK rfl ?_
          repeat refine And.intro (by first | exact fun h => h | exact fun _ => rfl | (intro h; rw [h]; rfl) | omega | (intros; (try dsimp only [Ty.T, Ty.size]); (try simp only [castL_self, Int.toNat_natCast, Int.toNat_zero, Int.toNat_one, true_and, List.length_append, List.length_set, List.length_drop, List.length_take, List.length_replicate, List.length_cons, List.length_nil, Nat.zero_add, Nat.mul_one]); omega) | decide | (intros; simp_all; done) | (intros; simp_all; omega)) ?_
          refine Exists.intro _ (Exists.intro _ (And.intro (StepD.call (purge_fn _ _ _ _ _ _ _) rfl rfl rfl) (And.intro rfl (And.intro trivial ?_))))
          refine hK16 _ _ ?_
          clear hK16
          refine AWPD.seq fun K17 hK17 => ?_
          -- region 14
          try rw [hpv]
          try rw [hp0]
          try rw [hbw]
          refine AWPD.keep [9, 13, 14, 15, 16] rfl ?_
          refine AWPD.region tabOK rfl ?_
          repeat refine And.intro (by first | exact fun h => h | exact fun _ => rfl | (intro h; rw [h]; rfl) | omega | (intros; (try dsimp only [Ty.T, Ty.size]); (try simp only [castL_self, Int.toNat_natCast, Int.toNat_zero, Int.toNat_one, true_and, List.length_append, List.length_set, List.length_drop, List.length_take, List.length_replicate, List.length_cons, List.length_nil, Nat.zero_add, Nat.mul_one]); omega) | decide | (intros; simp_all; done) | (intros; simp_all; omega)) ?_
          refine Exists.intro _ (Exists.intro _ (And.intro (fun hg => StepD.callG errG_stays rfl hG0 (error_fn _ _) rfl rfl rfl) (And.intro (fun hf => rfl) (And.intro rfl (And.intro trivial ?_)))))
          repeat refine And.intro (by first | exact fun h => h | exact fun _ => rfl | (intro h; rw [h]; rfl) | omega | (intros; (try dsimp only [Ty.T, Ty.size]); (try simp only [castL_self, Int.toNat_natCast, Int.toNat_zero, Int.toNat_one, true_and, List.length_append, List.length_set, List.length_drop, List.length_take, List.length_replicate, List.length_cons, List.length_nil, Nat.zero_add, Nat.mul_one]); omega) | decide | (intros; simp_all; done) | (intros; simp_all; omega)) ?_
          refine Exists.intro _ (Exists.intro _ (And.intro (fun hg => StepD.call (by first | exact ints_fn _ _ (by omega) | exact LiftsD.fit (ints_fn [] [] (by decide)) ⟨⟨rfl, rfl⟩, ⟨rfl, by decide⟩, trivial⟩) rfl rfl rfl) (And.intro (fun hf => rfl) (And.intro rfl (And.intro trivial ?_)))))
          repeat refine And.intro (by first | exact fun h => h | exact fun _ => rfl | (intro h; rw [h]; rfl) | omega | (intros; (try dsimp only [Ty.T, Ty.size]); (try simp only [castL_self, Int.toNat_natCast, Int.toNat_zero, Int.toNat_one, true_and, List.length_append, List.length_set, List.length_drop, List.length_take, List.length_replicate, List.length_cons, List.length_nil, Nat.zero_add, Nat.mul_one]); omega) | decide | (intros; simp_all; done) | (intros; simp_all; omega)) ?_
          refine hK17 _ _ ?_
          clear hK17
          refine AWPD.ret (And.intro (.inl rfl) ?_)
          -- result 1
          refine RetD.one ?_
          refine fitB rfl ?_
          simp [*]
    · try dsimp only [Ty.T] at h1
      try simp only [castL_self] at h1
      try simp only [Int.toNat_natCast] at h1
      try simp only [Int.toNat_zero] at h1
      try (exact absurd he h1; done)
      all_goals
        refine AWPD.skip ?_
        refine hK9 _ _ ?_
        clear hK9
        refine AWPD.seq fun K18 hK18 => ?_
        -- region 10
        refine AWPD.keep [1, 2, 3, 4, 9, 15] rfl ?_
        refine AWPD.region tabOK rfl ?_
        refine hK18 _ _ ?_
        clear hK18
        refine AWPD.seq fun K19 hK19 => ?_
        refine AWPD.seq fun K20 hK20 => ?_
        -- region 11
        refine AWPD.keep [1, 2, 3, 4, 9, 15, 16] rfl ?_
        refine AWPD.region tabOK rfl ?_
        refine hK20 _ _ ?_
        clear hK20
        first | refine AWPD.condP rfl (fun h2 => ?_) (fun h2 => ?_) | refine AWPD.condN rfl (fun h2 => ?_) (fun h2 => ?_) | refine AWPD.condAP rfl (fun h2 => ?_) (fun h2 => ?_) | refine AWPD.condOP rfl (fun h2 => ?_) (fun h2 => ?_) | refine AWPD.condONN rfl (fun h2 => ?_) (fun h2 => ?_) | refine AWPD.condOPN rfl (fun h2 => ?_) (fun h2 => ?_) | refine AWPD.condA rfl (fun h2 => ?_) (fun h2 => ?_) | refine AWPD.condO rfl (fun h2 => ?_) (fun h2 => ?_) | refine AWPD.cond rfl (fun h2 => ?_) (fun h2 => ?_)
        · try dsimp only [Ty.T] at h2
          try simp only [castL_self] at h2
          try simp only [Int.toNat_natCast] at h2
          try simp only [Int.toNat_zero] at h2
          try (exact absurd h2 hne0; done)
          all_goals
            have hb : bothE P A N S f part w = 0 := hbw.trans h2
            have hpv : purgeV P A N S f part w = purgeL A f part w := by unfold purgeV; rw [if_pos hb]
            have gw := (both_ok hb).few
            have hpl := purgeL_len A f part w
            -- region 12
            refine AWPD.keep [1, 2, 3, 4, 9, 15] rfl ?_
            refine AWPD.region tabOK rfl ?_
            repeat refine And.intro (by first | exact fun h => h | exact fun _ => rfl | (intro h; rw [h]; rfl) | omega | (intros; (try dsimp only [Ty.T, Ty.size]); (try simp only [castL_self, Int.toNat_natCast, Int.toNat_zero, Int.toNat_one, true_and, List.length_append, List.length_set, List.length_drop, List.length_take, List.length_replicate, List.length_cons, List.length_nil, Nat.zero_add, Nat.mul_one]); omega) | decide | (intros; simp_all; done) | (intros; simp_all; omega)) ?_
            refine Exists.intro _ (Exists.intro _ (And.intro (StepD.call (rpurge_fn _ _ _ _ _ _ _ (by assumption)) rfl rfl rfl) (And.intro rfl (And.intro trivial ?_))))
            refine hK19 _ _ ?_
            clear hK19
            refine AWPD.seq fun K21 hK21 => ?_
            -- region 13
            refine AWPD.keep [1, 2, 3, 4, 9, 15, 16] rfl ?_
            refine AWPD.region tabOK rfl ?_
            repeat refine And.intro (by first | exact fun h => h | exact fun _ => rfl | (intro h; rw [h]; rfl) | omega | (intros; (try dsimp only [Ty.T, Ty.size]); (try simp only [castL_self, Int.toNat_natCast, Int.toNat_zero, Int.toNat_one, true_and, List.length_append, List.length_set, List.length_drop, List.length_take, List.length_replicate, List.length_cons, List.length_nil, Nat.zero_add, Nat.mul_one]); omega) | decide | (intros; simp_all; done) | (intros; simp_all; omega)) ?_
            refine Exists.intro _ (Exists.intro _ (And.intro (StepD.call (purge_fn _ _ _ _ _ _ _) rfl rfl rfl) (And.intro rfl (And.intro trivial ?_))))
            refine hK21 _ _ ?_
            clear hK21
            refine AWPD.seq fun K22 hK22 => ?_
            -- region 14
            try rw [hpv]
            try rw [hp0]
            try rw [hbw]
            refine AWPD.keep [9, 13, 14, 15, 16] rfl ?_
            refine AWPD.region tabOK rfl ?_
            repeat refine And.intro (by first | exact fun h => h | exact fun _ => rfl | (intro h; rw [h]; rfl) | omega | (intros; (try dsimp only [Ty.T, Ty.size]); (try simp only [castL_self, Int.toNat_natCast, Int.toNat_zero, Int.toNat_one, true_and, List.length_append, List.length_set, List.length_drop, List.length_take, List.length_replicate, List.length_cons, List.length_nil, Nat.zero_add, Nat.mul_one]); omega) | decide | (intros; simp_all; done) | (intros; simp_all; omega)) ?_
            refine Exists.intro _ (Exists.intro _ (And.intro (fun hg => StepD.callG errG_stays rfl hG0 (error_fn _ _) rfl rfl rfl) (And.intro (fun hf => rfl) (And.intro rfl (And.intro trivial ?_)))))
            repeat refine And.intro (by first | exact fun h => h | exact fun _ => rfl | (intro h; rw [h]; rfl) | omega | (intros; (try dsimp only [Ty.T, Ty.size]); (try simp only [castL_self, Int.toNat_natCast, Int.toNat_zero, Int.toNat_one, true_and, List.length_append, List.length_set, List.length_drop, List.length_take, List.length_replicate, List.length_cons, List.length_nil, Nat.zero_add, Nat.mul_one]); omega) | decide | (intros; simp_all; done) | (intros; simp_all; omega)) ?_
            refine Exists.intro _ (Exists.intro _ (And.intro (fun hg => StepD.call (by first | exact ints_fn _ _ (by omega) | exact LiftsD.fit (ints_fn [] [] (by decide)) ⟨⟨rfl, rfl⟩, ⟨rfl, by decide⟩, trivial⟩) rfl rfl rfl) (And.intro (fun hf => rfl) (And.intro rfl (And.intro trivial ?_)))))
            repeat refine And.intro (by first | exact fun h => h | exact fun _ => rfl | (intro h; rw [h]; rfl) | omega | (intros; (try dsimp only [Ty.T, Ty.size]); (try simp only [castL_self, Int.toNat_natCast, Int.toNat_zero, Int.toNat_one, true_and, List.length_append, List.length_set, List.length_drop, List.length_take, List.length_replicate, List.length_cons, List.length_nil, Nat.zero_add, Nat.mul_one]); omega) | decide | (intros; simp_all; done) | (intros; simp_all; omega)) ?_
            refine hK22 _ _ ?_
            clear hK22
            refine AWPD.ret (And.intro (.inl rfl) ?_)
            -- result 2
            refine RetD.one ?_
            refine fitB rfl ?_
            simp [*]
        · try dsimp only [Ty.T] at h2
          try simp only [castL_self] at h2
          try simp only [Int.toNat_natCast] at h2
          try simp only [Int.toNat_zero] at h2
          try have hp0 : purgeV P A N S f part w = [] := by unfold purgeV; rw [if_neg (by rw [hbw]; exact h2)]
          refine AWPD.skip ?_
          refine hK19 _ _ ?_
          clear hK19
          refine AWPD.seq fun K23 hK23 => ?_
          -- region 13
          refine AWPD.keep [1, 2, 3, 4, 9, 15, 16] rfl ?_
          refine AWPD.region tabOK rfl ?_
          repeat refine And.intro (by first | exact fun h => h | exact fun _ => rfl | (intro h; rw [h]; rfl) | omega | (intros; (try dsimp only [Ty.T, Ty.size]); (try simp only [castL_self, Int.toNat_natCast, Int.toNat_zero, Int.toNat_one, true_and, List.length_append, List.length_set, List.length_drop, List.length_take, List.length_replicate, List.length_cons, List.length_nil, Nat.zero_add, Nat.mul_one]); omega) | decide | (intros; simp_all; done) | (intros; simp_all; omega)) ?_
          refine Exists.intro _ (Exists.intro _ (And.intro (StepD.call (purge_fn _ _ _ _ _ _ _) rfl rfl rfl) (And.intro rfl (And.intro trivial ?_))))
          refine hK23 _ _ ?_
          clear hK23
          refine AWPD.seq fun K24 hK24 => ?_
          -- region 14
          try rw [hpv]
          try rw [hp0]
          try rw [hbw]
          refine AWPD.keep [9, 13, 14, 15, 16] rfl ?_
          refine AWPD.region tabOK rfl ?_
          repeat refine And.intro (by first | exact fun h => h | exact fun _ => rfl | (intro h; rw [h]; rfl) | omega | (intros; (try dsimp only [Ty.T, Ty.size]); (try simp only [castL_self, Int.toNat_natCast, Int.toNat_zero, Int.toNat_one, true_and, List.length_append, List.length_set, List.length_drop, List.length_take, List.length_replicate, List.length_cons, List.length_nil, Nat.zero_add, Nat.mul_one]); omega) | decide | (intros; simp_all; done) | (intros; simp_all; omega)) ?_
          refine Exists.intro _ (Exists.intro _ (And.intro (fun hg => StepD.callG errG_stays rfl hG0 (error_fn _ _) rfl rfl rfl) (And.intro (fun hf => rfl) (And.intro rfl (And.intro trivial ?_)))))
          repeat refine And.intro (by first | exact fun h => h | exact fun _ => rfl | (intro h; rw [h]; rfl) | omega | (intros; (try dsimp only [Ty.T, Ty.size]); (try simp only [castL_self, Int.toNat_natCast, Int.toNat_zero, Int.toNat_one, true_and, List.length_append, List.length_set, List.length_drop, List.length_take, List.length_replicate, List.length_cons, List.length_nil, Nat.zero_add, Nat.mul_one]); omega) | decide | (intros; simp_all; done) | (intros; simp_all; omega)) ?_
          refine Exists.intro _ (Exists.intro _ (And.intro (fun hg => StepD.call (by first | exact ints_fn _ _ (by omega) | exact LiftsD.fit (ints_fn [] [] (by decide)) ⟨⟨rfl, rfl⟩, ⟨rfl, by decide⟩, trivial⟩) rfl rfl rfl) (And.intro (fun hf => rfl) (And.intro rfl (And.intro trivial ?_)))))
          repeat refine And.intro (by first | exact fun h => h | exact fun _ => rfl | (intro h; rw [h]; rfl) | omega | (intros; (try dsimp only [Ty.T, Ty.size]); (try simp only [castL_self, Int.toNat_natCast, Int.toNat_zero, Int.toNat_one, true_and, List.length_append, List.length_set, List.length_drop, List.length_take, List.length_replicate, List.length_cons, List.length_nil, Nat.zero_add, Nat.mul_one]); omega) | decide | (intros; simp_all; done) | (intros; simp_all; omega)) ?_
          refine hK24 _ _ ?_
          clear hK24
          refine AWPD.ret (And.intro (.inl rfl) ?_)
          -- result 3
          refine RetD.one ?_
          refine fitB rfl ?_
          simp [*]
  · try dsimp only [Ty.T] at h0
    try simp only [castL_self] at h0
    try simp only [Int.toNat_natCast] at h0
    try simp only [Int.toNat_zero] at h0
    have hne0 : ¬chkE P A N S f part = 0 := h0
    have hv0 : quietV P A N S f part = false := by unfold quietV; rw [if_neg hne0]
    have hw0 : quietW P A N S f part = [] := by unfold quietW; rw [if_neg (fun h => hne0 h.1)]
    have hbw : bothE P A N S f part w = chkE P A N S f part := by unfold bothE; rw [if_pos hne0]
    have hp0 : purgeV P A N S f part w = [] := by unfold purgeV; rw [if_neg (by rw [hbw]; exact hne0)]
    refine AWPD.skip ?_
    refine hK5 _ _ ?_
    clear hK5
    refine AWPD.seq fun K25 hK25 => ?_
    -- region 6
    refine AWPD.keep [1, 2, 3, 4, 9, 10, 11] rfl ?_
    refine AWPD.region tabOK rfl ?_
    repeat refine And.intro (by first | exact fun h => h | exact fun _ => rfl | (intro h; rw [h]; rfl) | omega | (intros; (try dsimp only [Ty.T, Ty.size]); (try simp only [castL_self, Int.toNat_natCast, Int.toNat_zero, Int.toNat_one, true_and, List.length_append, List.length_set, List.length_drop, List.length_take, List.length_replicate, List.length_cons, List.length_nil, Nat.zero_add, Nat.mul_one]); omega) | decide | (intros; simp_all; done) | (intros; simp_all; omega)) ?_
    refine Exists.intro _ (Exists.intro _ (And.intro (StepD.call (quiet_fn _ _ _ _ _ _) rfl rfl rfl) (And.intro rfl (And.intro trivial ?_))))
    refine hK25 _ _ ?_
    clear hK25
    refine AWPD.seq fun K26 hK26 => ?_
    -- region 7
    try rw [hv0]
    try rw [hw0]
    refine AWPD.keep [1, 2, 3, 4, 9, 10, 11, 12, 13, 14] rfl ?_
    refine AWPD.region tabOK rfl ?_
    refine Exists.intro _ (Exists.intro _ (And.intro (StepD.callG errG_stays rfl hG0 (error_fn _ _) rfl rfl rfl) (And.intro rfl (And.intro trivial ?_))))
    repeat refine And.intro (by first | exact fun h => h | exact fun _ => rfl | (intro h; rw [h]; rfl) | omega | (intros; (try dsimp only [Ty.T, Ty.size]); (try simp only [castL_self, Int.toNat_natCast, Int.toNat_zero, Int.toNat_one, true_and, List.length_append, List.length_set, List.length_drop, List.length_take, List.length_replicate, List.length_cons, List.length_nil, Nat.zero_add, Nat.mul_one]); omega) | decide | (intros; simp_all; done) | (intros; simp_all; omega)) ?_
    refine Exists.intro _ (Exists.intro _ (And.intro (fun hg => StepD.call (by first | exact ints_fn _ _ (by omega) | exact LiftsD.fit (ints_fn [] [] (by decide)) ⟨⟨rfl, rfl⟩, ⟨rfl, by decide⟩, trivial⟩) rfl rfl rfl) (And.intro (fun hf => rfl) (And.intro rfl (And.intro trivial ?_)))))
    repeat refine And.intro (by first | exact fun h => h | exact fun _ => rfl | (intro h; rw [h]; rfl) | omega | (intros; (try dsimp only [Ty.T, Ty.size]); (try simp only [castL_self, Int.toNat_natCast, Int.toNat_zero, Int.toNat_one, true_and, List.length_append, List.length_set, List.length_drop, List.length_take, List.length_replicate, List.length_cons, List.length_nil, Nat.zero_add, Nat.mul_one]); omega) | decide | (intros; simp_all; done) | (intros; simp_all; omega)) ?_
    refine hK26 _ _ ?_
    clear hK26
    refine AWPD.seq fun K27 hK27 => ?_
    refine AWPD.seq fun K28 hK28 => ?_
    -- region 8
    refine AWPD.keep [1, 2, 3, 4, 9, 15] rfl ?_
    refine AWPD.region tabOK rfl ?_
    refine hK28 _ _ ?_
    clear hK28
    first | refine AWPD.condP rfl (fun h1 => ?_) (fun h1 => ?_) | refine AWPD.condN rfl (fun h1 => ?_) (fun h1 => ?_) | refine AWPD.condAP rfl (fun h1 => ?_) (fun h1 => ?_) | refine AWPD.condOP rfl (fun h1 => ?_) (fun h1 => ?_) | refine AWPD.condONN rfl (fun h1 => ?_) (fun h1 => ?_) | refine AWPD.condOPN rfl (fun h1 => ?_) (fun h1 => ?_) | refine AWPD.condA rfl (fun h1 => ?_) (fun h1 => ?_) | refine AWPD.condO rfl (fun h1 => ?_) (fun h1 => ?_) | refine AWPD.cond rfl (fun h1 => ?_) (fun h1 => ?_)
    · try dsimp only [Ty.T] at h1
      try simp only [castL_self] at h1
      try simp only [Int.toNat_natCast] at h1
      try simp only [Int.toNat_zero] at h1
      try (exact absurd h1 hne0; done)
      all_goals
        -- region 9
        refine AWPD.keep [1, 2, 3, 4, 15] rfl ?_
        refine AWPD.region tabOK rfl ?_
        repeat refine And.intro (by first | exact fun h => h | exact fun _ => rfl | (intro h; rw [h]; rfl) | omega | (intros; (try dsimp only [Ty.T, Ty.size]); (try simp only [castL_self, Int.toNat_natCast, Int.toNat_zero, Int.toNat_one, true_and, List.length_append, List.length_set, List.length_drop, List.length_take, List.length_replicate, List.length_cons, List.length_nil, Nat.zero_add, Nat.mul_one]); omega) | decide | (intros; simp_all; done) | (intros; simp_all; omega)) ?_
        refine Exists.intro _ (Exists.intro _ (And.intro (StepD.call (rword_fn _ _ _ _ _) rfl rfl rfl) (And.intro rfl (And.intro trivial ?_))))
        refine hK27 _ _ ?_
        clear hK27
        refine AWPD.seq fun K29 hK29 => ?_
        -- region 10
        refine AWPD.keep [1, 2, 3, 4, 9, 15] rfl ?_
        refine AWPD.region tabOK rfl ?_
        refine hK29 _ _ ?_
        clear hK29
        refine AWPD.seq fun K30 hK30 => ?_
        refine AWPD.seq fun K31 hK31 => ?_
        -- region 11
        refine AWPD.keep [1, 2, 3, 4, 9, 15, 16] rfl ?_
        refine AWPD.region tabOK rfl ?_
        refine hK31 _ _ ?_
        clear hK31
        first | refine AWPD.condP rfl (fun h2 => ?_) (fun h2 => ?_) | refine AWPD.condN rfl (fun h2 => ?_) (fun h2 => ?_) | refine AWPD.condAP rfl (fun h2 => ?_) (fun h2 => ?_) | refine AWPD.condOP rfl (fun h2 => ?_) (fun h2 => ?_) | refine AWPD.condONN rfl (fun h2 => ?_) (fun h2 => ?_) | refine AWPD.condOPN rfl (fun h2 => ?_) (fun h2 => ?_) | refine AWPD.condA rfl (fun h2 => ?_) (fun h2 => ?_) | refine AWPD.condO rfl (fun h2 => ?_) (fun h2 => ?_) | refine AWPD.cond rfl (fun h2 => ?_) (fun h2 => ?_)
        · try dsimp only [Ty.T] at h2
          try simp only [castL_self] at h2
          try simp only [Int.toNat_natCast] at h2
          try simp only [Int.toNat_zero] at h2
          try (exact absurd h2 hne0; done)
          all_goals
            have hb : bothE P A N S f part w = 0 := hbw.trans h2
            have hpv : purgeV P A N S f part w = purgeL A f part w := by unfold purgeV; rw [if_pos hb]
            have gw := (both_ok hb).few
            have hpl := purgeL_len A f part w
            -- region 12
            refine AWPD.keep [1, 2, 3, 4, 9, 15] rfl ?_
            refine AWPD.region tabOK rfl ?_
            repeat refine And.intro (by first | exact fun h => h | exact fun _ => rfl | (intro h; rw [h]; rfl) | omega | (intros; (try dsimp only [Ty.T, Ty.size]); (try simp only [castL_self, Int.toNat_natCast, Int.toNat_zero, Int.toNat_one, true_and, List.length_append, List.length_set, List.length_drop, List.length_take, List.length_replicate, List.length_cons, List.length_nil, Nat.zero_add, Nat.mul_one]); omega) | decide | (intros; simp_all; done) | (intros; simp_all; omega)) ?_
            refine Exists.intro _ (Exists.intro _ (And.intro (StepD.call (rpurge_fn _ _ _ _ _ _ _ (by assumption)) rfl rfl rfl) (And.intro rfl (And.intro trivial ?_))))
            refine hK30 _ _ ?_
            clear hK30
            refine AWPD.seq fun K32 hK32 => ?_
            -- region 13
            refine AWPD.keep [1, 2, 3, 4, 9, 15, 16] rfl ?_
            refine AWPD.region tabOK rfl ?_
            repeat refine And.intro (by first | exact fun h => h | exact fun _ => rfl | (intro h; rw [h]; rfl) | omega | (intros; (try dsimp only [Ty.T, Ty.size]); (try simp only [castL_self, Int.toNat_natCast, Int.toNat_zero, Int.toNat_one, true_and, List.length_append, List.length_set, List.length_drop, List.length_take, List.length_replicate, List.length_cons, List.length_nil, Nat.zero_add, Nat.mul_one]); omega) | decide | (intros; simp_all; done) | (intros; simp_all; omega)) ?_
            refine Exists.intro _ (Exists.intro _ (And.intro (StepD.call (purge_fn _ _ _ _ _ _ _) rfl rfl rfl) (And.intro rfl (And.intro trivial ?_))))
            refine hK32 _ _ ?_
            clear hK32
            refine AWPD.seq fun K33 hK33 => ?_
            -- region 14
            try rw [hpv]
            try rw [hp0]
            try rw [hbw]
            refine AWPD.keep [9, 13, 14, 15, 16] rfl ?_
            refine AWPD.region tabOK rfl ?_
            repeat refine And.intro (by first | exact fun h => h | exact fun _ => rfl | (intro h; rw [h]; rfl) | omega | (intros; (try dsimp only [Ty.T, Ty.size]); (try simp only [castL_self, Int.toNat_natCast, Int.toNat_zero, Int.toNat_one, true_and, List.length_append, List.length_set, List.length_drop, List.length_take, List.length_replicate, List.length_cons, List.length_nil, Nat.zero_add, Nat.mul_one]); omega) | decide | (intros; simp_all; done) | (intros; simp_all; omega)) ?_
            refine Exists.intro _ (Exists.intro _ (And.intro (fun hg => StepD.callG errG_stays rfl hG0 (error_fn _ _) rfl rfl rfl) (And.intro (fun hf => rfl) (And.intro rfl (And.intro trivial ?_)))))
            repeat refine And.intro (by first | exact fun h => h | exact fun _ => rfl | (intro h; rw [h]; rfl) | omega | (intros; (try dsimp only [Ty.T, Ty.size]); (try simp only [castL_self, Int.toNat_natCast, Int.toNat_zero, Int.toNat_one, true_and, List.length_append, List.length_set, List.length_drop, List.length_take, List.length_replicate, List.length_cons, List.length_nil, Nat.zero_add, Nat.mul_one]); omega) | decide | (intros; simp_all; done) | (intros; simp_all; omega)) ?_
            refine Exists.intro _ (Exists.intro _ (And.intro (fun hg => StepD.call (by first | exact ints_fn _ _ (by omega) | exact LiftsD.fit (ints_fn [] [] (by decide)) ⟨⟨rfl, rfl⟩, ⟨rfl, by decide⟩, trivial⟩) rfl rfl rfl) (And.intro (fun hf => rfl) (And.intro rfl (And.intro trivial ?_)))))
            repeat refine And.intro (by first | exact fun h => h | exact fun _ => rfl | (intro h; rw [h]; rfl) | omega | (intros; (try dsimp only [Ty.T, Ty.size]); (try simp only [castL_self, Int.toNat_natCast, Int.toNat_zero, Int.toNat_one, true_and, List.length_append, List.length_set, List.length_drop, List.length_take, List.length_replicate, List.length_cons, List.length_nil, Nat.zero_add, Nat.mul_one]); omega) | decide | (intros; simp_all; done) | (intros; simp_all; omega)) ?_
            refine hK33 _ _ ?_
            clear hK33
            refine AWPD.ret (And.intro (.inl rfl) ?_)
            -- result 4
            refine RetD.one ?_
            refine fitB rfl ?_
            simp [*]
        · try dsimp only [Ty.T] at h2
          try simp only [castL_self] at h2
          try simp only [Int.toNat_natCast] at h2
          try simp only [Int.toNat_zero] at h2
          try have hp0 : purgeV P A N S f part w = [] := by unfold purgeV; rw [if_neg (by rw [hbw]; exact h2)]
          refine AWPD.skip ?_
          refine hK30 _ _ ?_
          clear hK30
          refine AWPD.seq fun K34 hK34 => ?_
          -- region 13
          refine AWPD.keep [1, 2, 3, 4, 9, 15, 16] rfl ?_
          refine AWPD.region tabOK rfl ?_
          repeat refine And.intro (by first | exact fun h => h | exact fun _ => rfl | (intro h; rw [h]; rfl) | omega | (intros; (try dsimp only [Ty.T, Ty.size]); (try simp only [castL_self, Int.toNat_natCast, Int.toNat_zero, Int.toNat_one, true_and, List.length_append, List.length_set, List.length_drop, List.length_take, List.length_replicate, List.length_cons, List.length_nil, Nat.zero_add, Nat.mul_one]); omega) | decide | (intros; simp_all; done) | (intros; simp_all; omega)) ?_
          refine Exists.intro _ (Exists.intro _ (And.intro (StepD.call (purge_fn _ _ _ _ _ _ _) rfl rfl rfl) (And.intro rfl (And.intro trivial ?_))))
          refine hK34 _ _ ?_
          clear hK34
          refine AWPD.seq fun K35 hK35 => ?_
          -- region 14
          try rw [hpv]
          try rw [hp0]
          try rw [hbw]
          refine AWPD.keep [9, 13, 14, 15, 16] rfl ?_
          refine AWPD.region tabOK rfl ?_
          repeat refine And.intro (by first | exact fun h => h | exact fun _ => rfl | (intro h; rw [h]; rfl) | omega | (intros; (try dsimp only [Ty.T, Ty.size]); (try simp only [castL_self, Int.toNat_natCast, Int.toNat_zero, Int.toNat_one, true_and, List.length_append, List.length_set, List.length_drop, List.length_take, List.length_replicate, List.length_cons, List.length_nil, Nat.zero_add, Nat.mul_one]); omega) | decide | (intros; simp_all; done) | (intros; simp_all; omega)) ?_
          refine Exists.intro _ (Exists.intro _ (And.intro (fun hg => StepD.callG errG_stays rfl hG0 (error_fn _ _) rfl rfl rfl) (And.intro (fun hf => rfl) (And.intro rfl (And.intro trivial ?_)))))
          repeat refine And.intro (by first | exact fun h => h | exact fun _ => rfl | (intro h; rw [h]; rfl) | omega | (intros; (try dsimp only [Ty.T, Ty.size]); (try simp only [castL_self, Int.toNat_natCast, Int.toNat_zero, Int.toNat_one, true_and, List.length_append, List.length_set, List.length_drop, List.length_take, List.length_replicate, List.length_cons, List.length_nil, Nat.zero_add, Nat.mul_one]); omega) | decide | (intros; simp_all; done) | (intros; simp_all; omega)) ?_
          refine Exists.intro _ (Exists.intro _ (And.intro (fun hg => StepD.call (by first | exact ints_fn _ _ (by omega) | exact LiftsD.fit (ints_fn [] [] (by decide)) ⟨⟨rfl, rfl⟩, ⟨rfl, by decide⟩, trivial⟩) rfl rfl rfl) (And.intro (fun hf => rfl) (And.intro rfl (And.intro trivial ?_)))))
          repeat refine And.intro (by first | exact fun h => h | exact fun _ => rfl | (intro h; rw [h]; rfl) | omega | (intros; (try dsimp only [Ty.T, Ty.size]); (try simp only [castL_self, Int.toNat_natCast, Int.toNat_zero, Int.toNat_one, true_and, List.length_append, List.length_set, List.length_drop, List.length_take, List.length_replicate, List.length_cons, List.length_nil, Nat.zero_add, Nat.mul_one]); omega) | decide | (intros; simp_all; done) | (intros; simp_all; omega)) ?_
          refine hK35 _ _ ?_
          clear hK35
          refine AWPD.ret (And.intro (.inl rfl) ?_)
          -- result 5
          refine RetD.one ?_
          refine fitB rfl ?_
          simp [*]
    · try dsimp only [Ty.T] at h1
      try simp only [castL_self] at h1
      try simp only [Int.toNat_natCast] at h1
      try simp only [Int.toNat_zero] at h1
      try (exact absurd he h1; done)
      all_goals
        refine AWPD.skip ?_
        refine hK27 _ _ ?_
        clear hK27
        refine AWPD.seq fun K36 hK36 => ?_
        -- region 10
        refine AWPD.keep [1, 2, 3, 4, 9, 15] rfl ?_
        refine AWPD.region tabOK rfl ?_
        refine hK36 _ _ ?_
        clear hK36
        refine AWPD.seq fun K37 hK37 => ?_
        refine AWPD.seq fun K38 hK38 => ?_
        -- region 11
        refine AWPD.keep [1, 2, 3, 4, 9, 15, 16] rfl ?_
        refine AWPD.region tabOK rfl ?_
        refine hK38 _ _ ?_
        clear hK38
        first | refine AWPD.condP rfl (fun h2 => ?_) (fun h2 => ?_) | refine AWPD.condN rfl (fun h2 => ?_) (fun h2 => ?_) | refine AWPD.condAP rfl (fun h2 => ?_) (fun h2 => ?_) | refine AWPD.condOP rfl (fun h2 => ?_) (fun h2 => ?_) | refine AWPD.condONN rfl (fun h2 => ?_) (fun h2 => ?_) | refine AWPD.condOPN rfl (fun h2 => ?_) (fun h2 => ?_) | refine AWPD.condA rfl (fun h2 => ?_) (fun h2 => ?_) | refine AWPD.condO rfl (fun h2 => ?_) (fun h2 => ?_) | refine AWPD.cond rfl (fun h2 => ?_) (fun h2 => ?_)
        · try dsimp only [Ty.T] at h2
          try simp only [castL_self] at h2
          try simp only [Int.toNat_natCast] at h2
          try simp only [Int.toNat_zero] at h2
          try (exact absurd h2 hne0; done)
          all_goals
            have hb : bothE P A N S f part w = 0 := hbw.trans h2
            have hpv : purgeV P A N S f part w = purgeL A f part w := by unfold purgeV; rw [if_pos hb]
            have gw := (both_ok hb).few
            have hpl := purgeL_len A f part w
            -- region 12
            refine AWPD.keep [1, 2, 3, 4, 9, 15] rfl ?_
            refine AWPD.region tabOK rfl ?_
            repeat refine And.intro (by first | exact fun h => h | exact fun _ => rfl | (intro h; rw [h]; rfl) | omega | (intros; (try dsimp only [Ty.T, Ty.size]); (try simp only [castL_self, Int.toNat_natCast, Int.toNat_zero, Int.toNat_one, true_and, List.length_append, List.length_set, List.length_drop, List.length_take, List.length_replicate, List.length_cons, List.length_nil, Nat.zero_add, Nat.mul_one]); omega) | decide | (intros; simp_all; done) | (intros; simp_all; omega)) ?_
            refine Exists.intro _ (Exists.intro _ (And.intro (StepD.call (rpurge_fn _ _ _ _ _ _ _ (by assumption)) rfl rfl rfl) (And.intro rfl (And.intro trivial ?_))))
            refine hK37 _ _ ?_
            clear hK37
            refine AWPD.seq fun K39 hK39 => ?_
            -- region 13
            refine AWPD.keep [1, 2, 3, 4, 9, 15, 16] rfl ?_
            refine AWPD.region tabOK rfl ?_
            repeat refine And.intro (by first | exact fun h => h | exact fun _ => rfl | (intro h; rw [h]; rfl) | omega | (intros; (try dsimp only [Ty.T, Ty.size]); (try simp only [castL_self, Int.toNat_natCast, Int.toNat_zero, Int.toNat_one, true_and, List.length_append, List.length_set, List.length_drop, List.length_take, List.length_replicate, List.length_cons, List.length_nil, Nat.zero_add, Nat.mul_one]); omega) | decide | (intros; simp_all; done) | (intros; simp_all; omega)) ?_
            refine Exists.intro _ (Exists.intro _ (And.intro (StepD.call (purge_fn _ _ _ _ _ _ _) rfl rfl rfl) (And.intro rfl (And.intro trivial ?_))))
            refine hK39 _ _ ?_
            clear hK39
            refine AWPD.seq fun K40 hK40 => ?_
            -- region 14
            try rw [hpv]
            try rw [hp0]
            try rw [hbw]
            refine AWPD.keep [9, 13, 14, 15, 16] rfl ?_
            refine AWPD.region tabOK rfl ?_
            repeat refine And.intro (by first | exact fun h => h | exact fun _ => rfl | (intro h; rw [h]; rfl) | omega | (intros; (try dsimp only [Ty.T, Ty.size]); (try simp only [castL_self, Int.toNat_natCast, Int.toNat_zero, Int.toNat_one, true_and, List.length_append, List.length_set, List.length_drop, List.length_take, List.length_replicate, List.length_cons, List.length_nil, Nat.zero_add, Nat.mul_one]); omega) | decide | (intros; simp_all; done) | (intros; simp_all; omega)) ?_
            refine Exists.intro _ (Exists.intro _ (And.intro (fun hg => StepD.callG errG_stays rfl hG0 (error_fn _ _) rfl rfl rfl) (And.intro (fun hf => rfl) (And.intro rfl (And.intro trivial ?_)))))
            repeat refine And.intro (by first | exact fun h => h | exact fun _ => rfl | (intro h; rw [h]; rfl) | omega | (intros; (try dsimp only [Ty.T, Ty.size]); (try simp only [castL_self, Int.toNat_natCast, Int.toNat_zero, Int.toNat_one, true_and, List.length_append, List.length_set, List.length_drop, List.length_take, List.length_replicate, List.length_cons, List.length_nil, Nat.zero_add, Nat.mul_one]); omega) | decide | (intros; simp_all; done) | (intros; simp_all; omega)) ?_
            refine Exists.intro _ (Exists.intro _ (And.intro (fun hg => StepD.call (by first | exact ints_fn _ _ (by omega) | exact LiftsD.fit (ints_fn [] [] (by decide)) ⟨⟨rfl, rfl⟩, ⟨rfl, by decide⟩, trivial⟩) rfl rfl rfl) (And.intro (fun hf => rfl) (And.intro rfl (And.intro trivial ?_)))))
            repeat refine And.intro (by first | exact fun h => h | exact fun _ => rfl | (intro h; rw [h]; rfl) | omega | (intros; (try dsimp only [Ty.T, Ty.size]); (try simp only [castL_self, Int.toNat_natCast, Int.toNat_zero, Int.toNat_one, true_and, List.length_append, List.length_set, List.length_drop, List.length_take, List.length_replicate, List.length_cons, List.length_nil, Nat.zero_add, Nat.mul_one]); omega) | decide | (intros; simp_all; done) | (intros; simp_all; omega)) ?_
            refine hK40 _ _ ?_
            clear hK40
            refine AWPD.ret (And.intro (.inl rfl) ?_)
            -- result 6
            refine RetD.one ?_
            refine fitB rfl ?_
            simp [*]
        · try dsimp only [Ty.T] at h2
          try simp only [castL_self] at h2
          try simp only [Int.toNat_natCast] at h2
          try simp only [Int.toNat_zero] at h2
          try have hp0 : purgeV P A N S f part w = [] := by unfold purgeV; rw [if_neg (by rw [hbw]; exact h2)]
          refine AWPD.skip ?_
          refine hK37 _ _ ?_
          clear hK37
          refine AWPD.seq fun K41 hK41 => ?_
          -- region 13
          refine AWPD.keep [1, 2, 3, 4, 9, 15, 16] rfl ?_
          refine AWPD.region tabOK rfl ?_
          repeat refine And.intro (by first | exact fun h => h | exact fun _ => rfl | (intro h; rw [h]; rfl) | omega | (intros; (try dsimp only [Ty.T, Ty.size]); (try simp only [castL_self, Int.toNat_natCast, Int.toNat_zero, Int.toNat_one, true_and, List.length_append, List.length_set, List.length_drop, List.length_take, List.length_replicate, List.length_cons, List.length_nil, Nat.zero_add, Nat.mul_one]); omega) | decide | (intros; simp_all; done) | (intros; simp_all; omega)) ?_
          refine Exists.intro _ (Exists.intro _ (And.intro (StepD.call (purge_fn _ _ _ _ _ _ _) rfl rfl rfl) (And.intro rfl (And.intro trivial ?_))))
          refine hK41 _ _ ?_
          clear hK41
          refine AWPD.seq fun K42 hK42 => ?_
          -- region 14
          try rw [hpv]
          try rw [hp0]
          try rw [hbw]
          refine AWPD.keep [9, 13, 14, 15, 16] rfl ?_
          refine AWPD.region tabOK rfl ?_
          repeat refine And.intro (by first | exact fun h => h | exact fun _ => rfl | (intro h; rw [h]; rfl) | omega | (intros; (try dsimp only [Ty.T, Ty.size]); (try simp only [castL_self, Int.toNat_natCast, Int.toNat_zero, Int.toNat_one, true_and, List.length_append, List.length_set, List.length_drop, List.length_take, List.length_replicate, List.length_cons, List.length_nil, Nat.zero_add, Nat.mul_one]); omega) | decide | (intros; simp_all; done) | (intros; simp_all; omega)) ?_
          refine Exists.intro _ (Exists.intro _ (And.intro (fun hg => StepD.callG errG_stays rfl hG0 (error_fn _ _) rfl rfl rfl) (And.intro (fun hf => rfl) (And.intro rfl (And.intro trivial ?_)))))
          repeat refine And.intro (by first | exact fun h => h | exact fun _ => rfl | (intro h; rw [h]; rfl) | omega | (intros; (try dsimp only [Ty.T, Ty.size]); (try simp only [castL_self, Int.toNat_natCast, Int.toNat_zero, Int.toNat_one, true_and, List.length_append, List.length_set, List.length_drop, List.length_take, List.length_replicate, List.length_cons, List.length_nil, Nat.zero_add, Nat.mul_one]); omega) | decide | (intros; simp_all; done) | (intros; simp_all; omega)) ?_
          refine Exists.intro _ (Exists.intro _ (And.intro (fun hg => StepD.call (by first | exact ints_fn _ _ (by omega) | exact LiftsD.fit (ints_fn [] [] (by decide)) ⟨⟨rfl, rfl⟩, ⟨rfl, by decide⟩, trivial⟩) rfl rfl rfl) (And.intro (fun hf => rfl) (And.intro rfl (And.intro trivial ?_)))))
          repeat refine And.intro (by first | exact fun h => h | exact fun _ => rfl | (intro h; rw [h]; rfl) | omega | (intros; (try dsimp only [Ty.T, Ty.size]); (try simp only [castL_self, Int.toNat_natCast, Int.toNat_zero, Int.toNat_one, true_and, List.length_append, List.length_set, List.length_drop, List.length_take, List.length_replicate, List.length_cons, List.length_nil, Nat.zero_add, Nat.mul_one]); omega) | decide | (intros; simp_all; done) | (intros; simp_all; omega)) ?_
          refine hK42 _ _ ?_
          clear hK42
          refine AWPD.ret (And.intro (.inl rfl) ?_)
          -- result 7
          refine RetD.one ?_
          refine fitB rfl ?_
          simp [*]
end Go.Proofs.YtndoigkmdcgjfaaDoor
