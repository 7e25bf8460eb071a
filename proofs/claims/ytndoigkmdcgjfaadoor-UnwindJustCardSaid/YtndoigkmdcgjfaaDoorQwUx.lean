/-
  WALKS of the laws UnwindTwo and UnwindLeast. Laid by a program of mine out of the operations, with the loops and results told by hand.
-/
import Derived.Test.YtndoigkmdcgjfaaDoorQwUw
namespace Go.Proofs.YtndoigkmdcgjfaaDoor
open Go Go.Qw
set_option maxRecDepth 10000
set_option linter.unusedSimpArgs false
set_option linter.unusedVariables false


theorem holds_yes {P : Int} {A : List Int} {N S : List (List Int)} {f : List Int} {part : Int} (he : chkE P A N S f part = 0) (h : holdsB P A N S f part = true) : holdsL P A N S f part = [] ∧ ∀ s t, s < t → t < N.length → ¬badV S part (viewsV P A N S f part) t s := by
  unfold holdsB at h
  rw [decide_eq_true he, Bool.true_and] at h
  have ho : hoV P A N S f part = none := by cases hh : hoV P A N S f part with
    | none => rfl
    | some q => rw [hh] at h; cases h
  exact ⟨by unfold holdsL; rw [if_pos he, ho], hO_none ho⟩
theorem holds_no {P : Int} {A : List Int} {N S : List (List Int)} {f : List Int} {part : Int} (he : chkE P A N S f part = 0) (h : holdsB P A N S f part = false) : ∃ a b : Nat, holdsL P A N S f part = [(a : Int), (b : Int)] ∧ a < b ∧ b < N.length ∧ badV S part (viewsV P A N S f part) b a := by
  unfold holdsB at h
  rw [decide_eq_true he, Bool.true_and] at h
  cases hh : hoV P A N S f part with
  | none => rw [hh] at h; cases h
  | some q =>
    obtain ⟨a, b⟩ := q
    have := hO_some hh
    exact ⟨a, b, by unfold holdsL; rw [if_pos he, hh], this⟩
theorem two_same {P : Int} {A : List Int} {N S : List (List Int)} {f : List Int} {part : Int} (h : ∀ s t, s < t → t < N.length → ¬badV S part (viewsV P A N S f part) t s) {s t : Int} (hs : 0 ≤ s ∧ s < N.length) (ht : 0 ≤ t ∧ t < N.length) (h0 : 0 ≤ (viewsV P A N S f part).getD s.toNat 0) (he : (viewsV P A N S f part).getD s.toNat 0 = (viewsV P A N S f part).getD t.toNat 0) : (S.getD s.toNat []).getD part.toNat 0 = (S.getD t.toNat []).getD part.toNat 0 := by
  refine Decidable.byContradiction fun hne => ?_
  rcases Nat.lt_trichotomy s.toNat t.toNat with hlt | heq | hlt
  · exact h s.toNat t.toNat hlt (by omega) ⟨h0, he, hne⟩
  · exact hne (by rw [heq])
  · exact h t.toNat s.toNat hlt (by omega) ⟨by rw [← he]; exact h0, he.symm, fun hh => hne hh.symm⟩

theorem unwindTwo_fn (P : Int) (A : List Int) (N S : List (List Int)) (f : List Int) (part : Int) (s t : Int) : LiftsG Tryd.prog tabG 5 [.agg [.i P, .sl .int A, .sl (.sl .int) N, .sl (.sl .int) S], .sl .int f, .i part, .i s, .i t] (.b true) := by
  refine LiftsG.of_body 187 [.tmp 10] Tryd.func5 rfl Tryd.ntmps5 (by kernel_rfl) rfl rfl fun w0 X0 hG0 => ?_
  refine AWPD.seq fun K1 hK1 => ?_
  -- region 0
  refine AWPD.keep [0, 1, 2, 3, 4] rfl ?_
  refine AWPD.region tabOK rfl ?_
  refine hK1 _ _ ?_
  clear hK1
  refine AWPD.seq fun K2 hK2 => ?_
  -- region 1
  refine AWPD.keep [1, 2, 3, 4, 5] rfl ?_
  refine AWPD.region tabOK rfl ?_
  refine Exists.intro _ (Exists.intro _ (And.intro (StepD.callG tabG_stays rfl hG0 (unwindFact_fn) rfl rfl rfl) (And.intro rfl (And.intro trivial ?_))))
  refine hK2 _ _ ?_
  clear hK2
  refine AWPD.seq fun K3 hK3 => ?_
  refine AWPD.seq fun K4 hK4 => ?_
  -- region 2
  refine AWPD.keep [1, 2, 3, 4, 5, 11] rfl ?_
  refine AWPD.region tabOK rfl ?_
  refine hK4 _ _ ?_
  clear hK4
  first | refine AWPD.condP rfl (fun h0 => ?_) (fun h0 => ?_) | refine AWPD.condN rfl (fun h0 => ?_) (fun h0 => ?_) | refine AWPD.condAP rfl (fun h0 => ?_) (fun h0 => ?_) | refine AWPD.condOP rfl (fun h0 => ?_) (fun h0 => ?_) | refine AWPD.condONN rfl (fun h0 => ?_) (fun h0 => ?_) | refine AWPD.condOPN rfl (fun h0 => ?_) (fun h0 => ?_) | refine AWPD.condA rfl (fun h0 => ?_) (fun h0 => ?_) | refine AWPD.condO rfl (fun h0 => ?_) (fun h0 => ?_) | refine AWPD.cond rfl (fun h0 => ?_) (fun h0 => ?_)
  · try dsimp only [Ty.T] at h0
    try simp only [castL_self] at h0
    try simp only [Int.toNat_natCast] at h0
    try simp only [Int.toNat_zero] at h0
    exact absurd h0 (by decide)
  · try dsimp only [Ty.T] at h0
    try simp only [castL_self] at h0
    try simp only [Int.toNat_natCast] at h0
    try simp only [Int.toNat_zero] at h0
    refine AWPD.skip ?_
    refine hK3 _ _ ?_
    clear hK3
    refine AWPD.seq fun K5 hK5 => ?_
    -- region 4
    refine AWPD.keep [1, 2, 3, 4, 5] rfl ?_
    refine AWPD.region tabOK rfl ?_
    repeat refine And.intro (by first | (intro hq1 hq2; rw [hq1, hq2]; rfl) | (intro hg; simp only [Bool.cond_true_left, Bool.cond_false_right, Bool.cond_true_right, Bool.cond_false_left, Bool.or_eq_true, Bool.and_eq_true, decide_eq_true_eq, Bool.or_eq_false_iff, Bool.and_eq_false_iff, decide_eq_false_iff_not, Bool.not_eq_true', Bool.not_eq_false', Bool.not_true, Bool.not_false] at hg; have h1 := hrS s (by omega) (by omega); have h2 := hrS t (by omega) (by omega); omega) | (intro hg; simp only [Bool.cond_true_left, Bool.cond_false_right, Bool.cond_true_right, Bool.cond_false_left, Bool.or_eq_true, Bool.and_eq_true, decide_eq_true_eq, Bool.or_eq_false_iff, Bool.and_eq_false_iff, decide_eq_false_iff_not, Bool.not_eq_true', Bool.not_eq_false', Bool.not_true, Bool.not_false] at hg; omega) | (intros; simp only [castL_self, Int.toNat_zero, Int.toNat_one, List.getD_cons_zero, List.getD_cons_succ, Int.toNat_natCast, List.length_cons, List.length_nil]; omega) | exact fun h => h | exact fun _ => rfl | (intro h; rw [h]; rfl) | omega | ((try dsimp only [Ty.T]); (try simp only [castL_self]); (try simp only [Int.toNat_natCast]); (try simp only [Int.toNat_zero]); (try simp only [true_and]); omega) | (intros; (try dsimp only [Ty.T]); (try simp only [castL_self]); (try simp only [Int.toNat_natCast]); (try simp only [Int.toNat_zero]); (try simp only [true_and]); omega) | ((try dsimp only [Ty.T, Ty.size]); (try simp only [castL_self, Int.toNat_natCast, Int.toNat_zero, true_and, List.length_append, List.length_set, List.length_cons, List.length_nil, Nat.zero_add, Nat.mul_one]); omega) | ((try dsimp only [Ty.T, Ty.size]); (try simp only [castL_self, Int.toNat_natCast, Int.toNat_zero, Int.toNat_one, true_and, List.length_append, List.length_set, List.length_drop, List.length_take, List.length_replicate, List.length_cons, List.length_nil, Nat.zero_add, Nat.mul_one]); omega) | decide | (intros; simp_all; done) | (intros; simp_all; omega)) ?_
    refine Exists.intro _ (Exists.intro _ (And.intro (StepD.callG tabG_stays rfl hG0 (holds_fn _ _ _ _ _ _) rfl rfl rfl) (And.intro rfl (And.intro trivial ?_))))
    refine hK5 _ _ ?_
    clear hK5
    refine AWPD.seq fun K6 hK6 => ?_
    -- region 5
    refine AWPD.keep [1, 2, 3, 4, 5, 12, 13, 14] rfl ?_
    refine AWPD.region tabOK rfl ?_
    repeat refine And.intro (by first | (intro hq1 hq2; rw [hq1, hq2]; rfl) | (intro hg; simp only [Bool.cond_true_left, Bool.cond_false_right, Bool.cond_true_right, Bool.cond_false_left, Bool.or_eq_true, Bool.and_eq_true, decide_eq_true_eq, Bool.or_eq_false_iff, Bool.and_eq_false_iff, decide_eq_false_iff_not, Bool.not_eq_true', Bool.not_eq_false', Bool.not_true, Bool.not_false] at hg; have h1 := hrS s (by omega) (by omega); have h2 := hrS t (by omega) (by omega); omega) | (intro hg; simp only [Bool.cond_true_left, Bool.cond_false_right, Bool.cond_true_right, Bool.cond_false_left, Bool.or_eq_true, Bool.and_eq_true, decide_eq_true_eq, Bool.or_eq_false_iff, Bool.and_eq_false_iff, decide_eq_false_iff_not, Bool.not_eq_true', Bool.not_eq_false', Bool.not_true, Bool.not_false] at hg; omega) | (intros; simp only [castL_self, Int.toNat_zero, Int.toNat_one, List.getD_cons_zero, List.getD_cons_succ, Int.toNat_natCast, List.length_cons, List.length_nil]; omega) | exact fun h => h | exact fun _ => rfl | (intro h; rw [h]; rfl) | omega | ((try dsimp only [Ty.T]); (try simp only [castL_self]); (try simp only [Int.toNat_natCast]); (try simp only [Int.toNat_zero]); (try simp only [true_and]); omega) | (intros; (try dsimp only [Ty.T]); (try simp only [castL_self]); (try simp only [Int.toNat_natCast]); (try simp only [Int.toNat_zero]); (try simp only [true_and]); omega) | ((try dsimp only [Ty.T, Ty.size]); (try simp only [castL_self, Int.toNat_natCast, Int.toNat_zero, true_and, List.length_append, List.length_set, List.length_cons, List.length_nil, Nat.zero_add, Nat.mul_one]); omega) | ((try dsimp only [Ty.T, Ty.size]); (try simp only [castL_self, Int.toNat_natCast, Int.toNat_zero, Int.toNat_one, true_and, List.length_append, List.length_set, List.length_drop, List.length_take, List.length_replicate, List.length_cons, List.length_nil, Nat.zero_add, Nat.mul_one]); omega) | decide | (intros; simp_all; done) | (intros; simp_all; omega)) ?_
    refine Exists.intro _ (Exists.intro _ (And.intro (StepD.callG tabG_stays rfl hG0 (views_fn _ _ _ _ _ _) rfl rfl rfl) (And.intro rfl (And.intro trivial ?_))))
    refine hK6 _ _ ?_
    clear hK6
    refine AWPD.seq fun K7 hK7 => ?_
    refine AWPD.seq fun K8 hK8 => ?_
    -- region 6
    refine AWPD.keep [2, 3, 4, 5, 12, 13, 14, 15, 16] rfl ?_
    refine AWPD.region tabOK rfl ?_
    repeat refine And.intro (by first | (intro hq1 hq2; rw [hq1, hq2]; rfl) | (intro hg; simp only [Bool.cond_true_left, Bool.cond_false_right, Bool.cond_true_right, Bool.cond_false_left, Bool.or_eq_true, Bool.and_eq_true, decide_eq_true_eq, Bool.or_eq_false_iff, Bool.and_eq_false_iff, decide_eq_false_iff_not, Bool.not_eq_true', Bool.not_eq_false', Bool.not_true, Bool.not_false] at hg; have h1 := hrS s (by omega) (by omega); have h2 := hrS t (by omega) (by omega); omega) | (intro hg; simp only [Bool.cond_true_left, Bool.cond_false_right, Bool.cond_true_right, Bool.cond_false_left, Bool.or_eq_true, Bool.and_eq_true, decide_eq_true_eq, Bool.or_eq_false_iff, Bool.and_eq_false_iff, decide_eq_false_iff_not, Bool.not_eq_true', Bool.not_eq_false', Bool.not_true, Bool.not_false] at hg; omega) | (intros; simp only [castL_self, Int.toNat_zero, Int.toNat_one, List.getD_cons_zero, List.getD_cons_succ, Int.toNat_natCast, List.length_cons, List.length_nil]; omega) | exact fun h => h | exact fun _ => rfl | (intro h; rw [h]; rfl) | omega | ((try dsimp only [Ty.T]); (try simp only [castL_self]); (try simp only [Int.toNat_natCast]); (try simp only [Int.toNat_zero]); (try simp only [true_and]); omega) | (intros; (try dsimp only [Ty.T]); (try simp only [castL_self]); (try simp only [Int.toNat_natCast]); (try simp only [Int.toNat_zero]); (try simp only [true_and]); omega) | ((try dsimp only [Ty.T, Ty.size]); (try simp only [castL_self, Int.toNat_natCast, Int.toNat_zero, true_and, List.length_append, List.length_set, List.length_cons, List.length_nil, Nat.zero_add, Nat.mul_one]); omega) | ((try dsimp only [Ty.T, Ty.size]); (try simp only [castL_self, Int.toNat_natCast, Int.toNat_zero, Int.toNat_one, true_and, List.length_append, List.length_set, List.length_drop, List.length_take, List.length_replicate, List.length_cons, List.length_nil, Nat.zero_add, Nat.mul_one]); omega) | decide | (intros; simp_all; done) | (intros; simp_all; omega)) ?_
    refine hK8 _ _ ?_
    clear hK8
    first | refine AWPD.cond rfl (fun h1 => ?_) (fun h1 => ?_)
    · try dsimp only [Ty.T] at h1
      try simp only [castL_self] at h1
      try simp only [Int.toNat_natCast] at h1
      try simp only [Int.toNat_zero] at h1
      try simp only [Bool.cond_true_left, Bool.cond_false_right, Bool.cond_true_right, Bool.cond_false_left, Bool.or_eq_true, Bool.and_eq_true, decide_eq_true_eq, Bool.or_eq_false_iff, Bool.and_eq_false_iff, decide_eq_false_iff_not, Bool.not_eq_true', Bool.not_eq_false', Bool.not_eq_eq_eq_not, Bool.not_true, Bool.not_false] at h1
      refine AWPD.seq fun K9 hK9 => ?_
      -- region 7
      refine AWPD.keep [12, 13] rfl ?_
      refine AWPD.region tabOK rfl ?_
      repeat refine And.intro (by first | (intro hq1 hq2; rw [hq1, hq2]; rfl) | (intro hg; simp only [Bool.cond_true_left, Bool.cond_false_right, Bool.cond_true_right, Bool.cond_false_left, Bool.or_eq_true, Bool.and_eq_true, decide_eq_true_eq, Bool.or_eq_false_iff, Bool.and_eq_false_iff, decide_eq_false_iff_not, Bool.not_eq_true', Bool.not_eq_false', Bool.not_true, Bool.not_false] at hg; have h1 := hrS s (by omega) (by omega); have h2 := hrS t (by omega) (by omega); omega) | (intro hg; simp only [Bool.cond_true_left, Bool.cond_false_right, Bool.cond_true_right, Bool.cond_false_left, Bool.or_eq_true, Bool.and_eq_true, decide_eq_true_eq, Bool.or_eq_false_iff, Bool.and_eq_false_iff, decide_eq_false_iff_not, Bool.not_eq_true', Bool.not_eq_false', Bool.not_true, Bool.not_false] at hg; omega) | (intros; simp only [castL_self, Int.toNat_zero, Int.toNat_one, List.getD_cons_zero, List.getD_cons_succ, Int.toNat_natCast, List.length_cons, List.length_nil]; omega) | exact fun h => h | exact fun _ => rfl | (intro h; rw [h]; rfl) | omega | ((try dsimp only [Ty.T]); (try simp only [castL_self]); (try simp only [Int.toNat_natCast]); (try simp only [Int.toNat_zero]); (try simp only [true_and]); omega) | (intros; (try dsimp only [Ty.T]); (try simp only [castL_self]); (try simp only [Int.toNat_natCast]); (try simp only [Int.toNat_zero]); (try simp only [true_and]); omega) | ((try dsimp only [Ty.T, Ty.size]); (try simp only [castL_self, Int.toNat_natCast, Int.toNat_zero, true_and, List.length_append, List.length_set, List.length_cons, List.length_nil, Nat.zero_add, Nat.mul_one]); omega) | ((try dsimp only [Ty.T, Ty.size]); (try simp only [castL_self, Int.toNat_natCast, Int.toNat_zero, Int.toNat_one, true_and, List.length_append, List.length_set, List.length_drop, List.length_take, List.length_replicate, List.length_cons, List.length_nil, Nat.zero_add, Nat.mul_one]); omega) | decide | (intros; simp_all; done) | (intros; simp_all; omega)) ?_
      refine hK9 _ _ ?_
      clear hK9
      refine AWPD.ret (And.intro (.inl rfl) ?_)
      -- result 0
      refine RetD.one ?_
      refine fitB rfl ?_
      have hz : chkE P A N S f part ≠ 0 := by omega
      unfold holdsB holdsL
      rw [decide_eq_false hz, if_neg hz]
      rfl
    · try dsimp only [Ty.T] at h1
      try simp only [castL_self] at h1
      try simp only [Int.toNat_natCast] at h1
      try simp only [Int.toNat_zero] at h1
      try simp only [Bool.cond_true_left, Bool.cond_false_right, Bool.cond_true_right, Bool.cond_false_left, Bool.or_eq_true, Bool.and_eq_true, decide_eq_true_eq, Bool.or_eq_false_iff, Bool.and_eq_false_iff, decide_eq_false_iff_not, Bool.not_eq_true', Bool.not_eq_false', Bool.not_eq_eq_eq_not, Bool.not_true, Bool.not_false] at h1
      have he : chkE P A N S f part = 0 := by omega
      obtain ⟨hpol, hp1, hp2⟩ := chk_ok he
      obtain ⟨hme, gf⟩ := pol_ok hpol
      have g := mach_good hme
      have hN := g.few
      have hP := g.parts
      have hvl := viewsV_len he
      have hSl := g.lenS
      have hrS : ∀ k : Int, 0 ≤ k → k < N.length → ((S.getD k.toNat []).length : Int) = P := fun k h1 h2 => g.rowS k.toNat (by omega)
      refine AWPD.skip ?_
      refine hK7 _ _ ?_
      clear hK7
      refine AWPD.seq fun K10 hK10 => ?_
      -- region 8
      refine AWPD.keep [2, 3, 4, 5, 12, 13, 15] rfl ?_
      refine AWPD.region tabOK rfl ?_
      repeat refine And.intro (by first | (intro hq1 hq2; rw [hq1, hq2]; rfl) | (intro hg; simp only [Bool.cond_true_left, Bool.cond_false_right, Bool.cond_true_right, Bool.cond_false_left, Bool.or_eq_true, Bool.and_eq_true, decide_eq_true_eq, Bool.or_eq_false_iff, Bool.and_eq_false_iff, decide_eq_false_iff_not, Bool.not_eq_true', Bool.not_eq_false', Bool.not_true, Bool.not_false] at hg; have h1 := hrS s (by omega) (by omega); have h2 := hrS t (by omega) (by omega); omega) | (intro hg; simp only [Bool.cond_true_left, Bool.cond_false_right, Bool.cond_true_right, Bool.cond_false_left, Bool.or_eq_true, Bool.and_eq_true, decide_eq_true_eq, Bool.or_eq_false_iff, Bool.and_eq_false_iff, decide_eq_false_iff_not, Bool.not_eq_true', Bool.not_eq_false', Bool.not_true, Bool.not_false] at hg; omega) | (intros; simp only [castL_self, Int.toNat_zero, Int.toNat_one, List.getD_cons_zero, List.getD_cons_succ, Int.toNat_natCast, List.length_cons, List.length_nil]; omega) | exact fun h => h | exact fun _ => rfl | (intro h; rw [h]; rfl) | omega | ((try dsimp only [Ty.T]); (try simp only [castL_self]); (try simp only [Int.toNat_natCast]); (try simp only [Int.toNat_zero]); (try simp only [true_and]); omega) | (intros; (try dsimp only [Ty.T]); (try simp only [castL_self]); (try simp only [Int.toNat_natCast]); (try simp only [Int.toNat_zero]); (try simp only [true_and]); omega) | ((try dsimp only [Ty.T, Ty.size]); (try simp only [castL_self, Int.toNat_natCast, Int.toNat_zero, true_and, List.length_append, List.length_set, List.length_cons, List.length_nil, Nat.zero_add, Nat.mul_one]); omega) | ((try dsimp only [Ty.T, Ty.size]); (try simp only [castL_self, Int.toNat_natCast, Int.toNat_zero, Int.toNat_one, true_and, List.length_append, List.length_set, List.length_drop, List.length_take, List.length_replicate, List.length_cons, List.length_nil, Nat.zero_add, Nat.mul_one]); omega) | decide | (intros; simp_all; done) | (intros; simp_all; omega)) ?_
      refine hK10 _ _ ?_
      clear hK10
      refine AWPD.seq fun K11 hK11 => ?_
      refine AWPD.seq fun K12 hK12 => ?_
      -- region 9
      refine AWPD.keep [2, 3, 4, 5, 12, 13, 15, 17] rfl ?_
      refine AWPD.region tabOK rfl ?_
      refine hK12 _ _ ?_
      clear hK12
      first | refine AWPD.condP rfl (fun h2 => ?_) (fun h2 => ?_) | refine AWPD.condN rfl (fun h2 => ?_) (fun h2 => ?_) | refine AWPD.condAP rfl (fun h2 => ?_) (fun h2 => ?_) | refine AWPD.condOP rfl (fun h2 => ?_) (fun h2 => ?_) | refine AWPD.condONN rfl (fun h2 => ?_) (fun h2 => ?_) | refine AWPD.condOPN rfl (fun h2 => ?_) (fun h2 => ?_) | refine AWPD.condA rfl (fun h2 => ?_) (fun h2 => ?_) | refine AWPD.condO rfl (fun h2 => ?_) (fun h2 => ?_) | refine AWPD.cond rfl (fun h2 => ?_) (fun h2 => ?_)
      · try dsimp only [Ty.T] at h2
        try simp only [castL_self] at h2
        try simp only [Int.toNat_natCast] at h2
        try simp only [Int.toNat_zero] at h2
        exfalso; omega
      · try dsimp only [Ty.T] at h2
        try simp only [castL_self] at h2
        try simp only [Int.toNat_natCast] at h2
        try simp only [Int.toNat_zero] at h2
        refine AWPD.skip ?_
        refine hK11 _ _ ?_
        clear hK11
        refine AWPD.seq fun K13 hK13 => ?_
        refine AWPD.seq fun K14 hK14 => ?_
        -- region 11
        refine AWPD.keep [2, 3, 4, 5, 12, 13, 15, 17] rfl ?_
        refine AWPD.region tabOK rfl ?_
        refine hK14 _ _ ?_
        clear hK14
        first | refine AWPD.cond rfl (fun h3 => ?_) (fun h3 => ?_)
        · try dsimp only [Ty.T] at h3
          try simp only [castL_self] at h3
          try simp only [Int.toNat_natCast] at h3
          try simp only [Int.toNat_zero] at h3
          obtain ⟨hl, hno⟩ := holds_yes he h3
          refine AWPD.seq fun K15 hK15 => ?_
          -- region 12
          refine AWPD.keep [2, 3, 4, 5, 13, 15, 17] rfl ?_
          refine AWPD.draw tabOK [] rfl (by kernel_rfl) ?_
          repeat refine And.intro (by first | (intro hq1 hq2; rw [hq1, hq2]; rfl) | (intro hg; simp only [Bool.cond_true_left, Bool.cond_false_right, Bool.cond_true_right, Bool.cond_false_left, Bool.or_eq_true, Bool.and_eq_true, decide_eq_true_eq, Bool.or_eq_false_iff, Bool.and_eq_false_iff, decide_eq_false_iff_not, Bool.not_eq_true', Bool.not_eq_false', Bool.not_true, Bool.not_false] at hg; have h1 := hrS s (by omega) (by omega); have h2 := hrS t (by omega) (by omega); omega) | (intro hg; simp only [Bool.cond_true_left, Bool.cond_false_right, Bool.cond_true_right, Bool.cond_false_left, Bool.or_eq_true, Bool.and_eq_true, decide_eq_true_eq, Bool.or_eq_false_iff, Bool.and_eq_false_iff, decide_eq_false_iff_not, Bool.not_eq_true', Bool.not_eq_false', Bool.not_true, Bool.not_false] at hg; omega) | (intros; simp only [castL_self, Int.toNat_zero, Int.toNat_one, List.getD_cons_zero, List.getD_cons_succ, Int.toNat_natCast, List.length_cons, List.length_nil]; omega) | exact fun h => h | exact fun _ => rfl | (intro h; rw [h]; rfl) | omega | ((try dsimp only [Ty.T]); (try simp only [castL_self]); (try simp only [Int.toNat_natCast]); (try simp only [Int.toNat_zero]); (try simp only [true_and]); omega) | (intros; (try dsimp only [Ty.T]); (try simp only [castL_self]); (try simp only [Int.toNat_natCast]); (try simp only [Int.toNat_zero]); (try simp only [true_and]); omega) | ((try dsimp only [Ty.T, Ty.size]); (try simp only [castL_self, Int.toNat_natCast, Int.toNat_zero, true_and, List.length_append, List.length_set, List.length_cons, List.length_nil, Nat.zero_add, Nat.mul_one]); omega) | ((try dsimp only [Ty.T, Ty.size]); (try simp only [castL_self, Int.toNat_natCast, Int.toNat_zero, Int.toNat_one, true_and, List.length_append, List.length_set, List.length_drop, List.length_take, List.length_replicate, List.length_cons, List.length_nil, Nat.zero_add, Nat.mul_one]); omega) | decide | (intros; simp_all; done) | (intros; simp_all; omega)) ?_
          refine hK15 _ _ ?_
          clear hK15
          refine AWPD.ret (And.intro (.inl rfl) ?_)
          -- result 1
          refine RetD.one ?_
          refine fitB rfl ?_
          rw [hl]
          simp only [Bool.cond_true_left, Bool.cond_false_right, Bool.cond_true_right, Bool.cond_false_left, Bool.or_eq_true, Bool.and_eq_true, decide_eq_true_eq, Bool.or_eq_false_iff, Bool.and_eq_false_iff, decide_eq_false_iff_not, Bool.not_eq_true', Bool.not_eq_false', Bool.not_true, Bool.not_false, List.length_nil]
          refine ⟨by simp, ?_⟩
          by_cases hr : 0 ≤ s ∧ s < N.length ∧ 0 ≤ t ∧ t < N.length
          · by_cases h0 : 0 ≤ (viewsV P A N S f part).getD s.toNat 0
            · by_cases heq : (viewsV P A N S f part).getD s.toNat 0 = (viewsV P A N S f part).getD t.toNat 0
              · exact .inr (two_same hno ⟨hr.1, hr.2.1⟩ ⟨hr.2.2.1, hr.2.2.2⟩ h0 heq)
              · exact .inl (.inr heq)
            · exact .inl (.inl (.inr (by omega)))
          · exact .inl (.inl (.inl (by omega)))
        · try dsimp only [Ty.T] at h3
          try simp only [castL_self] at h3
          try simp only [Int.toNat_natCast] at h3
          try simp only [Int.toNat_zero] at h3
          obtain ⟨a, b, hl, hab, hbn, hbad⟩ := holds_no he h3
          have hra := hrS (a : Int) (by omega) (by omega)
          have hrb := hrS (b : Int) (by omega) (by omega)
          rw [Int.toNat_natCast] at hra hrb
          obtain ⟨hb1, hb2, hb3⟩ := hbad
          refine AWPD.skip ?_
          refine hK13 _ _ ?_
          clear hK13
          refine AWPD.seq fun K16 hK16 => ?_
          -- region 13
          rw [hl]
          refine AWPD.keep [2, 5, 13, 15, 17] rfl ?_
          refine AWPD.draw tabOK [] rfl (by kernel_rfl) ?_
          repeat refine And.intro (by first | (intro hq1 hq2; rw [hq1, hq2]; rfl) | (intro hg; simp only [Bool.cond_true_left, Bool.cond_false_right, Bool.cond_true_right, Bool.cond_false_left, Bool.or_eq_true, Bool.and_eq_true, decide_eq_true_eq, Bool.or_eq_false_iff, Bool.and_eq_false_iff, decide_eq_false_iff_not, Bool.not_eq_true', Bool.not_eq_false', Bool.not_true, Bool.not_false] at hg; have h1 := hrS s (by omega) (by omega); have h2 := hrS t (by omega) (by omega); omega) | (intro hg; simp only [Bool.cond_true_left, Bool.cond_false_right, Bool.cond_true_right, Bool.cond_false_left, Bool.or_eq_true, Bool.and_eq_true, decide_eq_true_eq, Bool.or_eq_false_iff, Bool.and_eq_false_iff, decide_eq_false_iff_not, Bool.not_eq_true', Bool.not_eq_false', Bool.not_true, Bool.not_false] at hg; omega) | (intros; simp only [castL_self, Int.toNat_zero, Int.toNat_one, List.getD_cons_zero, List.getD_cons_succ, Int.toNat_natCast, List.length_cons, List.length_nil]; omega) | exact fun h => h | exact fun _ => rfl | (intro h; rw [h]; rfl) | omega | ((try dsimp only [Ty.T]); (try simp only [castL_self]); (try simp only [Int.toNat_natCast]); (try simp only [Int.toNat_zero]); (try simp only [true_and]); omega) | (intros; (try dsimp only [Ty.T]); (try simp only [castL_self]); (try simp only [Int.toNat_natCast]); (try simp only [Int.toNat_zero]); (try simp only [true_and]); omega) | ((try dsimp only [Ty.T, Ty.size]); (try simp only [castL_self, Int.toNat_natCast, Int.toNat_zero, true_and, List.length_append, List.length_set, List.length_cons, List.length_nil, Nat.zero_add, Nat.mul_one]); omega) | ((try dsimp only [Ty.T, Ty.size]); (try simp only [castL_self, Int.toNat_natCast, Int.toNat_zero, Int.toNat_one, true_and, List.length_append, List.length_set, List.length_drop, List.length_take, List.length_replicate, List.length_cons, List.length_nil, Nat.zero_add, Nat.mul_one]); omega) | decide | (intros; simp_all; done) | (intros; simp_all; omega)) ?_
          refine hK16 _ _ ?_
          clear hK16
          refine AWPD.ret (And.intro (.inl rfl) ?_)
          -- result 2
          refine RetD.one ?_
          refine fitB rfl ?_
          simp only [Bool.cond_true_left, Bool.cond_false_right, Bool.cond_true_right, Bool.cond_false_left, Bool.or_eq_true, Bool.and_eq_true, decide_eq_true_eq, Bool.or_eq_false_iff, Bool.and_eq_false_iff, decide_eq_false_iff_not, Bool.not_eq_true', Bool.not_eq_false', Bool.not_true, Bool.not_false, castL_self, Int.toNat_zero, Int.toNat_one, List.getD_cons_zero, List.getD_cons_succ, Int.toNat_natCast, List.length_cons, List.length_nil]
          refine ⟨⟨⟨⟨⟨⟨by omega, by omega⟩, by omega⟩, by omega⟩, hb1⟩, hb2⟩, hb3⟩
end Go.Proofs.YtndoigkmdcgjfaaDoor
