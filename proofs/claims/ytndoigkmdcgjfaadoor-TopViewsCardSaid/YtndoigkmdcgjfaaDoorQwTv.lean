/-
  WALK of the law TopViews; and the law behind it.
-/
import Derived.Test.YtndoigkmdcgjfaaDoorQwUw
import Derived.Test.YtndoigkmdcgjfaaDoorQwBq
import Derived.Test.YtndoigkmdcgjfaaDoorQwPa
namespace Go.Proofs.YtndoigkmdcgjfaaDoor
open Go Go.Qw
set_option maxRecDepth 10000
set_option linter.unusedSimpArgs false
set_option linter.unusedVariables false
set_option linter.unusedSectionVars false


theorem pop_pow : ∀ {n x : Nat}, x < 2 ^ n → popN x ≤ n ∧ (popN x = n → ∀ i, i < n → x.testBit i = true)
  | 0, x, h => by
    have : x = 0 := by simpa using h
    subst this
    exact ⟨by simp [popN], fun _ i hi => by omega⟩
  | n + 1, x, h => by
    have h2 : x / 2 < 2 ^ n := by rw [Nat.pow_succ] at h; omega
    obtain ⟨i1, i2⟩ := pop_pow h2
    by_cases h0 : x = 0
    · subst h0
      exact ⟨by simp [popN], fun he => by simp [popN] at he⟩
    · rw [popN_eq (by omega)]
      refine ⟨by omega, fun he i hi => ?_⟩
      cases i with
      | zero => rw [Nat.testBit_zero]; exact decide_eq_true (by omega)
      | succ i => rw [Nat.testBit_succ]; exact i2 (by omega) i (by omega)
def reachedN (P : Int) (A : List Int) (N S : List (List Int)) : Int := if machE P A N S = 0 then ((popN (reachN N) : Nat) : Int) else 0
theorem tv_one : chkE 1 [0] [[1], [0]] [[0], [0]] [1] 0 = 0 ∧ viewsV 1 [0] [[1], [0]] [[0], [0]] [1] 0 = [0, 1] := by decide +kernel
section
variable {P : Int} {A : List Int} {N S : List (List Int)} {f : List Int} {part : Int}
/-- Where all states are reached, what is alike through others is so directly. -/
theorem clo_unw (L : LeastV A N f part (vF N A f part)) (hr : ∀ i, i < N.length → (reachN N).testBit i = true) {p s t : Nat} (hc : CloB P A N f p s t) : (p : Int) = part → vF N A f part s = vF N A f part t := by
  induction hc with
  | refl => exact fun _ => rfl
  | symm _ ih => exact fun h => (ih h).symm
  | trans _ _ ih1 ih2 => exact fun h => (ih1 h).trans (ih2 h)
  | one h1 h2 h3 h4 => exact fun h => L.quiet _ _ (hr _ h2) h3 (by rw [← h]; exact h4)
  | two h1 h2 h3 h4 _ _ ih1 ih2 => exact fun h => L.both _ _ (hr _ h2) (hr _ h3) (ih1 h) _ h4
theorem tv_same (g : GoodM P A N S) (he : polE P A N S f = 0) (hc : chkE P A N S f part = 0) (hr : reachedN P A N S = (N.length : Int)) {s t : Nat} (hs : s < N.length) (ht : t < N.length) (hm : machE P A N S = 0) (hy : ((bviewsV P A N S f).getD part.toNat []).getD s 0 = ((bviewsV P A N S f).getD part.toNat []).getD t 0) :
    (viewsV P A N S f part).getD s 0 = (viewsV P A N S f part).getD t 0 := by
  obtain ⟨_, hp1, hp2⟩ := chk_ok hc
  have hP := g.parts
  unfold reachedN at hr
  rw [if_pos hm] at hr
  have hall := (pop_pow g.reach_lt).2 (by omega)
  have h1 := (bviews_eq he (show part.toNat < P.toNat by omega) hs ht).1 hy
  have h2 := clo_unw (g.vF_least f part) hall h1 (by omega)
  rw [viewsV_get hc hs, viewsV_get hc ht, num_iff hs ht (hall s hs) (hall t ht)]
  exact h2
end

theorem tv_bif {a b r n : Int} {Y : Prop} [Decidable Y] (h : (bif bif bif bif decide (0 ≤ a) then decide (0 ≤ b) else false then decide Y else false then !(bif decide (0 ≤ a) then decide (a = b) else false) else false then decide (r = n) else false) = true) : 0 ≤ a ∧ 0 ≤ b ∧ Y ∧ (0 ≤ a → ¬a = b) ∧ r = n := by
  by_cases h1 : 0 ≤ a <;> by_cases h2 : 0 ≤ b <;> by_cases h3 : Y <;> by_cases h4 : a = b <;> by_cases h5 : r = n <;> simp_all

theorem treached_fn (P : Int) (A : List Int) (N S : List (List Int)) : LiftsD Tryd.prog 16 [.agg [.i P, .sl .int A, .sl (.sl .int) N, .sl (.sl .int) S]] (.i (reachedN P A N S)) := by
  refine LiftsD.of_body 14 [.tmp 2] Tryd.func16 rfl Tryd.ntmps16 (by kernel_rfl) rfl rfl fun w0 X0 => ?_
  refine AWPD.seq fun K1 hK1 => ?_
  -- region 0
  refine AWPD.keep [0] rfl ?_
  refine AWPD.region tabOK rfl ?_
  refine hK1 _ _ ?_
  clear hK1
  refine AWPD.seq fun K2 hK2 => ?_
  -- region 1
  refine AWPD.keep [1] rfl ?_
  refine AWPD.region tabOK rfl ?_
  repeat refine And.intro (by first | exact fun h => h | exact fun _ => rfl | (intro h; rw [h]; rfl) | omega | (intros; (try dsimp only [Ty.T, Ty.size]); (try simp only [castL_self, Int.toNat_natCast, Int.toNat_zero, Int.toNat_one, true_and, List.length_append, List.length_set, List.length_drop, List.length_take, List.length_replicate, List.length_cons, List.length_nil, Nat.zero_add, Nat.mul_one]); omega) | decide | (intros; simp_all; done) | (intros; simp_all; omega)) ?_
  refine Exists.intro _ (Exists.intro _ (And.intro (StepD.call (reached_fn _ _ _ _) rfl rfl rfl) (And.intro rfl (And.intro trivial ?_))))
  refine hK2 _ _ ?_
  clear hK2
  refine AWPD.seq fun K3 hK3 => ?_
  refine AWPD.seq fun K4 hK4 => ?_
  -- region 2
  refine AWPD.keep [3, 4] rfl ?_
  refine AWPD.region tabOK rfl ?_
  refine hK4 _ _ ?_
  clear hK4
  first | refine AWPD.condP rfl (fun h0 => ?_) (fun h0 => ?_) | refine AWPD.condN rfl (fun h0 => ?_) (fun h0 => ?_) | refine AWPD.condAP rfl (fun h0 => ?_) (fun h0 => ?_) | refine AWPD.condOP rfl (fun h0 => ?_) (fun h0 => ?_) | refine AWPD.condONN rfl (fun h0 => ?_) (fun h0 => ?_) | refine AWPD.condOPN rfl (fun h0 => ?_) (fun h0 => ?_) | refine AWPD.condA rfl (fun h0 => ?_) (fun h0 => ?_) | refine AWPD.condO rfl (fun h0 => ?_) (fun h0 => ?_) | refine AWPD.cond rfl (fun h0 => ?_) (fun h0 => ?_)
  · try dsimp only [Ty.T] at h0
    try simp only [castL_self] at h0
    try simp only [Int.toNat_natCast] at h0
    try simp only [Int.toNat_zero] at h0
    refine AWPD.seq fun K5 hK5 => ?_
    -- region 3
    refine AWPD.keep [] rfl ?_
    refine AWPD.region tabOK rfl ?_
    refine hK5 _ _ ?_
    clear hK5
    refine AWPD.ret (And.intro (.inl rfl) ?_)
    -- result 0
    refine RetD.one ?_
    exact fitI rfl (by unfold reachedN; rw [if_neg h0])
  · try dsimp only [Ty.T] at h0
    try simp only [castL_self] at h0
    try simp only [Int.toNat_natCast] at h0
    try simp only [Int.toNat_zero] at h0
    have hme : machE P A N S = 0 := by simpa using h0
    have g := mach_good hme
    have hri := g.reach_in
    have hrv : reachV P A N S = ((reachN N : Nat) : Int) := by unfold reachV; rw [if_pos hme]
    refine AWPD.skip ?_
    refine hK3 _ _ ?_
    clear hK3
    refine AWPD.seq fun K6 hK6 => ?_
    -- region 4
    rw [hrv]
    refine AWPD.keep [3] rfl ?_
    refine AWPD.region tabOK rfl ?_
    refine Exists.intro _ (Exists.intro _ (And.intro (StepD.call (many_fn _ (by omega)) rfl rfl rfl) (And.intro rfl (And.intro trivial ?_))))
    refine hK6 _ _ ?_
    clear hK6
    refine AWPD.ret (And.intro (.inl rfl) ?_)
    -- result 1
    refine RetD.one ?_
    exact fitI rfl (by unfold reachedN; rw [if_pos hme]; rfl)
theorem topViews_fn (P : Int) (A : List Int) (N S : List (List Int)) (f : List Int) (part : Int) : LiftsG Tryd.prog tabG 3 [.agg [.i P, .sl .int A, .sl (.sl .int) N, .sl (.sl .int) S], .sl .int f, .i part] (.b true) := by
  refine LiftsG.of_body 192 [.tmp 6] Tryd.func3 rfl Tryd.ntmps3 (by kernel_rfl) rfl rfl fun w0 X0 hG0 => ?_
  refine AWPD.seq fun K1 hK1 => ?_
  -- region 0
  refine AWPD.keep [0, 1, 2] rfl ?_
  refine AWPD.region tabOK rfl ?_
  refine hK1 _ _ ?_
  clear hK1
  refine AWPD.seq fun K2 hK2 => ?_
  -- region 1
  refine AWPD.keep [1, 2, 3] rfl ?_
  refine AWPD.region tabOK rfl ?_
  refine Exists.intro _ (Exists.intro _ (And.intro (StepD.callG tabG_stays rfl hG0 (views_fn _ _ _ _ _ _) rfl rfl rfl) (And.intro rfl (And.intro trivial ?_))))
  refine hK2 _ _ ?_
  clear hK2
  refine AWPD.seq fun K3 hK3 => ?_
  refine AWPD.seq fun K4 hK4 => ?_
  -- region 2
  refine AWPD.keep [1, 2, 3, 7, 8] rfl ?_
  refine AWPD.region tabOK rfl ?_
  repeat refine And.intro (by first | exact fun h => h | exact fun _ => rfl | (intro h; rw [h]; rfl) | omega | (intros; (try dsimp only [Ty.T, Ty.size]); (try simp only [castL_self, Int.toNat_natCast, Int.toNat_zero, Int.toNat_one, true_and, List.length_append, List.length_set, List.length_drop, List.length_take, List.length_replicate, List.length_cons, List.length_nil, Nat.zero_add, Nat.mul_one]); omega) | decide | (intros; simp_all; done) | (intros; simp_all; omega)) ?_
  refine Exists.intro _ (Exists.intro _ (And.intro (fun hg => StepD.call (ints_fn _ _ (by decide +kernel)) rfl rfl rfl) (And.intro (fun hf => rfl) (And.intro rfl (And.intro trivial ?_)))))
  repeat refine And.intro (by first | exact fun h => h | exact fun _ => rfl | (intro h; rw [h]; rfl) | omega | (intros; (try dsimp only [Ty.T, Ty.size]); (try simp only [castL_self, Int.toNat_natCast, Int.toNat_zero, Int.toNat_one, true_and, List.length_append, List.length_set, List.length_drop, List.length_take, List.length_replicate, List.length_cons, List.length_nil, Nat.zero_add, Nat.mul_one]); omega) | decide | (intros; simp_all; done) | (intros; simp_all; omega)) ?_
  refine hK4 _ _ ?_
  clear hK4
  first | refine AWPD.cond rfl (fun h0 => ?_) (fun h0 => ?_)
  · try dsimp only [Ty.T] at h0
    try simp only [castL_self] at h0
    try simp only [Int.toNat_natCast] at h0
    try simp only [Int.toNat_zero] at h0
    exact absurd h0 (by rw [tv_one.1, tv_one.2]; decide)
  · try dsimp only [Ty.T] at h0
    try simp only [castL_self] at h0
    try simp only [Int.toNat_natCast] at h0
    try simp only [Int.toNat_zero] at h0
    refine AWPD.skip ?_
    refine hK3 _ _ ?_
    clear hK3
    refine AWPD.seq fun K5 hK5 => ?_
    -- region 4
    refine AWPD.keep [1, 2, 3] rfl ?_
    refine AWPD.region tabOK rfl ?_
    repeat refine And.intro (by first | exact fun h => h | exact fun _ => rfl | (intro h; rw [h]; rfl) | omega | (intros; (try dsimp only [Ty.T, Ty.size]); (try simp only [castL_self, Int.toNat_natCast, Int.toNat_zero, Int.toNat_one, true_and, List.length_append, List.length_set, List.length_drop, List.length_take, List.length_replicate, List.length_cons, List.length_nil, Nat.zero_add, Nat.mul_one]); omega) | decide | (intros; simp_all; done) | (intros; simp_all; omega)) ?_
    refine Exists.intro _ (Exists.intro _ (And.intro (StepD.callG tabG_stays rfl hG0 (views_fn _ _ _ _ _ _) rfl rfl rfl) (And.intro rfl (And.intro trivial ?_))))
    refine hK5 _ _ ?_
    clear hK5
    refine AWPD.seq fun K6 hK6 => ?_
    -- region 5
    refine AWPD.keep [1, 2, 3, 9, 10] rfl ?_
    refine AWPD.region tabOK rfl ?_
    repeat refine And.intro (by first | exact fun h => h | exact fun _ => rfl | (intro h; rw [h]; rfl) | omega | (intros; (try dsimp only [Ty.T, Ty.size]); (try simp only [castL_self, Int.toNat_natCast, Int.toNat_zero, Int.toNat_one, true_and, List.length_append, List.length_set, List.length_drop, List.length_take, List.length_replicate, List.length_cons, List.length_nil, Nat.zero_add, Nat.mul_one]); omega) | decide | (intros; simp_all; done) | (intros; simp_all; omega)) ?_
    refine Exists.intro _ (Exists.intro _ (And.intro (StepD.call (bviews_fn _ _ _ _ _) rfl rfl rfl) (And.intro rfl (And.intro trivial ?_))))
    refine hK6 _ _ ?_
    clear hK6
    refine AWPD.seq fun K7 hK7 => ?_
    refine AWPD.seq fun K8 hK8 => ?_
    -- region 6
    refine AWPD.keep [2, 3, 9, 10, 11, 12] rfl ?_
    refine AWPD.region tabOK rfl ?_
    repeat refine And.intro (by first | exact fun h => h | exact fun _ => rfl | (intro h; rw [h]; rfl) | omega | (intros; (try dsimp only [Ty.T, Ty.size]); (try simp only [castL_self, Int.toNat_natCast, Int.toNat_zero, Int.toNat_one, true_and, List.length_append, List.length_set, List.length_drop, List.length_take, List.length_replicate, List.length_cons, List.length_nil, Nat.zero_add, Nat.mul_one]); omega) | decide | (intros; simp_all; done) | (intros; simp_all; omega)) ?_
    refine hK8 _ _ ?_
    clear hK8
    first | refine AWPD.cond rfl (fun h1 => ?_) (fun h1 => ?_)
    · try dsimp only [Ty.T] at h1
      try simp only [castL_self] at h1
      try simp only [Int.toNat_natCast] at h1
      try simp only [Int.toNat_zero] at h1
      try simp only [Bool.cond_true_left, Bool.cond_false_right, Bool.cond_true_right, Bool.cond_false_left, Bool.or_eq_true, Bool.and_eq_true, decide_eq_true_eq, Bool.or_eq_false_iff, Bool.and_eq_false_iff, decide_eq_false_iff_not, Bool.not_eq_true', Bool.not_eq_false', Bool.not_eq_eq_eq_not, Bool.not_true, Bool.not_false] at h1
      refine AWPD.seq fun K9 hK9 => ?_
      -- region 7
      refine AWPD.keep [] rfl ?_
      refine AWPD.region tabOK rfl ?_
      refine hK9 _ _ ?_
      clear hK9
      refine AWPD.ret (And.intro (.inl rfl) ?_)
      -- result 0
      refine RetD.one ?_
      exact fitB rfl rfl
    · try dsimp only [Ty.T] at h1
      try simp only [castL_self] at h1
      try simp only [Int.toNat_natCast] at h1
      try simp only [Int.toNat_zero] at h1
      try simp only [Bool.cond_true_left, Bool.cond_false_right, Bool.cond_true_right, Bool.cond_false_left, Bool.or_eq_true, Bool.and_eq_true, decide_eq_true_eq, Bool.or_eq_false_iff, Bool.and_eq_false_iff, decide_eq_false_iff_not, Bool.not_eq_true', Bool.not_eq_false', Bool.not_eq_eq_eq_not, Bool.not_true, Bool.not_false] at h1
      have hc : chkE P A N S f part = 0 := Decidable.not_not.1 h1.1
      have he : polE P A N S f = 0 := Decidable.not_not.1 h1.2
      obtain ⟨_, hp1, hp2⟩ := chk_ok hc
      obtain ⟨hme, gf⟩ := pol_ok he
      have g := mach_good hme
      have hP := g.parts
      have hN := g.few
      have hvl := viewsV_len hc
      have hbl := bviews_len he
      have hbg := bviews_get he (show part.toNat < P.toNat by omega)
      have hrl : ((bviewsV P A N S f).getD part.toNat []).length = N.length := by rw [hbg, numR_len]
      refine AWPD.skip ?_
      refine hK7 _ _ ?_
      clear hK7
      refine AWPD.seq fun K10 hK10 => ?_
      -- region 8
      refine AWPD.keep [2, 3, 9, 11] rfl ?_
      refine AWPD.region tabOK rfl ?_
      repeat refine And.intro (by first | exact fun h => h | exact fun _ => rfl | (intro h; rw [h]; rfl) | omega | (intros; (try dsimp only [Ty.T, Ty.size]); (try simp only [castL_self, Int.toNat_natCast, Int.toNat_zero, Int.toNat_one, true_and, List.length_append, List.length_set, List.length_drop, List.length_take, List.length_replicate, List.length_cons, List.length_nil, Nat.zero_add, Nat.mul_one]); omega) | decide | (intros; simp_all; done) | (intros; simp_all; omega)) ?_
      refine hK10 _ _ ?_
      clear hK10
      refine AWPD.seq fun K11 hK11 => ?_
      refine AWPD.seq fun K12 hK12 => ?_
      -- region 9
      refine AWPD.keep [2, 3, 9, 11, 13] rfl ?_
      refine AWPD.region tabOK rfl ?_
      repeat refine And.intro (by first | exact fun h => h | exact fun _ => rfl | (intro h; rw [h]; rfl) | omega | (intros; (try dsimp only [Ty.T, Ty.size]); (try simp only [castL_self, Int.toNat_natCast, Int.toNat_zero, Int.toNat_one, true_and, List.length_append, List.length_set, List.length_drop, List.length_take, List.length_replicate, List.length_cons, List.length_nil, Nat.zero_add, Nat.mul_one]); omega) | decide | (intros; simp_all; done) | (intros; simp_all; omega)) ?_
      refine hK12 _ _ ?_
      clear hK12
      first | refine AWPD.cond rfl (fun h2 => ?_) (fun h2 => ?_)
      · try dsimp only [Ty.T] at h2
        try simp only [castL_self] at h2
        try simp only [Int.toNat_natCast] at h2
        try simp only [Int.toNat_zero] at h2
        try simp only [Bool.cond_true_left, Bool.cond_false_right, Bool.cond_true_right, Bool.cond_false_left, Bool.or_eq_true, Bool.and_eq_true, decide_eq_true_eq, Bool.or_eq_false_iff, Bool.and_eq_false_iff, decide_eq_false_iff_not, Bool.not_eq_true', Bool.not_eq_false', Bool.not_eq_eq_eq_not, Bool.not_true, Bool.not_false] at h2
        exfalso
        omega
      · try dsimp only [Ty.T] at h2
        try simp only [castL_self] at h2
        try simp only [Int.toNat_natCast] at h2
        try simp only [Int.toNat_zero] at h2
        try simp only [Bool.cond_true_left, Bool.cond_false_right, Bool.cond_true_right, Bool.cond_false_left, Bool.or_eq_true, Bool.and_eq_true, decide_eq_true_eq, Bool.or_eq_false_iff, Bool.and_eq_false_iff, decide_eq_false_iff_not, Bool.not_eq_true', Bool.not_eq_false', Bool.not_eq_eq_eq_not, Bool.not_true, Bool.not_false] at h2
        refine AWPD.skip ?_
        refine hK11 _ _ ?_
        clear hK11
        refine AWPD.seq fun K13 hK13 => ?_
        refine AWPD.seq fun K14 hK14 => ?_
        -- region 11
        refine AWPD.keep [2, 3, 9, 11, 13] rfl ?_
        refine AWPD.region tabOK rfl ?_
        refine hK14 _ _ ?_
        clear hK14
        refine AWPD.block ?_
        -- LOOP 0 live [2, 3, 9, 11, 13, 14] changed [14]
        refine AWPD.loopK (σ := Nat) [2, 3, 9, 11, 13] (fun s base => (14, .i (s : Int)) :: base) (fun _ => []) (fun n s => n + s = N.length) (N.length) 0 [] rfl rfl (by omega) (by decide) trivial (by repeat' first | exact True.intro | exact rfl | exact ⟨rfl, rfl⟩ | refine And.intro ?_ ?_) fun n0 s hI0 => ?_
        have hn0 := hI0
        refine AWPD.seq fun K15 hK15 => ?_
        refine AWPD.seq fun K16 hK16 => ?_
        -- region 12
        refine AWPD.keep [2, 3, 9, 11, 13, 14] rfl ?_
        refine AWPD.region tabOK rfl ?_
        refine hK16 _ _ ?_
        clear hK16
        first | refine AWPD.condP rfl (fun h3 => ?_) (fun h3 => ?_) | refine AWPD.condN rfl (fun h3 => ?_) (fun h3 => ?_) | refine AWPD.condAP rfl (fun h3 => ?_) (fun h3 => ?_) | refine AWPD.condOP rfl (fun h3 => ?_) (fun h3 => ?_) | refine AWPD.condONN rfl (fun h3 => ?_) (fun h3 => ?_) | refine AWPD.condOPN rfl (fun h3 => ?_) (fun h3 => ?_) | refine AWPD.condA rfl (fun h3 => ?_) (fun h3 => ?_) | refine AWPD.condO rfl (fun h3 => ?_) (fun h3 => ?_) | refine AWPD.cond rfl (fun h3 => ?_) (fun h3 => ?_)
        · try dsimp only [Ty.T] at h3
          try simp only [castL_self] at h3
          try simp only [Int.toNat_natCast] at h3
          try simp only [Int.toNat_zero] at h3
          refine AWPD.skip ?_
          refine hK15 _ _ ?_
          clear hK15
          refine AWPD.seq fun K17 hK17 => ?_
          refine AWPD.block ?_
          refine AWPD.seq fun K18 hK18 => ?_
          -- region 14
          refine AWPD.keep [2, 3, 9, 11, 13, 14] rfl ?_
          refine AWPD.region tabOK rfl ?_
          refine hK18 _ _ ?_
          clear hK18
          refine AWPD.block ?_
          -- LOOP 1 live [2, 3, 9, 11, 13, 14, 15] changed [15]
          refine AWPD.loopK (σ := Nat) [2, 3, 9, 11, 13, 14] (fun t base => (15, .i (t : Int)) :: base) (fun _ => []) (fun n t => n + t = s) (s) 0 [] rfl rfl (by omega) (by decide) trivial (by repeat' first | exact True.intro | exact rfl | exact ⟨rfl, rfl⟩ | refine And.intro ?_ ?_) fun n1 t hI1 => ?_
          have hn1 := hI1
          refine AWPD.seq fun K19 hK19 => ?_
          refine AWPD.seq fun K20 hK20 => ?_
          -- region 15
          refine AWPD.keep [2, 3, 9, 11, 13, 14, 15] rfl ?_
          refine AWPD.region tabOK rfl ?_
          refine hK20 _ _ ?_
          clear hK20
          first | refine AWPD.condP rfl (fun h4 => ?_) (fun h4 => ?_) | refine AWPD.condN rfl (fun h4 => ?_) (fun h4 => ?_) | refine AWPD.condAP rfl (fun h4 => ?_) (fun h4 => ?_) | refine AWPD.condOP rfl (fun h4 => ?_) (fun h4 => ?_) | refine AWPD.condONN rfl (fun h4 => ?_) (fun h4 => ?_) | refine AWPD.condOPN rfl (fun h4 => ?_) (fun h4 => ?_) | refine AWPD.condA rfl (fun h4 => ?_) (fun h4 => ?_) | refine AWPD.condO rfl (fun h4 => ?_) (fun h4 => ?_) | refine AWPD.cond rfl (fun h4 => ?_) (fun h4 => ?_)
          · try dsimp only [Ty.T] at h4
            try simp only [castL_self] at h4
            try simp only [Int.toNat_natCast] at h4
            try simp only [Int.toNat_zero] at h4
            refine AWPD.skip ?_
            refine hK19 _ _ ?_
            clear hK19
            refine AWPD.seq fun K21 hK21 => ?_
            refine AWPD.block ?_
            refine AWPD.seq fun K22 hK22 => ?_
            -- region 17
            refine AWPD.keep [2, 3, 9, 11, 13, 14, 15] rfl ?_
            refine AWPD.draw tabOK [] rfl (by kernel_rfl) ?_
            repeat refine And.intro (by first | exact fun h => h | exact fun _ => rfl | (intro h; rw [h]; rfl) | omega | (intros; (try dsimp only [Ty.T, Ty.size]); (try simp only [castL_self, Int.toNat_natCast, Int.toNat_zero, Int.toNat_one, true_and, List.length_append, List.length_set, List.length_drop, List.length_take, List.length_replicate, List.length_cons, List.length_nil, Nat.zero_add, Nat.mul_one]); omega) | decide | (intros; simp_all; done) | (intros; simp_all; omega)) ?_
            refine hK22 _ _ ?_
            clear hK22
            refine AWPD.seq fun K23 hK23 => ?_
            -- region 18
            refine AWPD.keep [2, 3, 9, 11, 13, 14, 15, 16] rfl ?_
            refine AWPD.draw tabOK [] rfl (by kernel_rfl) ?_
            repeat refine And.intro (by first | exact fun h => h | exact fun _ => rfl | (intro h; rw [h]; rfl) | omega | (intros; (try dsimp only [Ty.T, Ty.size]); (try simp only [castL_self, Int.toNat_natCast, Int.toNat_zero, Int.toNat_one, true_and, List.length_append, List.length_set, List.length_drop, List.length_take, List.length_replicate, List.length_cons, List.length_nil, Nat.zero_add, Nat.mul_one]); omega) | decide | (intros; simp_all; done) | (intros; simp_all; omega)) ?_
            refine hK23 _ _ ?_
            clear hK23
            refine AWPD.seq fun K24 hK24 => ?_
            -- region 19
            refine AWPD.keep [2, 3, 9, 11, 13, 14, 15, 16, 17] rfl ?_
            refine AWPD.region tabOK rfl ?_
            repeat refine And.intro (by first | exact fun h => h | exact fun _ => rfl | (intro h; rw [h]; rfl) | omega | (intros; (try dsimp only [Ty.T, Ty.size]); (try simp only [castL_self, Int.toNat_natCast, Int.toNat_zero, Int.toNat_one, true_and, List.length_append, List.length_set, List.length_drop, List.length_take, List.length_replicate, List.length_cons, List.length_nil, Nat.zero_add, Nat.mul_one]); omega) | decide | (intros; simp_all; done) | (intros; simp_all; omega)) ?_
            refine Exists.intro _ (Exists.intro _ (And.intro (fun hg => StepD.call (treached_fn _ _ _ _) rfl rfl rfl) (And.intro (fun hf => rfl) (And.intro rfl (And.intro trivial ?_)))))
            repeat refine And.intro (by first | exact fun h => h | exact fun _ => rfl | (intro h; rw [h]; rfl) | omega | (intros; (try dsimp only [Ty.T, Ty.size]); (try simp only [castL_self, Int.toNat_natCast, Int.toNat_zero, Int.toNat_one, true_and, List.length_append, List.length_set, List.length_drop, List.length_take, List.length_replicate, List.length_cons, List.length_nil, Nat.zero_add, Nat.mul_one]); omega) | decide | (intros; simp_all; done) | (intros; simp_all; omega)) ?_
            refine hK24 _ _ ?_
            clear hK24
            first | refine AWPD.cond rfl (fun h5 => ?_) (fun h5 => ?_)
            · try dsimp only [Ty.T] at h5
              try simp only [castL_self] at h5
              try simp only [Int.toNat_natCast] at h5
              try simp only [Int.toNat_zero] at h5
              exfalso
              obtain ⟨q0, q1, q2, q3, q4⟩ := tv_bif h5
              exact q3 q0 (tv_same g he hc q4 (by omega) (by omega) hme q2)
            · try dsimp only [Ty.T] at h5
              try simp only [castL_self] at h5
              try simp only [Int.toNat_natCast] at h5
              try simp only [Int.toNat_zero] at h5
              refine AWPD.skip ?_
              refine hK21 _ _ ?_
              clear hK21
              -- region 16
              refine AWPD.keep [2, 3, 9, 11, 13, 14, 15] rfl ?_
              refine AWPD.region tabOK rfl ?_
              repeat refine And.intro (by first | exact fun h => h | exact fun _ => rfl | (intro h; rw [h]; rfl) | omega | (intros; (try dsimp only [Ty.T, Ty.size]); (try simp only [castL_self, Int.toNat_natCast, Int.toNat_zero, Int.toNat_one, true_and, List.length_append, List.length_set, List.length_drop, List.length_take, List.length_replicate, List.length_cons, List.length_nil, Nat.zero_add, Nat.mul_one]); omega) | decide | (intros; simp_all; done) | (intros; simp_all; omega)) ?_
              refine ⟨n1 - 1, t + 1, [], by omega, by omega, ⟨by decide, rfl⟩, trivial, ?_⟩
              repeat' first | exact True.intro | exact rfl | exact ⟨rfl, rfl⟩ | refine And.intro ?_ ?_
          · try dsimp only [Ty.T] at h4
            try simp only [castL_self] at h4
            try simp only [Int.toNat_natCast] at h4
            try simp only [Int.toNat_zero] at h4
            refine AWPD.exit ?_
            refine hK17 _ _ ?_
            clear hK17
            -- region 13
            refine AWPD.keep [2, 3, 9, 11, 13, 14] rfl ?_
            refine AWPD.region tabOK rfl ?_
            repeat refine And.intro (by first | exact fun h => h | exact fun _ => rfl | (intro h; rw [h]; rfl) | omega | (intros; (try dsimp only [Ty.T, Ty.size]); (try simp only [castL_self, Int.toNat_natCast, Int.toNat_zero, Int.toNat_one, true_and, List.length_append, List.length_set, List.length_drop, List.length_take, List.length_replicate, List.length_cons, List.length_nil, Nat.zero_add, Nat.mul_one]); omega) | decide | (intros; simp_all; done) | (intros; simp_all; omega)) ?_
            refine ⟨n0 - 1, s + 1, [], by omega, by omega, ⟨by decide, rfl⟩, trivial, ?_⟩
            repeat' first | exact True.intro | exact rfl | exact ⟨rfl, rfl⟩ | refine And.intro ?_ ?_
        · try dsimp only [Ty.T] at h3
          try simp only [castL_self] at h3
          try simp only [Int.toNat_natCast] at h3
          try simp only [Int.toNat_zero] at h3
          refine AWPD.exit ?_
          refine hK13 _ _ ?_
          clear hK13
          refine AWPD.seq fun K25 hK25 => ?_
          refine AWPD.seq fun K26 hK26 => ?_
          -- region 21
          refine AWPD.keep [2, 3, 9, 11, 13] rfl ?_
          refine AWPD.region tabOK rfl ?_
          repeat refine And.intro (by first | exact fun h => h | exact fun _ => rfl | (intro h; rw [h]; rfl) | omega | (intros; (try dsimp only [Ty.T, Ty.size]); (try simp only [castL_self, Int.toNat_natCast, Int.toNat_zero, Int.toNat_one, true_and, List.length_append, List.length_set, List.length_drop, List.length_take, List.length_replicate, List.length_cons, List.length_nil, Nat.zero_add, Nat.mul_one]); omega) | decide | (intros; simp_all; done) | (intros; simp_all; omega)) ?_
          refine Exists.intro _ (Exists.intro _ (And.intro (fun hg => StepD.call (treached_fn _ _ _ _) rfl rfl rfl) (And.intro (fun hf => rfl) (And.intro rfl (And.intro trivial ?_)))))
          repeat refine And.intro (by first | exact fun h => h | exact fun _ => rfl | (intro h; rw [h]; rfl) | omega | (intros; (try dsimp only [Ty.T, Ty.size]); (try simp only [castL_self, Int.toNat_natCast, Int.toNat_zero, Int.toNat_one, true_and, List.length_append, List.length_set, List.length_drop, List.length_take, List.length_replicate, List.length_cons, List.length_nil, Nat.zero_add, Nat.mul_one]); omega) | decide | (intros; simp_all; done) | (intros; simp_all; omega)) ?_
          refine hK26 _ _ ?_
          clear hK26
          first | refine AWPD.cond rfl (fun h6 => ?_) (fun h6 => ?_)
          · try dsimp only [Ty.T] at h6
            try simp only [castL_self] at h6
            try simp only [Int.toNat_natCast] at h6
            try simp only [Int.toNat_zero] at h6
            try simp only [Bool.cond_true_left, Bool.cond_false_right, Bool.cond_true_right, Bool.cond_false_left, Bool.or_eq_true, Bool.and_eq_true, decide_eq_true_eq, Bool.or_eq_false_iff, Bool.and_eq_false_iff, decide_eq_false_iff_not, Bool.not_eq_true', Bool.not_eq_false', Bool.not_eq_eq_eq_not, Bool.not_true, Bool.not_false] at h6
            refine AWPD.seq fun K27 hK27 => ?_
            -- region 22
            refine AWPD.keep [] rfl ?_
            refine AWPD.region tabOK rfl ?_
            refine hK27 _ _ ?_
            clear hK27
            refine AWPD.ret (And.intro (.inl rfl) ?_)
            -- result 1
            refine RetD.one ?_
            exact fitB rfl rfl
          · try dsimp only [Ty.T] at h6
            try simp only [castL_self] at h6
            try simp only [Int.toNat_natCast] at h6
            try simp only [Int.toNat_zero] at h6
            try simp only [Bool.cond_true_left, Bool.cond_false_right, Bool.cond_true_right, Bool.cond_false_left, Bool.or_eq_true, Bool.and_eq_true, decide_eq_true_eq, Bool.or_eq_false_iff, Bool.and_eq_false_iff, decide_eq_false_iff_not, Bool.not_eq_true', Bool.not_eq_false', Bool.not_eq_eq_eq_not, Bool.not_true, Bool.not_false] at h6
            refine AWPD.skip ?_
            refine hK25 _ _ ?_
            clear hK25
            refine AWPD.seq fun K28 hK28 => ?_
            -- region 23
            refine AWPD.keep [2, 9, 11] rfl ?_
            refine AWPD.region tabOK rfl ?_
            refine Exists.intro _ (Exists.intro _ (And.intro (StepD.call (of_fn _) rfl rfl rfl) (And.intro rfl (And.intro trivial ?_))))
            refine hK28 _ _ ?_
            clear hK28
            refine AWPD.seq fun K29 hK29 => ?_
            -- region 24
            refine AWPD.keep [2, 11, 18, 19] rfl ?_
            refine AWPD.region tabOK rfl ?_
            repeat refine And.intro (by first | exact fun h => h | exact fun _ => rfl | (intro h; rw [h]; rfl) | omega | (intros; (try dsimp only [Ty.T, Ty.size]); (try simp only [castL_self, Int.toNat_natCast, Int.toNat_zero, Int.toNat_one, true_and, List.length_append, List.length_set, List.length_drop, List.length_take, List.length_replicate, List.length_cons, List.length_nil, Nat.zero_add, Nat.mul_one]); omega) | decide | (intros; simp_all; done) | (intros; simp_all; omega)) ?_
            refine Exists.intro _ (Exists.intro _ (And.intro (StepD.call (of_fn _) rfl rfl rfl) (And.intro rfl (And.intro trivial ?_))))
            refine hK29 _ _ ?_
            clear hK29
            refine AWPD.seq fun K30 hK30 => ?_
            -- region 25
            refine AWPD.keep [18, 19, 20, 21] rfl ?_
            refine AWPD.region tabOK rfl ?_
            refine Exists.intro _ (Exists.intro _ (And.intro (StepD.call (finer_fn _ _) rfl rfl rfl) (And.intro rfl (And.intro trivial ?_))))
            refine hK30 _ _ ?_
            clear hK30
            refine AWPD.seq fun K31 hK31 => ?_
            -- region 26
            refine AWPD.keep [19, 21, 22, 23] rfl ?_
            refine AWPD.region tabOK rfl ?_
            repeat refine And.intro (by first | exact fun h => h | exact fun _ => rfl | (intro h; rw [h]; rfl) | omega | (intros; (try dsimp only [Ty.T, Ty.size]); (try simp only [castL_self, Int.toNat_natCast, Int.toNat_zero, Int.toNat_one, true_and, List.length_append, List.length_set, List.length_drop, List.length_take, List.length_replicate, List.length_cons, List.length_nil, Nat.zero_add, Nat.mul_one]); omega) | decide | (intros; simp_all; done) | (intros; simp_all; omega)) ?_
            refine hK31 _ _ ?_
            clear hK31
            refine AWPD.ret (And.intro (.inl rfl) ?_)
            -- result 2
            refine RetD.one ?_
            refine fitB rfl ?_
            have h12 : N.length ≤ 12 := by omega
            have hr : reachedN P A N S = (N.length : Int) := by omega
            have a1 := ofL_parts (l := viewsV P A N S f part) (by omega)
            have b1 := ofL_parts (l := (bviewsV P A N S f).getD part.toNat []) (by omega)
            have e1 : ofE (viewsV P A N S f part) = 0 := by unfold ofE; rw [if_neg (by omega)]
            have e2 : ofE ((bviewsV P A N S f).getD part.toNat []) = 0 := by unfold ofE; rw [if_neg (by omega)]
            have l1 := a1.len
            have l2 := b1.len
            have e3 := twoE_zero b1.ok a1.ok (by omega)
            have e4 : finerV (ofL ((bviewsV P A N S f).getD part.toNat [])) (ofL (viewsV P A N S f part)) = true := (finerV_all e3).2 fun i j hi hj hh => by
              rw [l2] at hi hj
              refine (a1.eqv i j (by omega) (by omega)).2 (tv_same g he hc hr (by omega) (by omega) hme ?_)
              exact (b1.eqv i j hi hj).1 hh
            show (bif bif bif decide (ofE (viewsV P A N S f part) = 0) then decide (ofE ((bviewsV P A N S f).getD part.toNat []) = 0) else false then decide (twoE (ofL ((bviewsV P A N S f).getD part.toNat [])) (ofL (viewsV P A N S f part)) = 0) else false then finerV (ofL ((bviewsV P A N S f).getD part.toNat [])) (ofL (viewsV P A N S f part)) else false) = true
            rw [e1, e2, e3, e4]
            rfl
end Go.Proofs.YtndoigkmdcgjfaaDoor
