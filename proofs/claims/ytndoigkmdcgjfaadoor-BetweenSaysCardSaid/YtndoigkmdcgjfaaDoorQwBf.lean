/-
  WALKS of what is purged, and of the law that the plain purge is the purge through others where all go directly. Laid by a program of mine out of the operations, with the loops and results told by hand.
-/
import Derived.Test.YtndoigkmdcgjfaaDoorQwBe
namespace Go.Proofs.YtndoigkmdcgjfaaDoor
open Go Go.Qw
set_option maxRecDepth 10000
set_option linter.unusedSimpArgs false
set_option linter.unusedVariables false
set_option linter.unusedSectionVars false


theorem and_ne {a b : Nat} : a &&& b ≠ 0 ↔ ∃ q, a.testBit q = true ∧ b.testBit q = true := by
  constructor
  · intro h
    refine Classical.byContradiction fun hn => h (Nat.eq_of_testBit_eq fun i => ?_)
    rw [Nat.testBit_and, Nat.zero_testBit]
    cases h1 : a.testBit i with
    | false => rfl
    | true =>
      cases h2 : b.testBit i with
      | false => rfl
      | true => exact absurd ⟨i, h1, h2⟩ hn
  · intro ⟨q, h1, h2⟩ h
    have := congrArg (·.testBit q) h
    simp only [Nat.testBit_and, h1, h2, Nat.zero_testBit] at this
    cases this
/-- Who acts on one who acts on a third may act on the third. -/
def transP (f : List Int) : Prop := ∀ x y, x < f.length → y < f.length → (f.getD x 0).toNat.testBit y = true → subN (f.getD y 0).toNat (f.getD x 0).toNat = true
theorem src_inv {P : Int} {A : List Int} {N S : List (List Int)} {f : List Int} {part : Int} {w : List Int} (g : GoodW P A N S f part w) : ∀ k, k ≤ w.length →
    (srcS A f part w k).1.testBit part.toNat = true ∧ (purgeL A f part (w.drop (w.length - k))).Sublist (srcS A f part w k).2.reverse ∧
    (transP f → (∀ q, (srcS A f part w k).1.testBit q = true → q < f.length ∧ (f.getD q 0).toNat.testBit part.toNat = true) ∧ purgeL A f part (w.drop (w.length - k)) = (srcS A f part w k).2.reverse)
  | 0, _ => by
    have hl := g.f.len
    have hp := g.part
    refine ⟨by rw [srcS]; simp, by rw [Nat.sub_zero, List.drop_length]; exact List.Sublist.refl _, fun _ => ⟨fun q hq => ?_, by rw [Nat.sub_zero, List.drop_length]; rfl⟩⟩
    rw [srcS] at hq
    simp only [Nat.testBit_two_pow, decide_eq_true_eq] at hq
    subst hq
    exact ⟨by omega, g.f.self _ (by omega)⟩
  | k + 1, h => by
    obtain ⟨h1, h2, h3⟩ := src_inv g k (by omega)
    have ha := g.act (i := w.length - 1 - k) (by omega)
    have hd : w.drop (w.length - (k + 1)) = w.getD (w.length - 1 - k) 0 :: w.drop (w.length - k) := by
      rw [show w.length - (k + 1) = w.length - 1 - k by omega, drop_cons (by omega) 0, show w.length - 1 - k + 1 = w.length - k by omega]
    rw [hd]
    unfold purgeL at h2 h3 ⊢
    rw [List.filter_cons]
    by_cases hc : (f.getD (A.getD (w.getD (w.length - 1 - k) 0).toNat 0).toNat 0).toNat &&& (srcS A f part w k).1 ≠ 0
    · rw [srcS_yes hc]
      simp only [List.reverse_append, List.reverse_cons, List.reverse_nil, List.nil_append, List.cons_append]
      refine ⟨by rw [Nat.testBit_or, h1]; rfl, ?_, fun ht => ?_⟩
      · split
        · exact h2.cons_cons _
        · exact h2.cons _
      · obtain ⟨h4, h5⟩ := h3 ht
        obtain ⟨q, q1, q2⟩ := and_ne.1 hc
        obtain ⟨q3, q4⟩ := h4 q q2
        have q5 := subN_iff.1 (ht _ q (by omega) q3 q1) _ q4
        refine ⟨fun r hr => ?_, ?_⟩
        · rw [Nat.testBit_or, Bool.or_eq_true, Nat.testBit_two_pow, decide_eq_true_eq] at hr
          rcases hr with hr | hr
          · exact h4 r hr
          · subst hr
            exact ⟨by omega, q5⟩
        · rw [if_pos (show actOn A f part (w.getD (w.length - 1 - k) 0) = true from q5), h5]
    · rw [srcS_no hc, if_neg (show ¬actOn A f part (w.getD (w.length - 1 - k) 0) = true from fun hh => hc (and_ne.2 ⟨part.toNat, hh, h1⟩))]
      exact ⟨h1, h2, h3⟩
theorem purge_sub {P : Int} {A : List Int} {N S : List (List Int)} {f : List Int} {part : Int} {w : List Int} (g : GoodW P A N S f part w) : (purgeL A f part w).Sublist (betL A f part w) := by
  have := (src_inv g w.length (Nat.le_refl _)).2.1
  rwa [Nat.sub_self, List.drop_zero] at this
theorem purge_eq {P : Int} {A : List Int} {N S : List (List Int)} {f : List Int} {part : Int} {w : List Int} (g : GoodW P A N S f part w) (ht : transP f) : betL A f part w = purgeL A f part w := by
  have := ((src_inv g w.length (Nat.le_refl _)).2.2 ht).2
  rw [Nat.sub_self, List.drop_zero] at this
  exact this.symm
theorem betL_len (A f : List Int) (part : Int) (w : List Int) : (betL A f part w).length ≤ w.length := by
  rw [betL, List.length_reverse]; exact srcS_len A f part w w.length
theorem purgeL_len (A f : List Int) (part : Int) (w : List Int) : (purgeL A f part w).length ≤ w.length := List.length_filter_le _ _
theorem sub_ne {a b : Int} {t l : List Int} (h : (a :: t).Sublist (b :: l)) (hne : ¬b = a) : (a :: t).Sublist l := by
  cases h with
  | cons _ h => exact h
  | cons_cons _ h => exact absurd rfl hne
/-- How much of a list has been met, one by one. -/
def grd (l t : List Int) : Nat → Nat
  | 0 => 0
  | i + 1 => if l.getD i 0 = t.getD (grd l t i) 0 then grd l t i + 1 else grd l t i
theorem grd_inv {l t : List Int} (h : t.Sublist l) : ∀ i, i ≤ l.length → (∀ q, q < i → grd l t q < t.length) → (t.drop (grd l t i)).Sublist (l.drop i) ∧ grd l t i ≤ i
  | 0, _, _ => ⟨h, Nat.le_refl _⟩
  | i + 1, hi, hq => by
    obtain ⟨h1, h2⟩ := grd_inv h i (by omega) fun q hh => hq q (by omega)
    have hg := hq i (by omega)
    rw [drop_cons hg 0, drop_cons (show i < l.length by omega) 0] at h1
    rw [grd]
    by_cases hc : l.getD i 0 = t.getD (grd l t i) 0
    · rw [if_pos hc]
      rw [hc] at h1
      exact ⟨h1.of_cons_cons, by omega⟩
    · rw [if_neg hc]
      refine ⟨?_, by omega⟩
      rw [drop_cons hg 0]
      exact sub_ne h1 hc
theorem grd_end {l t : List Int} (h : t.Sublist l) {i : Nat} (hi : i ≤ l.length) (hq : ∀ q, q < i → grd l t q < t.length) (he : ¬(i < l.length ∧ grd l t i < t.length)) (hle : grd l t i ≤ t.length) : grd l t i = t.length := by
  have h1 := (grd_inv h i hi hq).1
  by_cases h2 : i < l.length
  · omega
  · rw [List.drop_eq_nil_of_le (by omega : l.length ≤ i)] at h1
    have := congrArg List.length (List.sublist_nil.1 h1)
    simp only [List.length_drop, List.length_nil] at this
    omega

theorem purge_fn (P : Int) (A : List Int) (N S : List (List Int)) (f : List Int) (part : Int) (w : List Int) : LiftsD Tryd.prog 23 [.agg [.i P, .sl .int A, .sl (.sl .int) N, .sl (.sl .int) S], .sl .int f, .i part, .sl .int w] (.tup [.sl .int (purgeV P A N S f part w), .er 81 (bothE P A N S f part w)]) := by
  refine LiftsD.of_body 50 [.tmp 8, .tmp 9] Tryd.func23 rfl Tryd.ntmps23 (by kernel_rfl) rfl rfl fun w0 X0 => ?_
  refine AWPD.seq fun K1 hK1 => ?_
  -- region 0
  refine AWPD.keep [0, 1, 2, 3] rfl ?_
  refine AWPD.region tabOK rfl ?_
  refine hK1 _ _ ?_
  clear hK1
  refine AWPD.seq fun K2 hK2 => ?_
  refine AWPD.seq fun K3 hK3 => ?_
  -- region 1
  refine AWPD.keep [1, 2, 3, 4] rfl ?_
  refine AWPD.region tabOK rfl ?_
  repeat refine And.intro (by first | exact fun h => h | exact fun _ => rfl | (intro h; rw [h]; rfl) | omega | (intros; (try dsimp only [Ty.T, Ty.size]); (try simp only [castL_self, Int.toNat_natCast, Int.toNat_zero, Int.toNat_one, true_and, List.length_append, List.length_set, List.length_drop, List.length_take, List.length_replicate, List.length_cons, List.length_nil, Nat.zero_add, Nat.mul_one]); omega) | decide | (intros; simp_all; done) | (intros; simp_all; omega)) ?_
  refine Exists.intro _ (Exists.intro _ (And.intro (StepD.call (pcheck_fn _ _ _ _ _ _) rfl rfl rfl) (And.intro rfl (And.intro trivial ?_))))
  refine hK3 _ _ ?_
  clear hK3
  refine AWPD.seq fun K4 hK4 => ?_
  -- region 2
  refine AWPD.keep [1, 2, 3, 4, 10] rfl ?_
  refine AWPD.region tabOK rfl ?_
  refine hK4 _ _ ?_
  clear hK4
  first | refine AWPD.condP rfl (fun h0 => ?_) (fun h0 => ?_) | refine AWPD.condN rfl (fun h0 => ?_) (fun h0 => ?_) | refine AWPD.condAP rfl (fun h0 => ?_) (fun h0 => ?_) | refine AWPD.condOP rfl (fun h0 => ?_) (fun h0 => ?_) | refine AWPD.condONN rfl (fun h0 => ?_) (fun h0 => ?_) | refine AWPD.condOPN rfl (fun h0 => ?_) (fun h0 => ?_) | refine AWPD.condA rfl (fun h0 => ?_) (fun h0 => ?_) | refine AWPD.condO rfl (fun h0 => ?_) (fun h0 => ?_) | refine AWPD.cond rfl (fun h0 => ?_) (fun h0 => ?_)
  · try dsimp only [Ty.T] at h0
    try simp only [castL_self] at h0
    try simp only [Int.toNat_natCast] at h0
    try simp only [Int.toNat_zero] at h0
    refine AWPD.seq fun K5 hK5 => ?_
    -- region 3
    refine AWPD.keep [10] rfl ?_
    refine AWPD.region tabOK rfl ?_
    refine hK5 _ _ ?_
    clear hK5
    refine AWPD.ret (And.intro (.inl rfl) ?_)
    -- result 0
    have hb : bothE P A N S f part w = chkE P A N S f part := by unfold bothE; rw [if_pos (by simpa using h0)]
    exact ⟨fitN rfl (by unfold purgeV; rw [if_neg (by rw [hb]; simpa using h0)]) (by decide), fitE rfl hb.symm⟩
  · try dsimp only [Ty.T] at h0
    try simp only [castL_self] at h0
    try simp only [Int.toNat_natCast] at h0
    try simp only [Int.toNat_zero] at h0
    have hc : chkE P A N S f part = 0 := by simpa using h0
    refine AWPD.skip ?_
    refine hK2 _ _ ?_
    clear hK2
    refine AWPD.seq fun K6 hK6 => ?_
    refine AWPD.seq fun K7 hK7 => ?_
    -- region 4
    refine AWPD.keep [1, 2, 3, 4] rfl ?_
    refine AWPD.region tabOK rfl ?_
    repeat refine And.intro (by first | exact fun h => h | exact fun _ => rfl | (intro h; rw [h]; rfl) | omega | (intros; (try dsimp only [Ty.T, Ty.size]); (try simp only [castL_self, Int.toNat_natCast, Int.toNat_zero, Int.toNat_one, true_and, List.length_append, List.length_set, List.length_drop, List.length_take, List.length_replicate, List.length_cons, List.length_nil, Nat.zero_add, Nat.mul_one]); omega) | decide | (intros; simp_all; done) | (intros; simp_all; omega)) ?_
    refine Exists.intro _ (Exists.intro _ (And.intro (StepD.call (word_fn _ _ _ _ _) rfl rfl rfl) (And.intro rfl (And.intro trivial ?_))))
    refine hK7 _ _ ?_
    clear hK7
    refine AWPD.seq fun K8 hK8 => ?_
    -- region 5
    refine AWPD.keep [1, 2, 3, 4, 11] rfl ?_
    refine AWPD.region tabOK rfl ?_
    refine hK8 _ _ ?_
    clear hK8
    first | refine AWPD.condP rfl (fun h1 => ?_) (fun h1 => ?_) | refine AWPD.condN rfl (fun h1 => ?_) (fun h1 => ?_) | refine AWPD.condAP rfl (fun h1 => ?_) (fun h1 => ?_) | refine AWPD.condOP rfl (fun h1 => ?_) (fun h1 => ?_) | refine AWPD.condONN rfl (fun h1 => ?_) (fun h1 => ?_) | refine AWPD.condOPN rfl (fun h1 => ?_) (fun h1 => ?_) | refine AWPD.condA rfl (fun h1 => ?_) (fun h1 => ?_) | refine AWPD.condO rfl (fun h1 => ?_) (fun h1 => ?_) | refine AWPD.cond rfl (fun h1 => ?_) (fun h1 => ?_)
    · try dsimp only [Ty.T] at h1
      try simp only [castL_self] at h1
      try simp only [Int.toNat_natCast] at h1
      try simp only [Int.toNat_zero] at h1
      refine AWPD.seq fun K9 hK9 => ?_
      -- region 6
      refine AWPD.keep [11] rfl ?_
      refine AWPD.region tabOK rfl ?_
      refine hK9 _ _ ?_
      clear hK9
      refine AWPD.ret (And.intro (.inl rfl) ?_)
      -- result 1
      have hb : bothE P A N S f part w = wordE P A N S w := by unfold bothE; rw [if_neg (fun h => h hc)]
      exact ⟨fitN rfl (by unfold purgeV; rw [if_neg (by rw [hb]; simpa using h1)]) (by decide), fitE rfl hb.symm⟩
    · try dsimp only [Ty.T] at h1
      try simp only [castL_self] at h1
      try simp only [Int.toNat_natCast] at h1
      try simp only [Int.toNat_zero] at h1
      have hw : wordE P A N S w = 0 := by simpa using h1
      have hb : bothE P A N S f part w = 0 := by unfold bothE; rw [if_neg (fun h => h hc), hw]
      have g := both_ok hb
      have gp := g.part
      have gP := g.m.parts
      have gw := g.few
      refine AWPD.skip ?_
      refine hK6 _ _ ?_
      clear hK6
      refine AWPD.seq fun K10 hK10 => ?_
      -- region 7
      refine AWPD.keep [1, 2, 3, 4] rfl ?_
      refine AWPD.region tabOK rfl ?_
      refine hK10 _ _ ?_
      clear hK10
      refine AWPD.seq fun K11 hK11 => ?_
      refine AWPD.seq fun K12 hK12 => ?_
      -- region 8
      refine AWPD.keep [1, 2, 3, 4, 12] rfl ?_
      refine AWPD.region tabOK rfl ?_
      refine hK12 _ _ ?_
      clear hK12
      refine AWPD.block ?_
      -- LOOP 0 live [1, 2, 4, 12, 28, 29, 30] changed [12, 30]
      refine AWPD.nilRow 12 3 .int rfl (by decide) ?_
      refine AWPD.loopK (σ := Nat) [1, 2, 4, 28, 29] (fun i base => (30, .i (i : Int)) :: (12, .ob 0) :: base) (fun i => [.row 3 .int (purgeL A f part (w.take i))]) (fun n i => n + i = w.length) (w.length) 0 [0] rfl rfl (by omega) (by decide) ⟨⟨rfl, rfl, rfl⟩, trivial⟩ (by repeat' first | exact True.intro | exact rfl | exact ⟨rfl, rfl⟩ | refine And.intro ?_ ?_) fun n0 i hI0 => ?_
      have hn0 := hI0
      have hpl := purgeL_len A f part (w.take i)
      rw [List.length_take] at hpl
      refine AWPD.seq fun K13 hK13 => ?_
      -- region 9
      refine AWPD.keep [1, 2, 4, 12, 28, 29, 30] rfl ?_
      refine AWPD.region tabOK rfl ?_
      refine hK13 _ _ ?_
      clear hK13
      refine AWPD.seq fun K14 hK14 => ?_
      first | refine AWPD.condP rfl (fun h2 => ?_) (fun h2 => ?_) | refine AWPD.condN rfl (fun h2 => ?_) (fun h2 => ?_) | refine AWPD.condAP rfl (fun h2 => ?_) (fun h2 => ?_) | refine AWPD.condOP rfl (fun h2 => ?_) (fun h2 => ?_) | refine AWPD.condONN rfl (fun h2 => ?_) (fun h2 => ?_) | refine AWPD.condOPN rfl (fun h2 => ?_) (fun h2 => ?_) | refine AWPD.condA rfl (fun h2 => ?_) (fun h2 => ?_) | refine AWPD.condO rfl (fun h2 => ?_) (fun h2 => ?_) | refine AWPD.cond rfl (fun h2 => ?_) (fun h2 => ?_)
      · try dsimp only [Ty.T] at h2
        try simp only [castL_self] at h2
        try simp only [Int.toNat_natCast] at h2
        try simp only [Int.toNat_zero] at h2
        refine AWPD.skip ?_
        refine hK14 _ _ ?_
        clear hK14
        refine AWPD.seq fun K15 hK15 => ?_
        refine AWPD.block ?_
        refine AWPD.seq fun K16 hK16 => ?_
        -- region 10
        refine AWPD.keep [1, 2, 4, 12, 28, 29, 30] rfl ?_
        refine AWPD.region tabOK rfl ?_
        repeat refine And.intro (by first | exact fun h => h | exact fun _ => rfl | (intro h; rw [h]; rfl) | omega | (intros; (try dsimp only [Ty.T, Ty.size]); (try simp only [castL_self, Int.toNat_natCast, Int.toNat_zero, Int.toNat_one, true_and, List.length_append, List.length_set, List.length_drop, List.length_take, List.length_replicate, List.length_cons, List.length_nil, Nat.zero_add, Nat.mul_one]); omega) | decide | (intros; simp_all; done) | (intros; simp_all; omega)) ?_
        refine hK16 _ _ ?_
        clear hK16
        refine AWPD.seq fun K17 hK17 => ?_
        -- region 11
        have ha := g.act (i := i) (by omega)
        refine AWPD.keep [1, 2, 4, 12, 14, 28, 29, 30] rfl ?_
        refine AWPD.region tabOK rfl ?_
        repeat refine And.intro (by first | exact fun h => h | exact fun _ => rfl | (intro h; rw [h]; rfl) | omega | (intros; (try dsimp only [Ty.T, Ty.size]); (try simp only [castL_self, Int.toNat_natCast, Int.toNat_zero, Int.toNat_one, true_and, List.length_append, List.length_set, List.length_drop, List.length_take, List.length_replicate, List.length_cons, List.length_nil, Nat.zero_add, Nat.mul_one]); omega) | decide | (intros; simp_all; done) | (intros; simp_all; omega)) ?_
        refine Exists.intro _ (Exists.intro _ (And.intro (StepD.call (has_fn (f.getD (A.getD (w.getD i 0).toNat 0).toNat 0) part (by omega) (by omega)) rfl rfl rfl) (And.intro rfl (And.intro trivial ?_))))
        refine hK17 _ _ ?_
        clear hK17
        first | refine AWPD.cond rfl (fun h3 => ?_) (fun h3 => ?_)
        · try dsimp only [Ty.T] at h3
          try simp only [castL_self] at h3
          try simp only [Int.toNat_natCast] at h3
          try simp only [Int.toNat_zero] at h3
          have hy : actOn A f part (w.getD i 0) = true := h3
          -- region 12
          refine AWPD.keep [1, 2, 4, 12, 14, 28, 29, 30] rfl ?_
          refine AWPD.region tabOK rfl ?_
          repeat refine And.intro (by first | exact fun h => h | exact fun _ => rfl | (intro h; rw [h]; rfl) | omega | (intros; (try dsimp only [Ty.T, Ty.size]); (try simp only [castL_self, Int.toNat_natCast, Int.toNat_zero, Int.toNat_one, true_and, List.length_append, List.length_set, List.length_drop, List.length_take, List.length_replicate, List.length_cons, List.length_nil, Nat.zero_add, Nat.mul_one]); omega) | decide | (intros; simp_all; done) | (intros; simp_all; omega)) ?_
          refine hK15 _ _ ?_
          clear hK15
          -- region 13
          refine AWPD.keep [1, 2, 4, 12, 28, 29, 30] rfl ?_
          refine AWPD.region tabOK rfl ?_
          repeat refine And.intro (by first | exact fun h => h | exact fun _ => rfl | (intro h; rw [h]; rfl) | omega | (intros; (try dsimp only [Ty.T, Ty.size]); (try simp only [castL_self, Int.toNat_natCast, Int.toNat_zero, Int.toNat_one, true_and, List.length_append, List.length_set, List.length_drop, List.length_take, List.length_replicate, List.length_cons, List.length_nil, Nat.zero_add, Nat.mul_one]); omega) | decide | (intros; simp_all; done) | (intros; simp_all; omega)) ?_
          refine ⟨n0 - 1, i + 1, [1], by omega, by omega, ⟨by decide, rfl⟩, ⟨⟨rfl, rfl, purge_yes (by omega) hy⟩, trivial⟩, ?_⟩
          repeat' first | exact True.intro | exact rfl | exact ⟨rfl, rfl⟩ | refine And.intro ?_ ?_
        · try dsimp only [Ty.T] at h3
          try simp only [castL_self] at h3
          try simp only [Int.toNat_natCast] at h3
          try simp only [Int.toNat_zero] at h3
          have hn : ¬actOn A f part (w.getD i 0) = true := by rw [show actOn A f part (w.getD i 0) = false from h3]; decide
          refine AWPD.skip ?_
          refine hK15 _ _ ?_
          clear hK15
          -- region 13
          refine AWPD.keep [1, 2, 4, 12, 28, 29, 30] rfl ?_
          refine AWPD.region tabOK rfl ?_
          repeat refine And.intro (by first | exact fun h => h | exact fun _ => rfl | (intro h; rw [h]; rfl) | omega | (intros; (try dsimp only [Ty.T, Ty.size]); (try simp only [castL_self, Int.toNat_natCast, Int.toNat_zero, Int.toNat_one, true_and, List.length_append, List.length_set, List.length_drop, List.length_take, List.length_replicate, List.length_cons, List.length_nil, Nat.zero_add, Nat.mul_one]); omega) | decide | (intros; simp_all; done) | (intros; simp_all; omega)) ?_
          refine ⟨n0 - 1, i + 1, [0], by omega, by omega, ⟨by decide, rfl⟩, ⟨⟨rfl, rfl, purge_no (by omega) hn⟩, trivial⟩, ?_⟩
          repeat' first | exact True.intro | exact rfl | exact ⟨rfl, rfl⟩ | refine And.intro ?_ ?_
      · try dsimp only [Ty.T] at h2
        try simp only [castL_self] at h2
        try simp only [Int.toNat_natCast] at h2
        try simp only [Int.toNat_zero] at h2
        refine AWPD.exit ?_
        refine hK11 _ _ ?_
        clear hK11
        refine AWPD.seq fun K18 hK18 => ?_
        -- region 14
        refine AWPD.keep [12] rfl ?_
        refine AWPD.region tabOK rfl ?_
        refine hK18 _ _ ?_
        clear hK18
        refine AWPD.ret (And.intro (.inl rfl) ?_)
        -- result 2
        exact ⟨fitR rfl rfl (by unfold purgeV; rw [if_pos hb, List.take_of_length_le (by omega)]), fitE rfl hb.symm⟩
theorem bpurge_fn (P : Int) (A : List Int) (N S : List (List Int)) (f : List Int) (part : Int) (w : List Int) : LiftsD Tryd.prog 48 [.agg [.i P, .sl .int A, .sl (.sl .int) N, .sl (.sl .int) S], .sl .int f, .i part, .sl .int w] (.tup [.sl .int (betV P A N S f part w), .er 81 (bothE P A N S f part w)]) := by
  refine LiftsD.of_body 30 [.tmp 8, .tmp 9] Tryd.func48 rfl Tryd.ntmps48 (by kernel_rfl) rfl rfl fun w0 X0 => ?_
  refine AWPD.seq fun K1 hK1 => ?_
  -- region 0
  refine AWPD.keep [0, 1, 2, 3] rfl ?_
  refine AWPD.region tabOK rfl ?_
  refine hK1 _ _ ?_
  clear hK1
  refine AWPD.seq fun K2 hK2 => ?_
  refine AWPD.seq fun K3 hK3 => ?_
  -- region 1
  refine AWPD.keep [1, 2, 3, 4] rfl ?_
  refine AWPD.region tabOK rfl ?_
  repeat refine And.intro (by first | exact fun h => h | exact fun _ => rfl | (intro h; rw [h]; rfl) | omega | (intros; (try dsimp only [Ty.T, Ty.size]); (try simp only [castL_self, Int.toNat_natCast, Int.toNat_zero, Int.toNat_one, true_and, List.length_append, List.length_set, List.length_drop, List.length_take, List.length_replicate, List.length_cons, List.length_nil, Nat.zero_add, Nat.mul_one]); omega) | decide | (intros; simp_all; done) | (intros; simp_all; omega)) ?_
  refine Exists.intro _ (Exists.intro _ (And.intro (StepD.call (bboth_fn _ _ _ _ _ _ _) rfl rfl rfl) (And.intro rfl (And.intro trivial ?_))))
  refine hK3 _ _ ?_
  clear hK3
  refine AWPD.seq fun K4 hK4 => ?_
  -- region 2
  refine AWPD.keep [1, 2, 3, 4, 10] rfl ?_
  refine AWPD.region tabOK rfl ?_
  refine hK4 _ _ ?_
  clear hK4
  first | refine AWPD.condP rfl (fun h0 => ?_) (fun h0 => ?_) | refine AWPD.condN rfl (fun h0 => ?_) (fun h0 => ?_) | refine AWPD.condAP rfl (fun h0 => ?_) (fun h0 => ?_) | refine AWPD.condOP rfl (fun h0 => ?_) (fun h0 => ?_) | refine AWPD.condONN rfl (fun h0 => ?_) (fun h0 => ?_) | refine AWPD.condOPN rfl (fun h0 => ?_) (fun h0 => ?_) | refine AWPD.condA rfl (fun h0 => ?_) (fun h0 => ?_) | refine AWPD.condO rfl (fun h0 => ?_) (fun h0 => ?_) | refine AWPD.cond rfl (fun h0 => ?_) (fun h0 => ?_)
  · try dsimp only [Ty.T] at h0
    try simp only [castL_self] at h0
    try simp only [Int.toNat_natCast] at h0
    try simp only [Int.toNat_zero] at h0
    refine AWPD.seq fun K5 hK5 => ?_
    -- region 3
    refine AWPD.keep [10] rfl ?_
    refine AWPD.region tabOK rfl ?_
    refine hK5 _ _ ?_
    clear hK5
    refine AWPD.ret (And.intro (.inl rfl) ?_)
    -- result 0
    exact ⟨fitN rfl (by unfold betV; rw [if_neg (by simpa using h0)]) (by decide), fitE rfl rfl⟩
  · try dsimp only [Ty.T] at h0
    try simp only [castL_self] at h0
    try simp only [Int.toNat_natCast] at h0
    try simp only [Int.toNat_zero] at h0
    have hb : bothE P A N S f part w = 0 := by simpa using h0
    have g := both_ok hb
    refine AWPD.skip ?_
    refine hK2 _ _ ?_
    clear hK2
    refine AWPD.seq fun K6 hK6 => ?_
    -- region 4
    refine AWPD.keep [1, 2, 3, 4] rfl ?_
    refine AWPD.region tabOK rfl ?_
    repeat refine And.intro (by first | exact fun h => h | exact fun _ => rfl | (intro h; rw [h]; rfl) | omega | (intros; (try dsimp only [Ty.T, Ty.size]); (try simp only [castL_self, Int.toNat_natCast, Int.toNat_zero, Int.toNat_one, true_and, List.length_append, List.length_set, List.length_drop, List.length_take, List.length_replicate, List.length_cons, List.length_nil, Nat.zero_add, Nat.mul_one]); omega) | decide | (intros; simp_all; done) | (intros; simp_all; omega)) ?_
    refine Exists.intro _ (Exists.intro _ (And.intro (StepD.call (sources_fn _ _ _ _ _ _ _ (by assumption)) rfl rfl rfl) (And.intro rfl (And.intro trivial ?_))))
    refine hK6 _ _ ?_
    clear hK6
    refine AWPD.seq fun K7 hK7 => ?_
    -- region 5
    refine AWPD.keep [12] rfl ?_
    refine AWPD.region tabOK rfl ?_
    refine hK7 _ _ ?_
    clear hK7
    refine AWPD.ret (And.intro (.inl rfl) ?_)
    -- result 1
    exact ⟨fitS rfl (by unfold betV; rw [if_pos hb]), fitE rfl hb.symm⟩
theorem bsources_fn (P : Int) (A : List Int) (N S : List (List Int)) (f : List Int) (part : Int) (w : List Int) : LiftsD Tryd.prog 47 [.agg [.i P, .sl .int A, .sl (.sl .int) N, .sl (.sl .int) S], .sl .int f, .i part, .sl .int w] (.tup [.i (srcV P A N S f part w), .er 81 (bothE P A N S f part w)]) := by
  refine LiftsD.of_body 30 [.tmp 8, .tmp 9] Tryd.func47 rfl Tryd.ntmps47 (by kernel_rfl) rfl rfl fun w0 X0 => ?_
  refine AWPD.seq fun K1 hK1 => ?_
  -- region 0
  refine AWPD.keep [0, 1, 2, 3] rfl ?_
  refine AWPD.region tabOK rfl ?_
  refine hK1 _ _ ?_
  clear hK1
  refine AWPD.seq fun K2 hK2 => ?_
  refine AWPD.seq fun K3 hK3 => ?_
  -- region 1
  refine AWPD.keep [1, 2, 3, 4] rfl ?_
  refine AWPD.region tabOK rfl ?_
  repeat refine And.intro (by first | exact fun h => h | exact fun _ => rfl | (intro h; rw [h]; rfl) | omega | (intros; (try dsimp only [Ty.T, Ty.size]); (try simp only [castL_self, Int.toNat_natCast, Int.toNat_zero, Int.toNat_one, true_and, List.length_append, List.length_set, List.length_drop, List.length_take, List.length_replicate, List.length_cons, List.length_nil, Nat.zero_add, Nat.mul_one]); omega) | decide | (intros; simp_all; done) | (intros; simp_all; omega)) ?_
  refine Exists.intro _ (Exists.intro _ (And.intro (StepD.call (bboth_fn _ _ _ _ _ _ _) rfl rfl rfl) (And.intro rfl (And.intro trivial ?_))))
  refine hK3 _ _ ?_
  clear hK3
  refine AWPD.seq fun K4 hK4 => ?_
  -- region 2
  refine AWPD.keep [1, 2, 3, 4, 10] rfl ?_
  refine AWPD.region tabOK rfl ?_
  refine hK4 _ _ ?_
  clear hK4
  first | refine AWPD.condP rfl (fun h0 => ?_) (fun h0 => ?_) | refine AWPD.condN rfl (fun h0 => ?_) (fun h0 => ?_) | refine AWPD.condAP rfl (fun h0 => ?_) (fun h0 => ?_) | refine AWPD.condOP rfl (fun h0 => ?_) (fun h0 => ?_) | refine AWPD.condONN rfl (fun h0 => ?_) (fun h0 => ?_) | refine AWPD.condOPN rfl (fun h0 => ?_) (fun h0 => ?_) | refine AWPD.condA rfl (fun h0 => ?_) (fun h0 => ?_) | refine AWPD.condO rfl (fun h0 => ?_) (fun h0 => ?_) | refine AWPD.cond rfl (fun h0 => ?_) (fun h0 => ?_)
  · try dsimp only [Ty.T] at h0
    try simp only [castL_self] at h0
    try simp only [Int.toNat_natCast] at h0
    try simp only [Int.toNat_zero] at h0
    refine AWPD.seq fun K5 hK5 => ?_
    -- region 3
    refine AWPD.keep [10] rfl ?_
    refine AWPD.region tabOK rfl ?_
    refine hK5 _ _ ?_
    clear hK5
    refine AWPD.ret (And.intro (.inl rfl) ?_)
    -- result 0
    exact ⟨fitI rfl (by unfold srcV; rw [if_neg (by simpa using h0)]), fitE rfl rfl⟩
  · try dsimp only [Ty.T] at h0
    try simp only [castL_self] at h0
    try simp only [Int.toNat_natCast] at h0
    try simp only [Int.toNat_zero] at h0
    have hb : bothE P A N S f part w = 0 := by simpa using h0
    have g := both_ok hb
    refine AWPD.skip ?_
    refine hK2 _ _ ?_
    clear hK2
    refine AWPD.seq fun K6 hK6 => ?_
    -- region 4
    refine AWPD.keep [1, 2, 3, 4] rfl ?_
    refine AWPD.region tabOK rfl ?_
    repeat refine And.intro (by first | exact fun h => h | exact fun _ => rfl | (intro h; rw [h]; rfl) | omega | (intros; (try dsimp only [Ty.T, Ty.size]); (try simp only [castL_self, Int.toNat_natCast, Int.toNat_zero, Int.toNat_one, true_and, List.length_append, List.length_set, List.length_drop, List.length_take, List.length_replicate, List.length_cons, List.length_nil, Nat.zero_add, Nat.mul_one]); omega) | decide | (intros; simp_all; done) | (intros; simp_all; omega)) ?_
    refine Exists.intro _ (Exists.intro _ (And.intro (StepD.call (sources_fn _ _ _ _ _ _ _ (by assumption)) rfl rfl rfl) (And.intro rfl (And.intro trivial ?_))))
    refine hK6 _ _ ?_
    clear hK6
    refine AWPD.seq fun K7 hK7 => ?_
    -- region 5
    refine AWPD.keep [11] rfl ?_
    refine AWPD.region tabOK rfl ?_
    refine hK7 _ _ ?_
    clear hK7
    refine AWPD.ret (And.intro (.inl rfl) ?_)
    -- result 1
    exact ⟨fitI rfl (by unfold srcV; rw [if_pos hb]), fitE rfl hb.symm⟩
theorem cell_fn  : LiftsD Tryd.prog 24 [] (.agg [.i 2, .sl .int [0], .sl (.sl .int) [[1], [1]], .sl (.sl .int) [[0, 0], [0, 7]]]) := by
  refine LiftsD.of_bodyC 9 0 25 Tryd.func24 rfl Tryd.ntmps24 (by kernel_rfl) rfl rfl fun w0 X0 => ?_
  refine AWPD.seq fun K1 hK1 => ?_
  -- region 0
  refine AWPD.keep [] rfl ?_
  refine AWPD.region tabOK rfl ?_
  refine hK1 _ _ ?_
  clear hK1
  refine AWPD.seq fun K2 hK2 => ?_
  -- region 1
  refine AWPD.keep [0] rfl ?_
  refine AWPD.region tabOK rfl ?_
  repeat refine And.intro (by first | exact fun h => h | exact fun _ => rfl | (intro h; rw [h]; rfl) | omega | (intros; (try dsimp only [Ty.T, Ty.size]); (try simp only [castL_self, Int.toNat_natCast, Int.toNat_zero, Int.toNat_one, true_and, List.length_append, List.length_set, List.length_drop, List.length_take, List.length_replicate, List.length_cons, List.length_nil, Nat.zero_add, Nat.mul_one]); omega) | decide | (intros; simp_all; done) | (intros; simp_all; omega)) ?_
  refine hK2 _ _ ?_
  clear hK2
  refine AWPD.ret (And.intro (.inl rfl) ?_)
  -- result 0
  exact ⟨0, _, _, _, rfl, rfl, tabOK.agg (25, 4) (by decide), rfl, rfl⟩
end Go.Proofs.YtndoigkmdcgjfaaDoor
