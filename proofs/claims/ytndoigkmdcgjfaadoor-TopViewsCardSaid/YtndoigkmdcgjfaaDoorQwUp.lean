/-
  The plain law of what is alike to a part: it is the least that goes on by acts.
-/
import Derived.Test.YtndoigkmdcgjfaaDoorQwUn
import Derived.Test.YtndoigkmdcgjfaaDoorQwNm
namespace Go.Proofs.YtndoigkmdcgjfaaDoor
open Go Go.Qw
set_option maxRecDepth 10000
set_option linter.unusedSimpArgs false
set_option linter.unusedVariables false
set_option linter.unusedSectionVars false

theorem joinR_keep {ρ : Nat → Nat} {i j a b : Nat} (h : ρ a = ρ b) : joinR ρ i j a = joinR ρ i j b := by unfold joinR; rw [h]
theorem joinR_both {ρ : Nat → Nat} {i j : Nat} : joinR ρ i j i = joinR ρ i j j := by
  unfold joinR
  split <;> split <;> omega
theorem joinR_inv {n : Nat} {ρ : Nat → Nat} {c : Nat → Int} {i j : Nat} (hi : i < n) (hj : j < n) (hc : ∀ k, k < n → c (ρ k) = c k) (hij : c i = c j) : ∀ k, k < n → c (joinR ρ i j k) = c k := by
  intro k hk
  have h1 := hc i hi
  have h2 := hc j hj
  unfold joinR
  split
  · rename_i he
    rw [← hc k hk, he]
    rcases Nat.le_total (ρ i) (ρ j) with h | h
    · rw [Nat.min_eq_left h, Nat.max_eq_right h, h1, h2, hij]
    · rw [Nat.min_eq_right h, Nat.max_eq_left h, h1, h2, hij]
  · exact hc k hk
section
variable {P : Int} {A : List Int} {N S : List (List Int)} (g : GoodM P A N S)
theorem j1_keep {f : List Int} {part : Int} {s : Nat} {ρ : Nat → Nat} {x y : Nat} (h : ρ x = ρ y) : ∀ a, j1 N A f part s ρ a x = j1 N A f part s ρ a y
  | 0 => h
  | a + 1 => by
    have ih := j1_keep (f := f) (part := part) (s := s) h a
    unfold j1
    split
    · exact joinR_keep ih
    · exact ih
theorem j1_done {f : List Int} {part : Int} {s : Nat} {ρ : Nat → Nat} : ∀ {m a : Nat}, a < m → qaF A f part a = true → j1 N A f part s ρ m s = j1 N A f part s ρ m (nx N s a)
  | m + 1, a, ha, hq => by
    unfold j1
    by_cases he : a = m
    · subst he
      rw [if_pos hq]
      exact joinR_both
    · have ih := j1_done (s := s) (ρ := ρ) (show a < m by omega) hq
      split
      · exact joinR_keep ih
      · exact ih
theorem v1_keep {f : List Int} {part : Int} {L : List Nat} {x y k : Nat} (h : v1 N A f part L k x = v1 N A f part L k y) : ∀ d, v1 N A f part L (k + d) x = v1 N A f part L (k + d) y
  | 0 => h
  | d + 1 => j1_keep (v1_keep h d) A.length
theorem v1_done {f : List Int} {part : Int} {L : List Nat} {k m a : Nat} (hk : k < m) (ha : a < A.length) (hq : qaF A f part a = true) : v1 N A f part L m (L.getD k 0) = v1 N A f part L m (nx N (L.getD k 0) a) := by
  have h : v1 N A f part L (k + 1) (L.getD k 0) = v1 N A f part L (k + 1) (nx N (L.getD k 0) a) := j1_done ha hq
  have := v1_keep h (m - (k + 1))
  rwa [show k + 1 + (m - (k + 1)) = m by omega] at this
theorem j2_keep {s t : Nat} {p : St} {x y : Nat} (h : p.1 x = p.1 y) : ∀ a, (j2 N s t p a).1 x = (j2 N s t p a).1 y
  | 0 => h
  | a + 1 => joinR_keep (j2_keep h a)
theorem j2t_keep {L : List Nat} {s : Nat} {p : St} {x y : Nat} (h : p.1 x = p.1 y) : ∀ k, (j2t N A L s p k).1 x = (j2t N A L s p k).1 y
  | 0 => h
  | k + 1 => by
    have ih := j2t_keep (L := L) (s := s) h k
    unfold j2t
    split
    · exact j2_keep ih _
    · exact ih
theorem j2s_keep {L : List Nat} {p : St} {x y : Nat} (h : p.1 x = p.1 y) : ∀ k, (j2s N A L p k).1 x = (j2s N A L p k).1 y
  | 0 => h
  | k + 1 => j2t_keep (j2s_keep h k) _
theorem vW_keep {L : List Nat} {x y : Nat} : ∀ {m : Nat} {ρ : Nat → Nat}, ρ x = ρ y → vW N A L m ρ x = vW N A L m ρ y
  | 0, ρ, h => h
  | m + 1, ρ, h => by
    have h1 : (rnd N A L ρ).1 x = (rnd N A L ρ).1 y := j2s_keep (p := (ρ, false)) h _
    unfold vW
    split
    · exact vW_keep h1
    · exact h1
include g
/-- A round in which nothing turned has looked at all. -/
theorem GoodM.j2_more {s t : Nat} {p : St} (r : RepP N.length p.1) (hs : s < N.length) (ht : t < N.length) {a : Nat} : ∀ d, a + d ≤ A.length → Run2 N.length (j2 N s t p a) (j2 N s t p (a + d))
  | 0, ha => Run2.refl (g.j2_run r hs ht a (by omega)).rep
  | d + 1, ha => by
    have ih := GoodM.j2_more r hs ht d (a := a) (by omega)
    have R := g.j2_run (p := j2 N s t p (a + d)) (g.j2_run r hs ht (a + d) (by omega)).rep hs ht 0 (by omega)
    have h1 := (g.nx_lt hs (show a + d < A.length by omega)).2.2
    have h2 := (g.nx_lt ht (show a + d < A.length by omega)).2.2
    have hrep := (g.j2_run r hs ht (a + d) (by omega)).rep
    refine ih.trans ⟨hrep.join h1 h2, hrep.join_le h1 h2, fun hq => ?_, fun hq => ?_⟩
    · by_cases he : (j2 N s t p (a + d)).1 (nx N s (a + d)) = (j2 N s t p (a + d)).1 (nx N t (a + d))
      · refine .inl ?_
        have hq : (bif decide ((j2 N s t p (a + d)).1 (nx N s (a + d)) ≠ (j2 N s t p (a + d)).1 (nx N t (a + d))) then true else (j2 N s t p (a + d)).2) = true := hq
        rw [decide_eq_false (by simpa using he)] at hq
        exact hq
      · exact .inr (hrep.join_lt h1 h2 he)
    · have hq : (bif decide ((j2 N s t p (a + d)).1 (nx N s (a + d)) ≠ (j2 N s t p (a + d)).1 (nx N t (a + d))) then true else (j2 N s t p (a + d)).2) = false := hq
      by_cases he : (j2 N s t p (a + d)).1 (nx N s (a + d)) = (j2 N s t p (a + d)).1 (nx N t (a + d))
      · rw [decide_eq_false (by simpa using he)] at hq
        exact ⟨hq, hrep.join_same h1 h2 he⟩
      · rw [decide_eq_true he] at hq
        cases hq
theorem GoodM.j2_still {s t : Nat} {p : St} (r : RepP N.length p.1) (hs : s < N.length) (ht : t < N.length) (hf : (j2 N s t p A.length).2 = false) {a : Nat} (ha : a < A.length) : p.1 (nx N s a) = p.1 (nx N t a) := by
  have R := g.j2_more r hs ht (a := a + 1) (A.length - (a + 1)) (by omega)
  rw [show a + 1 + (A.length - (a + 1)) = A.length by omega] at R
  have h1 := (R.still hf).1
  have h1 : (bif decide ((j2 N s t p a).1 (nx N s a) ≠ (j2 N s t p a).1 (nx N t a)) then true else (j2 N s t p a).2) = false := h1
  have he : (j2 N s t p a).1 (nx N s a) = (j2 N s t p a).1 (nx N t a) := by
    refine Decidable.byContradiction fun hne => ?_
    rw [decide_eq_true hne] at h1
    cases h1
  rw [decide_eq_false (by simpa using he)] at h1
  have h2 := ((g.j2_run r hs ht a (by omega)).still h1).2
  rwa [h2] at he
theorem GoodM.j2t_more {L : List Nat} (hL : ∀ k, k < L.length → L.getD k 0 < N.length) {s : Nat} {p : St} (r : RepP N.length p.1) (hs : s < N.length) {k : Nat} : ∀ d, k + d ≤ L.length → Run2 N.length (j2t N A L s p k) (j2t N A L s p (k + d))
  | 0, hk => Run2.refl (g.j2t_run hL r hs k (by omega)).rep
  | d + 1, hk => by
    have ih := GoodM.j2t_more hL r hs d (k := k) (by omega)
    have hrep := (g.j2t_run hL r hs (k + d) (by omega)).rep
    refine ih.trans ?_
    show Run2 N.length (j2t N A L s p (k + d)) (j2t N A L s p (k + d + 1))
    rw [j2t]
    split
    · exact g.j2_run hrep hs (hL (k + d) (by omega)) A.length (Nat.le_refl _)
    · exact Run2.refl hrep
theorem GoodM.j2t_still {L : List Nat} (hL : ∀ k, k < L.length → L.getD k 0 < N.length) {s : Nat} {p : St} (r : RepP N.length p.1) (hs : s < N.length) (hf : (j2t N A L s p L.length).2 = false) {k : Nat} (hk : k < L.length) (hst : s < L.getD k 0) (he : p.1 s = p.1 (L.getD k 0)) {a : Nat} (ha : a < A.length) : p.1 (nx N s a) = p.1 (nx N (L.getD k 0) a) := by
  have R := g.j2t_more hL r hs (k := k + 1) (L.length - (k + 1)) (by omega)
  rw [show k + 1 + (L.length - (k + 1)) = L.length by omega] at R
  have h1 := (R.still hf).1
  have hrep := g.j2t_run hL r hs k (by omega)
  have R2 : Run2 N.length (j2t N A L s p k) (j2t N A L s p (k + 1)) := g.j2t_more hL r hs (k := k) 1 (by omega)
  have h2 := R2.still h1
  have h3 := (hrep.still h2.1).2
  rw [j2t, if_pos ⟨hst, by rw [h3]; exact he⟩] at h1
  have := g.j2_still hrep.rep hs (hL k hk) h1 ha
  rwa [h3] at this
theorem GoodM.j2s_more {L : List Nat} (hL : ∀ k, k < L.length → L.getD k 0 < N.length) {p : St} (r : RepP N.length p.1) {k : Nat} : ∀ d, k + d ≤ L.length → Run2 N.length (j2s N A L p k) (j2s N A L p (k + d))
  | 0, hk => Run2.refl (g.j2s_run hL r k (by omega)).rep
  | d + 1, hk => by
    have ih := GoodM.j2s_more hL r d (k := k) (by omega)
    have hrep := (g.j2s_run hL r (k + d) (by omega)).rep
    exact ih.trans (g.j2t_run hL hrep (hL (k + d) (by omega)) L.length (Nat.le_refl _))
theorem GoodM.rnd_still {L : List Nat} (hL : ∀ k, k < L.length → L.getD k 0 < N.length) {ρ : Nat → Nat} (r : RepP N.length ρ) (hf : (rnd N A L ρ).2 = false) : (rnd N A L ρ).1 = ρ ∧ ∀ i j, i < L.length → j < L.length → ρ (L.getD i 0) = ρ (L.getD j 0) → ∀ a, a < A.length → ρ (nx N (L.getD i 0) a) = ρ (nx N (L.getD j 0) a) := by
  have R := g.j2s_run hL (p := (ρ, false)) r L.length (Nat.le_refl _)
  refine ⟨(R.still hf).2, ?_⟩
  have key : ∀ i j, i < L.length → j < L.length → L.getD i 0 < L.getD j 0 → ρ (L.getD i 0) = ρ (L.getD j 0) → ∀ a, a < A.length → ρ (nx N (L.getD i 0) a) = ρ (nx N (L.getD j 0) a) := fun i j hi hj hlt he a ha => by
    have R1 := g.j2s_more hL (p := (ρ, false)) r (k := i + 1) (L.length - (i + 1)) (by omega)
    rw [show i + 1 + (L.length - (i + 1)) = L.length by omega] at R1
    have h1 := (R1.still hf).1
    have R0 := g.j2s_run hL (p := (ρ, false)) r i (by omega)
    have R2 : Run2 N.length (j2s N A L (ρ, false) i) (j2s N A L (ρ, false) (i + 1)) := g.j2s_more hL (p := (ρ, false)) r (k := i) 1 (by omega)
    have h2 := R2.still h1
    have h3 : (j2s N A L (ρ, false) i).1 = ρ := (R0.still h2.1).2
    have := g.j2t_still hL R0.rep (hL i hi) h1 hj hlt (by rw [h3]; exact he) ha
    rwa [h3] at this
  intro i j hi hj he a ha
  rcases Nat.lt_trichotomy (L.getD i 0) (L.getD j 0) with h | h | h
  · exact key i j hi hj h he a ha
  · rw [h]
  · exact (key j i hj hi h he.symm a ha).symm
theorem GoodM.vW_end {L : List Nat} (hL : ∀ k, k < L.length → L.getD k 0 < N.length) : ∀ {m : Nat} {ρ : Nat → Nat}, RepP N.length ρ → repN ρ N.length < m → RepP N.length (vW N A L m ρ) ∧ (rnd N A L (vW N A L m ρ)).2 = false
  | 0, ρ, _, h => by omega
  | m + 1, ρ, r, h => by
    have R := g.round hL r h (m := m + 1) (F := vW N A L (m + 1) ρ) rfl
    rcases R.2 with ⟨h1, h2, h3⟩ | ⟨h1, h2⟩
    · have ih := GoodM.vW_end hL (m := m) R.1 (by omega)
      have h3 : vW N A L m (rnd N A L ρ).1 = vW N A L (m + 1) ρ := h3
      rwa [h3] at ih
    · have hs := (g.rnd_still hL r h1).1
      rw [← h2, hs]
      exact ⟨r, h1⟩
/-- Nothing is joined that any such classes do not have in one. -/
theorem GoodM.j1_inv {f : List Int} {part : Int} {c : Nat → Int} {s : Nat} (hs : s < N.length) (hq : ∀ a, a < A.length → qaF A f part a = true → c s = c (nx N s a)) {ρ : Nat → Nat} (hc : ∀ k, k < N.length → c (ρ k) = c k) : ∀ a, a ≤ A.length → ∀ k, k < N.length → c (j1 N A f part s ρ a k) = c k
  | 0, _ => hc
  | a + 1, ha => by
    have ih := GoodM.j1_inv hs hq hc a (by omega)
    unfold j1
    split
    · rename_i h
      exact joinR_inv hs (g.nx_lt hs (by omega)).2.2 ih (hq a (by omega) h)
    · exact ih
theorem GoodM.v1_inv {f : List Int} {part : Int} {L : List Nat} (hL : ∀ k, k < L.length → L.getD k 0 < N.length) {c : Nat → Int} (hq : ∀ k a, k < L.length → a < A.length → qaF A f part a = true → c (L.getD k 0) = c (nx N (L.getD k 0) a)) : ∀ k, k ≤ L.length → ∀ x, x < N.length → c (v1 N A f part L k x) = c x
  | 0, _ => fun _ _ => rfl
  | k + 1, hk => g.j1_inv (hL k (by omega)) (fun a ha h => hq k a (by omega) ha h) (GoodM.v1_inv hL hq k (by omega)) A.length (Nat.le_refl _)
theorem GoodM.j2_inv {c : Nat → Int} {s t : Nat} (hs : s < N.length) (ht : t < N.length) (hst : ∀ a, a < A.length → c (nx N s a) = c (nx N t a)) {p : St} (hc : ∀ k, k < N.length → c (p.1 k) = c k) : ∀ a, a ≤ A.length → ∀ k, k < N.length → c ((j2 N s t p a).1 k) = c k
  | 0, _ => hc
  | a + 1, ha => joinR_inv (g.nx_lt hs (by omega)).2.2 (g.nx_lt ht (by omega)).2.2 (GoodM.j2_inv hs ht hst hc a (by omega)) (hst a (by omega))
theorem GoodM.j2t_inv {L : List Nat} (hL : ∀ k, k < L.length → L.getD k 0 < N.length) {c : Nat → Int} {i : Nat} (hi : i < L.length) (h2 : ∀ i j, i < L.length → j < L.length → c (L.getD i 0) = c (L.getD j 0) → ∀ a, a < A.length → c (nx N (L.getD i 0) a) = c (nx N (L.getD j 0) a)) {p : St} (hc : ∀ k, k < N.length → c (p.1 k) = c k) : ∀ k, k ≤ L.length → ∀ x, x < N.length → c ((j2t N A L (L.getD i 0) p k).1 x) = c x
  | 0, _ => hc
  | k + 1, hk => by
    have ih := GoodM.j2t_inv hL hi h2 hc k (by omega)
    unfold j2t
    split
    · rename_i h
      refine g.j2_inv (hL i hi) (hL k (by omega)) (h2 i k hi (by omega) ?_) ih A.length (Nat.le_refl _)
      rw [← ih _ (hL i hi), h.2, ih _ (hL k (by omega))]
    · exact ih
theorem GoodM.j2s_inv {L : List Nat} (hL : ∀ k, k < L.length → L.getD k 0 < N.length) {c : Nat → Int} (h2 : ∀ i j, i < L.length → j < L.length → c (L.getD i 0) = c (L.getD j 0) → ∀ a, a < A.length → c (nx N (L.getD i 0) a) = c (nx N (L.getD j 0) a)) {p : St} (hc : ∀ k, k < N.length → c (p.1 k) = c k) : ∀ k, k ≤ L.length → ∀ x, x < N.length → c ((j2s N A L p k).1 x) = c x
  | 0, _ => hc
  | k + 1, hk => g.j2t_inv hL (by omega) h2 (GoodM.j2s_inv hL h2 hc k (by omega)) L.length (Nat.le_refl _)
theorem GoodM.vW_inv {L : List Nat} (hL : ∀ k, k < L.length → L.getD k 0 < N.length) {c : Nat → Int} (h2 : ∀ i j, i < L.length → j < L.length → c (L.getD i 0) = c (L.getD j 0) → ∀ a, a < A.length → c (nx N (L.getD i 0) a) = c (nx N (L.getD j 0) a)) : ∀ {m : Nat} {ρ : Nat → Nat}, (∀ k, k < N.length → c (ρ k) = c k) → ∀ x, x < N.length → c (vW N A L m ρ x) = c x
  | 0, ρ, hc => hc
  | m + 1, ρ, hc => by
    have h1 := g.j2s_inv hL h2 (p := (ρ, false)) hc L.length (Nat.le_refl _)
    unfold vW
    split
    · exact GoodM.vW_inv hL h2 h1
    · exact h1
/-- WHAT IS ALIKE: told on by acts; the least that is so. -/
structure LeastV (A : List Int) (N : List (List Int)) (f : List Int) (part : Int) (ρ : Nat → Nat) : Prop where
  quiet : ∀ s a, (reachN N).testBit s = true → a < A.length → qaF A f part a = true → ρ s = ρ (nx N s a)
  both : ∀ s t, (reachN N).testBit s = true → (reachN N).testBit t = true → ρ s = ρ t → ∀ a, a < A.length → ρ (nx N s a) = ρ (nx N t a)
  least : ∀ c : Nat → Int, (∀ s a, (reachN N).testBit s = true → a < A.length → qaF A f part a = true → c s = c (nx N s a)) → (∀ s t, (reachN N).testBit s = true → (reachN N).testBit t = true → c s = c t → ∀ a, a < A.length → c (nx N s a) = c (nx N t a)) → ∀ s t, s < N.length → t < N.length → ρ s = ρ t → c s = c t
theorem GoodM.at_bit {s : Nat} (h : (reachN N).testBit s = true) : ∃ k, k < (bitsL (reachN N)).length ∧ (bitsL (reachN N)).getD k 0 = s := by
  have hl := g.reach_lt
  have hN := g.few
  have hs := bit_lt hl h
  obtain ⟨k, hk, e⟩ := List.getElem_of_mem (mem_bitsL.2 ⟨by omega, h⟩)
  exact ⟨k, hk, by simp only [List.getD, List.getElem?_eq_getElem hk, Option.getD_some]; exact e⟩
theorem GoodM.vF_least (f : List Int) (part : Int) : LeastV A N f part (vF N A f part) := by
  have hrl := g.reach_lt
  have hL : ∀ k, k < (bitsL (reachN N)).length → (bitsL (reachN N)).getD k 0 < N.length := fun k hk => bitsL_lt hrl hk
  have r1 := g.v1_rep (f := f) (part := part) hL _ (Nat.le_refl _)
  have hE := g.vW_end hL (m := N.length + 1) r1 (Nat.lt_succ_of_le (repN_le _ _))
  have hst := g.rnd_still hL hE.1 hE.2
  refine ⟨fun s a hs ha hq => ?_, fun s t hs ht he a ha => ?_, fun c h1 h2 s t hs ht he => ?_⟩
  · obtain ⟨k, hk, rfl⟩ := g.at_bit hs
    exact vW_keep (v1_done hk ha hq)
  · obtain ⟨i, hi, rfl⟩ := g.at_bit hs
    obtain ⟨j, hj, rfl⟩ := g.at_bit ht
    exact hst.2 i j hi hj he a ha
  · have hi := g.vW_inv hL (c := c) (fun i j hi hj he a ha => h2 _ _ (bitsL_mem hi) (bitsL_mem hj) he a ha) (m := N.length + 1) (g.v1_inv hL (fun k a hk ha hq => h1 _ a (bitsL_mem hk) ha hq) _ (Nat.le_refl _))
    have e1 : c (vF N A f part s) = c s := hi s hs
    have e2 : c (vF N A f part t) = c t := hi t ht
    rw [← e1, he, e2]
end
/-! ### As numbers -/

theorem int_key {x y : Int} (h : keyL .int x = keyL .int y) : x = y := by simpa [keyL] using h
theorem qV_pre (ρ : Nat → Nat) (x : Nat) {i : Nat} : ∀ d, qV ρ x i <+: qV ρ x (i + d)
  | 0 => List.prefix_rfl
  | d + 1 => by
    refine (qV_pre ρ x d).trans ?_
    show qV ρ x (i + d) <+: qV ρ x (i + d + 1)
    rw [qV]
    split
    · exact qAdd_pre _ _
    · exact List.prefix_rfl
theorem qV_nodup (ρ : Nat → Nat) (x : Nat) : ∀ i, (qV ρ x i).Nodup
  | 0 => List.nodup_nil
  | i + 1 => by
    rw [qV]
    split
    · exact qAdd_nodup (qV_nodup ρ x i)
    · exact qV_nodup ρ x i
theorem num_at {ρ : Nat → Nat} {x s n : Nat} (hs : s < n) (h : x.testBit s = true) : 0 ≤ numV ρ x s ∧ (numV ρ x s).toNat < (qV ρ x n).length ∧ (qV ρ x n).getD (numV ρ x s).toNat 0 = ((ρ s : Nat) : Int) := by
  have q := qstep .int ((ρ s : Nat) : Int) (qV ρ x s)
  have e : qV ρ x (s + 1) = qAdd .int ((ρ s : Nat) : Int) (qV ρ x s) := qV_yes h
  have hp := qV_pre ρ x (i := s + 1) (n - (s + 1))
  rw [show s + 1 + (n - (s + 1)) = n by omega] at hp
  rw [numV, if_pos h]
  have hl := q.lt
  rw [← e] at hl
  refine ⟨q.nn.1, Nat.lt_of_lt_of_le hl hp.length_le, ?_⟩
  rw [getD_pre hp hl, e]
  exact int_key q.at_
theorem nodup_get {l : List Int} (h : l.Nodup) {a b : Nat} (ha : a < l.length) (hb : b < l.length) (e : l.getD a 0 = l.getD b 0) : a = b := by
  have hp := List.pairwise_iff_getElem.1 h
  simp only [List.getD, List.getElem?_eq_getElem ha, List.getElem?_eq_getElem hb, Option.getD_some] at e
  rcases Nat.lt_trichotomy a b with h | h | h
  · exact absurd e (hp a b ha hb h)
  · exact h
  · exact absurd e.symm (hp b a hb ha h)
theorem num_iff {ρ : Nat → Nat} {x s t n : Nat} (hs : s < n) (ht : t < n) (h1 : x.testBit s = true) (h2 : x.testBit t = true) : numV ρ x s = numV ρ x t ↔ ρ s = ρ t := by
  obtain ⟨a1, a2, a3⟩ := num_at (ρ := ρ) hs h1
  obtain ⟨b1, b2, b3⟩ := num_at (ρ := ρ) ht h2
  constructor
  · intro h
    rw [h, b3] at a3
    omega
  · intro h
    have := nodup_get (qV_nodup ρ x n) a2 b2 (by rw [a3, b3, h])
    omega
theorem outV_get {ρ : Nat → Nat} {x n s : Nat} (hs : s < n) : (outV ρ x n n).getD s 0 = numV ρ x s := by simp [outV, List.getD, hs]

theorem viewsV_ok {P : Int} {A : List Int} {N S : List (List Int)} {f : List Int} {part : Int} (h : chkE P A N S f part = 0) : viewsV P A N S f part = outV (vF N A f part) (reachN N) N.length N.length := by unfold viewsV; rw [if_pos h]
theorem viewsV_len {P : Int} {A : List Int} {N S : List (List Int)} {f : List Int} {part : Int} (h : chkE P A N S f part = 0) : (viewsV P A N S f part).length = N.length := by rw [viewsV_ok h, outV_len]
theorem viewsV_get {P : Int} {A : List Int} {N S : List (List Int)} {f : List Int} {part : Int} (h : chkE P A N S f part = 0) {s : Nat} (hs : s < N.length) : (viewsV P A N S f part).getD s 0 = numV (vF N A f part) (reachN N) s := by rw [viewsV_ok h, outV_get hs]
/-- The first two that are alike and do not look the same. -/
def badV (S : List (List Int)) (part : Int) (v : List Int) (t s : Nat) : Prop := 0 ≤ v.getD s 0 ∧ v.getD s 0 = v.getD t 0 ∧ (S.getD s []).getD part.toNat 0 ≠ (S.getD t []).getD part.toNat 0
instance (S : List (List Int)) (part : Int) (v : List Int) (t s : Nat) : Decidable (badV S part v t s) := by unfold badV; infer_instance
def hI (S : List (List Int)) (part : Int) (v : List Int) (t : Nat) : Nat → Option Nat
  | 0 => none
  | k + 1 => match hI S part v t k with
    | some s => some s
    | none => if badV S part v t k then some k else none
def hO (S : List (List Int)) (part : Int) (v : List Int) : Nat → Option (Nat × Nat)
  | 0 => none
  | t + 1 => match hO S part v t with
    | some q => some q
    | none => (hI S part v t t).map fun s => (s, t)
theorem hI_next {S : List (List Int)} {part : Int} {v : List Int} {t k : Nat} (h : hI S part v t k = none) (hb : ¬badV S part v t k) : hI S part v t (k + 1) = none := by rw [hI, h]; exact if_neg hb
theorem hI_at {S : List (List Int)} {part : Int} {v : List Int} {t k : Nat} (h : hI S part v t k = none) (hb : badV S part v t k) : hI S part v t (k + 1) = some k := by rw [hI, h]; exact if_pos hb
theorem hI_keep {S : List (List Int)} {part : Int} {v : List Int} {t k s : Nat} (h : hI S part v t k = some s) : ∀ d, hI S part v t (k + d) = some s
  | 0 => h
  | d + 1 => by show hI S part v t (k + d + 1) = _; rw [hI, hI_keep h d]
theorem hO_next {S : List (List Int)} {part : Int} {v : List Int} {t : Nat} (h : hO S part v t = none) (hb : hI S part v t t = none) : hO S part v (t + 1) = none := by rw [hO, h, hb]; rfl
theorem hO_keep {S : List (List Int)} {part : Int} {v : List Int} {t : Nat} {q : Nat × Nat} (h : hO S part v t = some q) : ∀ d, hO S part v (t + d) = some q
  | 0 => h
  | d + 1 => by show hO S part v (t + d + 1) = _; rw [hO, hO_keep h d]
theorem hO_at {S : List (List Int)} {part : Int} {v : List Int} {t s n : Nat} (h : hO S part v t = none) (h2 : hI S part v t s = none) (hst : s < t) (ht : t < n) (hb : badV S part v t s) : hO S part v n = some (s, t) := by
  have h3 := hI_keep (hI_at h2 hb) (t - (s + 1))
  rw [show s + 1 + (t - (s + 1)) = t by omega] at h3
  have h4 : hO S part v (t + 1) = some (s, t) := by rw [hO, h, h3]; rfl
  have := hO_keep h4 (n - (t + 1))
  rwa [show t + 1 + (n - (t + 1)) = n by omega] at this
theorem hI_some {S : List (List Int)} {part : Int} {v : List Int} {t : Nat} : ∀ {k s : Nat}, hI S part v t k = some s → s < k ∧ badV S part v t s
  | 0, s, h => by cases h
  | k + 1, s, h => by
    rw [hI] at h
    cases hk : hI S part v t k with
    | some q =>
      rw [hk] at h
      cases h
      have := hI_some hk
      exact ⟨by omega, this.2⟩
    | none =>
      rw [hk] at h
      simp only at h
      split at h
      · rename_i hb; cases h; exact ⟨by omega, hb⟩
      · cases h
theorem hI_none {S : List (List Int)} {part : Int} {v : List Int} {t : Nat} : ∀ {k : Nat}, hI S part v t k = none → ∀ s, s < k → ¬badV S part v t s
  | k + 1, h, s, hs => by
    rw [hI] at h
    cases hk : hI S part v t k with
    | some q => rw [hk] at h; cases h
    | none =>
      rw [hk] at h
      simp only at h
      split at h
      · cases h
      · rename_i hb
        by_cases he : s = k
        · rw [he]; exact hb
        · exact hI_none hk s (by omega)
theorem hO_some {S : List (List Int)} {part : Int} {v : List Int} : ∀ {n s t : Nat}, hO S part v n = some (s, t) → s < t ∧ t < n ∧ badV S part v t s
  | 0, s, t, h => by cases h
  | n + 1, s, t, h => by
    rw [hO] at h
    cases hk : hO S part v n with
    | some q =>
      rw [hk] at h
      cases h
      have := hO_some hk
      exact ⟨this.1, by omega, this.2.2⟩
    | none =>
      rw [hk] at h
      simp only at h
      cases hi : hI S part v n n with
      | none => rw [hi] at h; cases h
      | some q =>
        rw [hi] at h
        cases h
        have := hI_some hi
        exact ⟨this.1, by omega, this.2⟩
theorem hO_none {S : List (List Int)} {part : Int} {v : List Int} : ∀ {n : Nat}, hO S part v n = none → ∀ s t, s < t → t < n → ¬badV S part v t s
  | n + 1, h, s, t, hst, ht => by
    rw [hO] at h
    cases hk : hO S part v n with
    | some q => rw [hk] at h; cases h
    | none =>
      rw [hk] at h
      simp only at h
      cases hi : hI S part v n n with
      | some q => rw [hi] at h; cases h
      | none =>
        by_cases he : t = n
        · subst he; exact hI_none hi s hst
        · exact hO_none hk s t hst (by omega)
def hoV (P : Int) (A : List Int) (N S : List (List Int)) (f : List Int) (part : Int) : Option (Nat × Nat) := hO S part (viewsV P A N S f part) N.length
def holdsB (P : Int) (A : List Int) (N S : List (List Int)) (f : List Int) (part : Int) : Bool := decide (chkE P A N S f part = 0) && (hoV P A N S f part).isNone
def holdsL (P : Int) (A : List Int) (N S : List (List Int)) (f : List Int) (part : Int) : List Int := if chkE P A N S f part = 0 then (match hoV P A N S f part with
    | some (s, t) => [(s : Int), (t : Int)]
    | none => []) else []
theorem bad_cond {S : List (List Int)} {part : Int} {v : List Int} {t s : Nat} : (bif bif decide (0 ≤ v.getD s 0) then decide (v.getD s 0 = v.getD t 0) else false then decide ((S.getD s []).getD part.toNat 0 ≠ (S.getD t []).getD part.toNat 0) else false) = true ↔ badV S part v t s := by
  unfold badV
  simp only [Bool.cond_false_right, Bool.and_eq_true, decide_eq_true_eq, and_assoc]
theorem bad_not {S : List (List Int)} {part : Int} {v : List Int} {t s : Nat} (h : (bif bif decide (0 ≤ v.getD s 0) then decide (v.getD s 0 = v.getD t 0) else false then decide ((S.getD s []).getD part.toNat 0 ≠ (S.getD t []).getD part.toNat 0) else false) = false) : ¬badV S part v t s := fun hh => by rw [bad_cond.2 hh] at h; cases h
theorem ufact1 : viewsV 2 [0] [[1], [1]] [[0, 0], [0, 7]] [1, 2] 1 = [0, 0] := by decide +kernel
theorem ufact2 : viewsV 2 [0] [[1], [1]] [[0, 0], [0, 7]] [3, 2] 1 = [0, 1] := by decide +kernel
theorem ufact3 : chkE 2 [0] [[1], [1]] [[0, 0], [0, 7]] [1, 2] 1 = 0 := by decide +kernel
theorem ufact4 : chkE 2 [0] [[1], [1]] [[0, 0], [0, 7]] [3, 2] 1 = 0 := by decide +kernel

end Go.Proofs.YtndoigkmdcgjfaaDoor
