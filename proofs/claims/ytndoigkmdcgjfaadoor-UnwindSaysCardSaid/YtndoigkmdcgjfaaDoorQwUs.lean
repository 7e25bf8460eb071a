/-
  WALKS of the document's views, and of the law UnwindSays. Laid by a program of mine out of the operations, with the loops and results told by hand.
-/
import Derived.Test.YtndoigkmdcgjfaaDoorQwUw
import Derived.Test.YtndoigkmdcgjfaaDoorQwMs
namespace Go.Proofs.YtndoigkmdcgjfaaDoor
open Go Go.Qw
set_option maxRecDepth 10000
set_option linter.unusedSimpArgs false
set_option linter.unusedVariables false
set_option linter.unusedSectionVars false

/-! ### The document's labels -/

structure OwnP (n : Nat) (l : Nat → Nat) : Prop where
  lt : ∀ k, k < n → l k < n
  own : ∀ k, k < n → l (l k) = l k
theorem own_id (n : Nat) : OwnP n id := ⟨fun _ h => h, fun _ _ => rfl⟩
def renR (l : Nat → Nat) (s t k : Nat) : Nat := if l k = l t then l s else l k
section
variable {n : Nat} {l : Nat → Nat} (r : OwnP n l) {s t : Nat} (hs : s < n) (ht : t < n)
include r hs ht
theorem OwnP.ren : OwnP n (renR l s t) := by
  have o1 := r.own s hs
  refine ⟨fun k hk => ?_, fun k hk => ?_⟩
  · unfold renR
    split
    · exact r.lt s hs
    · exact r.lt k hk
  · unfold renR
    by_cases h : l k = l t
    · rw [if_pos h, o1]
      split <;> rfl
    · rw [if_neg h, r.own k hk, if_neg h]
theorem OwnP.own_of {k : Nat} (hk : k < n) (h : renR l s t k = k) : l k = k := by
  unfold renR at h
  split at h
  · rw [← h]; exact r.own s hs
  · exact h
theorem OwnP.ren_le : repN (renR l s t) n ≤ repN l n := repN_sub fun _ hk h => r.own_of hs ht hk h
theorem OwnP.ren_lt (h : l s ≠ l t) : repN (renR l s t) n < repN l n := by
  refine repN_lt (a := l t) (fun k hk hh => r.own_of hs ht hk hh) (r.lt t ht) (r.own t ht) ?_
  unfold renR
  rw [r.own t ht, if_pos rfl]
  exact h
end
theorem renR_same {l : Nat → Nat} {s t : Nat} (h : l s = l t) : renR l s t = l := by
  funext k
  unfold renR
  split
  · rename_i hk; rw [hk, h]
  · rfl
theorem renR_keep {l : Nat → Nat} {i j a b : Nat} (h : l a = l b) : renR l i j a = renR l i j b := by unfold renR; rw [h]
theorem renR_both {l : Nat → Nat} {i j : Nat} : renR l i j i = renR l i j j := by
  unfold renR
  rw [if_pos rfl]
  split <;> rfl
theorem renR_inv {n : Nat} {l : Nat → Nat} {c : Nat → Int} {i j : Nat} (hi : i < n) (hj : j < n) (hc : ∀ k, k < n → c (l k) = c k) (hij : c i = c j) : ∀ k, k < n → c (renR l i j k) = c k := by
  intro k hk
  unfold renR
  split
  · rename_i he
    rw [hc i hi, hij, ← hc j hj, ← he, hc k hk]
  · exact hc k hk
/-- The row of labels. -/
def labL (n : Nat) (l : Nat → Nat) : List Int := (List.range n).map fun k => ((l k : Nat) : Int)
theorem labL_len (n : Nat) (l : Nat → Nat) : (labL n l).length = n := by simp [labL]
theorem labL_get {n : Nat} {l : Nat → Nat} {k : Nat} (h : k < n) : (labL n l).getD k 0 = ((l k : Nat) : Int) := by simp [labL, List.getD, h]
/-- As it is written over, so far. -/
def mixL (n : Nat) (l : Nat → Nat) (s t i : Nat) : List Int := (List.range n).map fun k => if k < i then ((renR l s t k : Nat) : Int) else ((l k : Nat) : Int)
theorem mixL_len (n : Nat) (l : Nat → Nat) (s t i : Nat) : (mixL n l s t i).length = n := by simp [mixL]
theorem mixL_zero (n : Nat) (l : Nat → Nat) (s t : Nat) : labL n l = mixL n l s t 0 := by
  unfold labL mixL
  refine List.ext_getElem (by simp) fun k h1 h2 => by simp
theorem mixL_all (n : Nat) (l : Nat → Nat) (s t : Nat) : mixL n l s t n = labL n (renR l s t) := by
  unfold labL mixL
  refine List.ext_getElem (by simp) fun k h1 h2 => ?_
  simp only [List.getElem_map, List.getElem_range]
  rw [if_pos (by simpa using h1)]
theorem mixL_get {n : Nat} {l : Nat → Nat} {s t i : Nat} (h : i < n) : (mixL n l s t i).getD i 0 = ((l i : Nat) : Int) := by simp [mixL, List.getD, h]
theorem mixL_yes {n : Nat} {l : Nat → Nat} {s t i : Nat} (h : i < n) (he : l i = l t) : (mixL n l s t i).set i ((l s : Nat) : Int) = mixL n l s t (i + 1) := by
  unfold mixL
  refine List.ext_getElem (by simp) fun k h1 h2 => ?_
  simp only [List.getElem_set, List.getElem_map, List.getElem_range]
  by_cases hk : i = k
  · subst hk
    rw [if_pos rfl, if_pos (by omega)]
    unfold renR
    rw [if_pos he]
  · rw [if_neg hk]
    by_cases h3 : k < i
    · rw [if_pos h3, if_pos (by omega)]
    · rw [if_neg h3, if_neg (by omega)]
theorem mixL_no {n : Nat} {l : Nat → Nat} {s t i : Nat} (he : l i ≠ l t) : mixL n l s t i = mixL n l s t (i + 1) := by
  unfold mixL
  refine List.ext_getElem (by simp) fun k h1 h2 => ?_
  simp only [List.getElem_map, List.getElem_range]
  by_cases hk : k = i
  · subst hk
    rw [if_neg (by omega), if_pos (by omega)]
    unfold renR
    rw [if_neg he]
  · by_cases h3 : k < i
    · rw [if_pos h3, if_pos (by omega)]
    · rw [if_neg h3, if_neg (by omega)]
def stepR (p : St) (i j : Nat) : St := (renR p.1 i j, bif decide (p.1 i ≠ p.1 j) then true else p.2)
structure Run3 (n : Nat) (p q : St) : Prop where
  own : OwnP n q.1
  le : repN q.1 n ≤ repN p.1 n
  up : q.2 = true → p.2 = true ∨ repN q.1 n < repN p.1 n
  still : q.2 = false → p.2 = false ∧ q.1 = p.1
theorem Run3.refl {n : Nat} {p : St} (h : OwnP n p.1) : Run3 n p p := ⟨h, Nat.le_refl _, .inl, fun h => ⟨h, rfl⟩⟩
theorem Run3.trans {n : Nat} {p q r : St} (h : Run3 n p q) (k : Run3 n q r) : Run3 n p r := by
  refine ⟨k.own, Nat.le_trans k.le h.le, fun hr => ?_, fun hr => ?_⟩
  · rcases k.up hr with h1 | h1
    · rcases h.up h1 with h2 | h2
      · exact .inl h2
      · exact .inr (Nat.lt_of_le_of_lt k.le h2)
    · exact .inr (Nat.lt_of_lt_of_le h1 h.le)
  · obtain ⟨a, b⟩ := k.still hr
    obtain ⟨c, d⟩ := h.still a
    exact ⟨c, b.trans d⟩
theorem stepR_run {n : Nat} {p : St} (r : OwnP n p.1) {i j : Nat} (hi : i < n) (hj : j < n) : Run3 n p (stepR p i j) := by
  refine ⟨r.ren hi hj, r.ren_le hi hj, fun hq => ?_, fun hq => ?_⟩
  · by_cases he : p.1 i = p.1 j
    · refine .inl ?_
      have hq : (bif decide (p.1 i ≠ p.1 j) then true else p.2) = true := hq
      rw [decide_eq_false (by simpa using he)] at hq
      exact hq
    · exact .inr (r.ren_lt hi hj he)
  · have hq : (bif decide (p.1 i ≠ p.1 j) then true else p.2) = false := hq
    by_cases he : p.1 i = p.1 j
    · rw [decide_eq_false (by simpa using he)] at hq
      exact ⟨hq, renR_same he⟩
    · rw [decide_eq_true he] at hq
      cases hq
theorem stepR_still {p : St} {i j : Nat} (h : (stepR p i j).2 = false) : p.1 i = p.1 j := by
  have h : (bif decide (p.1 i ≠ p.1 j) then true else p.2) = false := h
  refine Decidable.byContradiction fun hne => ?_
  rw [decide_eq_true hne] at h
  cases h
def q1 (N : List (List Int)) (A f : List Int) (part : Int) (s a : Nat) (p : St) : St := bif qaF A f part a then stepR p s (nx N s a) else p
def q2 (N : List (List Int)) (x s a : Nat) (p : St) : Nat → St
  | 0 => p
  | t + 1 => if x.testBit t = true ∧ (q2 N x s a p t).1 t = (q2 N x s a p t).1 s then stepR (q2 N x s a p t) (nx N s a) (nx N t a) else q2 N x s a p t
def q3 (N : List (List Int)) (A f : List Int) (part : Int) (x s : Nat) (p : St) : Nat → St
  | 0 => p
  | a + 1 => q2 N x s a (q1 N A f part s a (q3 N A f part x s p a)) N.length
def q4 (N : List (List Int)) (A f : List Int) (part : Int) (x : Nat) (p : St) : Nat → St
  | 0 => p
  | s + 1 => if x.testBit s = true then q3 N A f part x s (q4 N A f part x p s) A.length else q4 N A f part x p s
def rnd3 (N : List (List Int)) (A f : List Int) (part : Int) (x : Nat) (l : Nat → Nat) : St := q4 N A f part x (l, false) N.length
def vW3 (N : List (List Int)) (A f : List Int) (part : Int) (x : Nat) : Nat → (Nat → Nat) → Nat → Nat
  | 0, l => l
  | m + 1, l => if (rnd3 N A f part x l).2 = true then vW3 N A f part x m (rnd3 N A f part x l).1 else (rnd3 N A f part x l).1
def vF3 (N : List (List Int)) (A f : List Int) (part : Int) : Nat → Nat := vW3 N A f part (reachN N) (N.length + 1) id
section
variable {P : Int} {A : List Int} {N S : List (List Int)} (g : GoodM P A N S) {f : List Int} {part : Int} {x : Nat}
include g
theorem GoodM.q1_run {s a : Nat} (hs : s < N.length) (ha : a < A.length) {p : St} (r : OwnP N.length p.1) : Run3 N.length p (q1 N A f part s a p) := by
  unfold q1
  cases qaF A f part a with
  | true => exact stepR_run r hs (g.nx_lt hs ha).2.2
  | false => exact Run3.refl r
theorem GoodM.q2_more {s a : Nat} (hs : s < N.length) (ha : a < A.length) {p : St} (r : OwnP N.length p.1) (t : Nat) : ∀ d, t + d ≤ N.length → OwnP N.length (q2 N x s a p t).1 → Run3 N.length (q2 N x s a p t) (q2 N x s a p (t + d))
  | 0, _, h => Run3.refl h
  | d + 1, ht, h => by
    have ih := GoodM.q2_more hs ha r t d (by omega) h
    refine ih.trans ?_
    show Run3 N.length (q2 N x s a p (t + d)) (q2 N x s a p (t + d + 1))
    rw [q2]
    split
    · exact stepR_run ih.own (g.nx_lt hs ha).2.2 (g.nx_lt (show t + d < N.length by omega) ha).2.2
    · exact Run3.refl ih.own
theorem GoodM.q2_run {s a : Nat} (hs : s < N.length) (ha : a < A.length) {p : St} (r : OwnP N.length p.1) {t : Nat} (ht : t ≤ N.length) : Run3 N.length p (q2 N x s a p t) := by
  have := g.q2_more (x := x) hs ha r 0 t (by omega) r
  rwa [Nat.zero_add] at this
theorem GoodM.q3_more {s : Nat} (hs : s < N.length) {p : St} (a : Nat) : ∀ d, a + d ≤ A.length → OwnP N.length (q3 N A f part x s p a).1 → Run3 N.length (q3 N A f part x s p a) (q3 N A f part x s p (a + d))
  | 0, _, h => Run3.refl h
  | d + 1, ha, h => by
    have ih := GoodM.q3_more hs a d (by omega) h (p := p)
    have h1 := g.q1_run (f := f) (part := part) hs (show a + d < A.length by omega) ih.own
    exact ih.trans (h1.trans (g.q2_run hs (show a + d < A.length by omega) h1.own (Nat.le_refl _)))
theorem GoodM.q3_run {s : Nat} (hs : s < N.length) {p : St} (r : OwnP N.length p.1) {a : Nat} (ha : a ≤ A.length) : Run3 N.length p (q3 N A f part x s p a) := by
  have := g.q3_more (f := f) (part := part) (x := x) hs (p := p) 0 a (by omega) r
  rwa [Nat.zero_add] at this
theorem GoodM.q4_more {p : St} (s : Nat) : ∀ d, s + d ≤ N.length → OwnP N.length (q4 N A f part x p s).1 → Run3 N.length (q4 N A f part x p s) (q4 N A f part x p (s + d))
  | 0, _, h => Run3.refl h
  | d + 1, hs, h => by
    have ih := GoodM.q4_more s d (by omega) h (p := p)
    refine ih.trans ?_
    show Run3 N.length (q4 N A f part x p (s + d)) (q4 N A f part x p (s + d + 1))
    rw [q4]
    split
    · exact g.q3_run (show s + d < N.length by omega) ih.own (Nat.le_refl _)
    · exact Run3.refl ih.own
theorem GoodM.q4_run {p : St} (r : OwnP N.length p.1) {s : Nat} (hs : s ≤ N.length) : Run3 N.length p (q4 N A f part x p s) := by
  have := g.q4_more (f := f) (part := part) (x := x) (p := p) 0 s (by omega) r
  rwa [Nat.zero_add] at this
/-- A round in which nothing turned has looked at all. -/
theorem GoodM.rnd3_still {l : Nat → Nat} (r : OwnP N.length l) (hf : (rnd3 N A f part x l).2 = false) : (rnd3 N A f part x l).1 = l ∧
    (∀ s a, x.testBit s = true → s < N.length → a < A.length → qaF A f part a = true → l s = l (nx N s a)) ∧
    (∀ s t a, x.testBit s = true → s < N.length → x.testBit t = true → t < N.length → l s = l t → a < A.length → l (nx N s a) = l (nx N t a)) := by
  have R := g.q4_run (f := f) (part := part) (x := x) (p := (l, false)) r (Nat.le_refl _)
  refine ⟨(R.still hf).2, ?_⟩
  have at3 : ∀ s, x.testBit s = true → s < N.length → (q4 N A f part x (l, false) s).1 = l ∧ OwnP N.length (q4 N A f part x (l, false) s).1 ∧ (q3 N A f part x s (q4 N A f part x (l, false) s) A.length).2 = false := fun s hb hs => by
    have R0 := g.q4_run (f := f) (part := part) (x := x) (p := (l, false)) r (show s ≤ N.length by omega)
    have R1 := g.q4_run (f := f) (part := part) (x := x) (p := (l, false)) r (show s + 1 ≤ N.length by omega)
    have R2 := g.q4_more (f := f) (part := part) (x := x) (p := (l, false)) (s + 1) (N.length - (s + 1)) (by omega) R1.own
    rw [show s + 1 + (N.length - (s + 1)) = N.length by omega] at R2
    have h1 := (R2.still hf).1
    have e : q4 N A f part x (l, false) (s + 1) = q3 N A f part x s (q4 N A f part x (l, false) s) A.length := by rw [q4, if_pos hb]
    rw [e] at h1
    have h2 := ((g.q3_run (f := f) (part := part) (x := x) hs R0.own (Nat.le_refl _)).still h1).1
    exact ⟨(R0.still h2).2, R0.own, h1⟩
  have at2 : ∀ s a, x.testBit s = true → s < N.length → a < A.length → ∃ p : St, p.1 = l ∧ OwnP N.length p.1 ∧ (q1 N A f part s a p).2 = false ∧ (q1 N A f part s a p).1 = l ∧ (q2 N x s a (q1 N A f part s a p) N.length).2 = false := fun s a hb hs ha => by
    obtain ⟨h1, h2, h3⟩ := at3 s hb hs
    have R0 := g.q3_run (f := f) (part := part) (x := x) hs h2 (show a ≤ A.length by omega)
    have R1 := g.q3_run (f := f) (part := part) (x := x) hs h2 (show a + 1 ≤ A.length by omega)
    have R2 := g.q3_more (f := f) (part := part) (x := x) hs (p := q4 N A f part x (l, false) s) (a + 1) (A.length - (a + 1)) (by omega) R1.own
    rw [show a + 1 + (A.length - (a + 1)) = A.length by omega] at R2
    have h4 := (R2.still h3).1
    have h4 : (q2 N x s a (q1 N A f part s a (q3 N A f part x s (q4 N A f part x (l, false) s) a)) N.length).2 = false := h4
    have Q1 := g.q1_run (f := f) (part := part) hs ha R0.own
    have h5 := ((g.q2_run (x := x) hs ha Q1.own (Nat.le_refl _)).still h4).1
    have h6 := Q1.still h5
    have h7 := R0.still h6.1
    exact ⟨_, h7.2.trans h1, R0.own, h5, h6.2.trans (h7.2.trans h1), h4⟩
  refine ⟨fun s a hb hs ha hq => ?_, fun s t a hb hs hb2 ht he ha => ?_⟩
  · obtain ⟨p, hp, hr, h1, h2, h3⟩ := at2 s a hb hs ha
    unfold q1 at h1
    rw [hq] at h1
    have := stepR_still h1
    rwa [hp] at this
  · obtain ⟨p, hp, hr, h1, h2, h3⟩ := at2 s a hb hs ha
    have ho : OwnP N.length (q1 N A f part s a p).1 := by rw [h2]; exact r
    have R0 := g.q2_run (x := x) hs ha ho (show t ≤ N.length by omega)
    have R1 := g.q2_run (x := x) hs ha ho (show t + 1 ≤ N.length by omega)
    have R2 := g.q2_more (x := x) hs ha ho (t + 1) (N.length - (t + 1)) (by omega) R1.own
    rw [show t + 1 + (N.length - (t + 1)) = N.length by omega] at R2
    have h4 := (R2.still h3).1
    have R3 := g.q2_more (x := x) hs ha ho t 1 (by omega) R0.own
    have h5 := R3.still h4
    have h6 := R0.still h5.1
    have e0 : (q2 N x s a (q1 N A f part s a p) t).1 = l := h6.2.trans h2
    rw [q2, if_pos ⟨hb2, by rw [e0]; exact he.symm⟩] at h4
    have := stepR_still h4
    rwa [e0] at this
theorem GoodM.round3 {l F : Nat → Nat} (r : OwnP N.length l) {m : Nat} (hr : repN l N.length < m) (hv : vW3 N A f part x m l = F) :
    OwnP N.length (rnd3 N A f part x l).1 ∧ (((rnd3 N A f part x l).2 = true ∧ repN (rnd3 N A f part x l).1 N.length < m - 1 ∧ vW3 N A f part x (m - 1) (rnd3 N A f part x l).1 = F) ∨ ((rnd3 N A f part x l).2 = false ∧ (rnd3 N A f part x l).1 = F)) := by
  have R := g.q4_run (f := f) (part := part) (x := x) (p := (l, false)) r (Nat.le_refl _)
  refine ⟨R.own, ?_⟩
  cases m with
  | zero => omega
  | succ m =>
    rw [vW3] at hv
    cases hb : (rnd3 N A f part x l).2 with
    | true =>
      rw [if_pos hb] at hv
      refine .inl ⟨rfl, ?_, hv⟩
      rcases R.up hb with h | h
      · cases h
      · have h : repN (rnd3 N A f part x l).1 N.length < repN l N.length := h
        omega
    | false =>
      rw [if_neg (by rw [hb]; decide)] at hv
      exact .inr ⟨rfl, hv⟩
theorem GoodM.vW3_end : ∀ {m : Nat} {l : Nat → Nat}, OwnP N.length l → repN l N.length < m → OwnP N.length (vW3 N A f part x m l) ∧ (rnd3 N A f part x (vW3 N A f part x m l)).2 = false
  | 0, l, _, h => by omega
  | m + 1, l, r, h => by
    have R := g.round3 (f := f) (part := part) (x := x) r h (m := m + 1) (F := vW3 N A f part x (m + 1) l) rfl
    rcases R.2 with ⟨h1, h2, h3⟩ | ⟨h1, h2⟩
    · have ih := GoodM.vW3_end (m := m) R.1 (by omega)
      have h3 : vW3 N A f part x m (rnd3 N A f part x l).1 = vW3 N A f part x (m + 1) l := h3
      rwa [h3] at ih
    · have hs := (g.rnd3_still r h1).1
      rw [← h2, hs]
      exact ⟨r, h1⟩
theorem GoodM.q1_inv {c : Nat → Int} {s a : Nat} (hs : s < N.length) (ha : a < A.length) (hq : qaF A f part a = true → c s = c (nx N s a)) {p : St} (hc : ∀ k, k < N.length → c (p.1 k) = c k) : ∀ k, k < N.length → c ((q1 N A f part s a p).1 k) = c k := by
  unfold q1
  cases h : qaF A f part a with
  | true => exact renR_inv hs (g.nx_lt hs ha).2.2 hc (hq h)
  | false => exact hc
theorem GoodM.q2_inv {c : Nat → Int} {s a : Nat} (hs : s < N.length) (ha : a < A.length) (h2 : ∀ t, x.testBit t = true → t < N.length → c s = c t → c (nx N s a) = c (nx N t a)) {p : St} (hc : ∀ k, k < N.length → c (p.1 k) = c k) : ∀ t, t ≤ N.length → ∀ k, k < N.length → c ((q2 N x s a p t).1 k) = c k
  | 0, _ => hc
  | t + 1, ht => by
    have ih := GoodM.q2_inv hs ha h2 hc t (by omega)
    unfold q2
    split
    · rename_i h
      refine renR_inv (g.nx_lt hs ha).2.2 (g.nx_lt (show t < N.length by omega) ha).2.2 ih (h2 t h.1 (by omega) ?_)
      rw [← ih s hs, ← h.2, ih t (by omega)]
    · exact ih
theorem GoodM.q3_inv {c : Nat → Int} {s : Nat} (hs : s < N.length) (hq : ∀ a, a < A.length → qaF A f part a = true → c s = c (nx N s a)) (h2 : ∀ t, x.testBit t = true → t < N.length → c s = c t → ∀ a, a < A.length → c (nx N s a) = c (nx N t a)) {p : St} (hc : ∀ k, k < N.length → c (p.1 k) = c k) : ∀ a, a ≤ A.length → ∀ k, k < N.length → c ((q3 N A f part x s p a).1 k) = c k
  | 0, _ => hc
  | a + 1, ha => g.q2_inv hs (by omega) (fun t h ht he => h2 t h ht he a (by omega)) (g.q1_inv hs (by omega) (hq a (by omega)) (GoodM.q3_inv hs hq h2 hc a (by omega))) N.length (Nat.le_refl _)
theorem GoodM.q4_inv {c : Nat → Int} (hq : ∀ s a, x.testBit s = true → s < N.length → a < A.length → qaF A f part a = true → c s = c (nx N s a)) (h2 : ∀ s t, x.testBit s = true → s < N.length → x.testBit t = true → t < N.length → c s = c t → ∀ a, a < A.length → c (nx N s a) = c (nx N t a)) {p : St} (hc : ∀ k, k < N.length → c (p.1 k) = c k) : ∀ s, s ≤ N.length → ∀ k, k < N.length → c ((q4 N A f part x p s).1 k) = c k
  | 0, _ => hc
  | s + 1, hs => by
    have ih := GoodM.q4_inv hq h2 hc s (by omega)
    unfold q4
    split
    · rename_i h
      exact g.q3_inv (show s < N.length by omega) (fun a => hq s a h (by omega)) (fun t => h2 s t h (by omega)) ih A.length (Nat.le_refl _)
    · exact ih
theorem GoodM.vW3_inv {c : Nat → Int} (hq : ∀ s a, x.testBit s = true → s < N.length → a < A.length → qaF A f part a = true → c s = c (nx N s a)) (h2 : ∀ s t, x.testBit s = true → s < N.length → x.testBit t = true → t < N.length → c s = c t → ∀ a, a < A.length → c (nx N s a) = c (nx N t a)) : ∀ {m : Nat} {l : Nat → Nat}, (∀ k, k < N.length → c (l k) = c k) → ∀ k, k < N.length → c (vW3 N A f part x m l k) = c k
  | 0, l, hc => hc
  | m + 1, l, hc => by
    have h1 := g.q4_inv hq h2 (p := (l, false)) hc N.length (Nat.le_refl _)
    unfold vW3
    split
    · exact GoodM.vW3_inv hq h2 h1
    · exact h1
theorem GoodM.vF3_least (f : List Int) (part : Int) : LeastV A N f part (vF3 N A f part) := by
  have hrl := g.reach_lt
  have hE := g.vW3_end (f := f) (part := part) (x := reachN N) (m := N.length + 1) (own_id N.length) (Nat.lt_succ_of_le (repN_le _ _))
  have hst := g.rnd3_still hE.1 hE.2
  refine ⟨fun s a hs ha hq => hst.2.1 s a hs (bit_lt hrl hs) ha hq, fun s t hs ht he a ha => hst.2.2 s t a hs (bit_lt hrl hs) ht (bit_lt hrl ht) he ha, fun c h1 h2 s t hs ht he => ?_⟩
  have hi := g.vW3_inv (f := f) (part := part) (x := reachN N) (c := c) (fun s a hr hs ha hq => h1 s a hr ha hq) (fun s t hr hs hr2 ht he a ha => h2 s t hr hr2 he a ha) (m := N.length + 1) (l := id) (fun _ _ => rfl)
  have e1 : c (vF3 N A f part s) = c s := hi s hs
  have e2 : c (vF3 N A f part t) = c t := hi t ht
  rw [← e1, he, e2]
/-- Both have in one the same. -/
theorem GoodM.least_same (f : List Int) (part : Int) {s t : Nat} (hs : s < N.length) (ht : t < N.length) : vF N A f part s = vF N A f part t ↔ vF3 N A f part s = vF3 N A f part t := by
  have a := g.vF_least f part
  have b := g.vF3_least f part
  constructor
  · intro h
    have := a.least (fun k => ((vF3 N A f part k : Nat) : Int)) (fun s x hr hx hq => by have := b.quiet s x hr hx hq; omega) (fun s t hr hr2 he x hx => by have := b.both s t hr hr2 (by omega) x hx; omega) s t hs ht h
    omega
  · intro h
    have := b.least (fun k => ((vF N A f part k : Nat) : Int)) (fun s x hr hx hq => by have := a.quiet s x hr hx hq; omega) (fun s t hr hr2 he x hx => by have := a.both s t hr hr2 (by omega) x hx; omega) s t hs ht h
    omega
end
/-- The numbers hang on who is alike alone. -/
theorem qV_mem {ρ : Nat → Nat} {x : Nat} {y : Int} : ∀ {i}, y ∈ qV ρ x i ↔ ∃ t, t < i ∧ x.testBit t = true ∧ y = ((ρ t : Nat) : Int)
  | 0 => by simp [qV]
  | i + 1 => by
    rw [qV]
    have ih := qV_mem (ρ := ρ) (x := x) (y := y) (i := i)
    split
    · rename_i h
      rw [qAdd_mem, ih]
      constructor
      · rintro (⟨t, h1, h2, h3⟩ | h1)
        · exact ⟨t, by omega, h2, h3⟩
        · exact ⟨i, by omega, h, h1⟩
      · rintro ⟨t, h1, h2, h3⟩
        by_cases he : t = i
        · subst he; exact .inr h3
        · exact .inl ⟨t, by omega, h2, h3⟩
    · rename_i h
      rw [ih]
      constructor
      · rintro ⟨t, h1, h2, h3⟩; exact ⟨t, by omega, h2, h3⟩
      · rintro ⟨t, h1, h2, h3⟩
        by_cases he : t = i
        · subst he; exact absurd h2 h
        · exact ⟨t, by omega, h2, h3⟩
theorem num_new {ρ : Nat → Nat} {x s : Nat} (hb : x.testBit s = true) (h : ∀ t, t < s → x.testBit t = true → ρ t ≠ ρ s) : numV ρ x s = ((qV ρ x s).length : Int) ∧ (qV ρ x (s + 1)).length = (qV ρ x s).length + 1 := by
  have hm : ((ρ s : Nat) : Int) ∉ qV ρ x s := fun hm => by
    obtain ⟨t, h1, h2, h3⟩ := qV_mem.1 hm
    exact h t h1 h2 (by omega)
  have hn : idxK .int ((ρ s : Nat) : Int) (qV ρ x s) 0 = none := by
    cases hi : idxK .int ((ρ s : Nat) : Int) (qV ρ x s) 0 with
    | none => rfl
    | some k => exact absurd ((idx_int _ _ 0).1 (by rw [hi]; rfl)) hm
  refine ⟨by rw [numV, if_pos hb, qIdx, hn]; rfl, ?_⟩
  rw [qV_yes hb, qAdd, if_neg (by rw [hn]; decide), List.length_append]
  rfl
theorem num_old {ρ : Nat → Nat} {x s t : Nat} (hb : x.testBit s = true) (hbt : x.testBit t = true) (hts : t < s) (h : ρ t = ρ s) : numV ρ x s = numV ρ x t ∧ (qV ρ x (s + 1)).length = (qV ρ x s).length := by
  refine ⟨((num_iff (show s < s + 1 by omega) (show t < s + 1 by omega) hb hbt).2 h.symm), ?_⟩
  have hm : ((ρ s : Nat) : Int) ∈ qV ρ x s := qV_mem.2 ⟨t, hts, hbt, by rw [h]⟩
  rcases qAdd_or ((ρ s : Nat) : Int) (qV ρ x s) with ⟨h1, _⟩ | ⟨_, h2⟩
  · rw [qV_yes hb, h1]
  · exact absurd hm h2
theorem num_same {ρ τ : Nat → Nat} {x n : Nat} (h : ∀ s t, s < n → t < n → (ρ s = ρ t ↔ τ s = τ t)) : ∀ s, s ≤ n → (qV ρ x s).length = (qV τ x s).length ∧ ∀ k, k < s → numV ρ x k = numV τ x k
  | 0, _ => ⟨rfl, fun k hk => absurd hk (by omega)⟩
  | s + 1, hs => by
    obtain ⟨h1, h2⟩ := num_same h s (by omega)
    cases hb : x.testBit s with
    | false =>
      refine ⟨by rw [qV_no hb, qV_no hb, h1], fun k hk => ?_⟩
      by_cases he : k = s
      · rw [he, ← numV_no hb, ← numV_no hb]
      · exact h2 k (by omega)
    | true =>
      by_cases hex : ∃ t, t < s ∧ x.testBit t = true ∧ ρ t = ρ s
      · obtain ⟨t, ht, hbt, e⟩ := hex
        have a := num_old hb hbt ht e
        have b := num_old hb hbt ht ((h t s (by omega) (by omega)).1 e)
        refine ⟨by rw [a.2, b.2, h1], fun k hk => ?_⟩
        by_cases he : k = s
        · rw [he, a.1, b.1, h2 t ht]
        · exact h2 k (by omega)
      · have a := num_new hb fun t ht hbt e => hex ⟨t, ht, hbt, e⟩
        have b := num_new (ρ := τ) hb fun t ht hbt e => hex ⟨t, ht, hbt, (h t s (by omega) (by omega)).2 e⟩
        refine ⟨by rw [a.2, b.2, h1], fun k hk => ?_⟩
        by_cases he : k = s
        · rw [he, a.1, b.1, h1]
        · exact h2 k (by omega)
theorem outV_same {ρ τ : Nat → Nat} {x n : Nat} (h : ∀ s t, s < n → t < n → (ρ s = ρ t ↔ τ s = τ t)) : outV ρ x n n = outV τ x n n := by
  unfold outV
  refine List.map_congr_left fun k hk => ?_
  have hk := List.mem_range.1 hk
  rw [if_pos hk, if_pos hk]
  exact (num_same h n (Nat.le_refl _)).2 k hk
/-! ### The document's numbers -/
def candV (l : Nat → Nat) (x s : Nat) : Nat → Int
  | 0 => -1
  | t + 1 => if 0 ≤ numV l x t ∧ l t = l s then numV l x t else candV l x s t
theorem num_bit {l : Nat → Nat} {x t : Nat} : 0 ≤ numV l x t ↔ x.testBit t = true := by
  cases h : x.testBit t with
  | false => rw [← numV_no h]; simp
  | true => exact ⟨fun _ => rfl, fun _ => (num_at (n := t + 1) (by omega) h).1⟩
theorem cand_or (l : Nat → Nat) (x s : Nat) : ∀ t, (candV l x s t = -1 ∧ ∀ k, k < t → ¬(x.testBit k = true ∧ l k = l s)) ∨ ∃ k, k < t ∧ x.testBit k = true ∧ l k = l s ∧ candV l x s t = numV l x k
  | 0 => .inl ⟨rfl, fun k hk => by omega⟩
  | t + 1 => by
    rw [candV]
    by_cases h : 0 ≤ numV l x t ∧ l t = l s
    · rw [if_pos h]
      exact .inr ⟨t, by omega, num_bit.1 h.1, h.2, rfl⟩
    · rw [if_neg h]
      rcases cand_or l x s t with ⟨h1, h2⟩ | ⟨k, h1, h2, h3, h4⟩
      · refine .inl ⟨h1, fun k hk hh => ?_⟩
        by_cases he : k = t
        · subst he; exact h ⟨num_bit.2 hh.1, hh.2⟩
        · exact h2 k (by omega) hh
      · exact .inr ⟨k, by omega, h2, h3, h4⟩
theorem cand_new {l : Nat → Nat} {x s : Nat} (hb : x.testBit s = true) (h : candV l x s s < 0) : ((qV l x s).length : Int) = numV l x s ∧ (qV l x (s + 1)).length = (qV l x s).length + 1 := by
  rcases cand_or l x s s with ⟨h1, h2⟩ | ⟨k, h1, h2, h3, h4⟩
  · have := num_new hb fun t ht hbt e => h2 t ht ⟨hbt, e⟩
    exact ⟨this.1.symm, this.2⟩
  · have := (num_bit (l := l)).2 h2
    omega
theorem cand_old {l : Nat → Nat} {x s : Nat} (hb : x.testBit s = true) (h : ¬candV l x s s < 0) : candV l x s s = numV l x s ∧ (qV l x (s + 1)).length = (qV l x s).length := by
  rcases cand_or l x s s with ⟨h1, h2⟩ | ⟨k, h1, h2, h3, h4⟩
  · omega
  · have := num_old hb h2 h1 h3
    exact ⟨by rw [h4, this.1], this.2⟩
def candL (n : Nat) (l : Nat → Nat) (x s t : Nat) : List Int := (outV l x n s).set s (candV l x s t)
theorem candL_len (n : Nat) (l : Nat → Nat) (x s t : Nat) : (candL n l x s t).length = n := by simp [candL, outV_len]
theorem candL_get {n : Nat} {l : Nat → Nat} {x s t k : Nat} (h : k < s) (hs : s < n) : (candL n l x s t).getD k 0 = numV l x k := by
  unfold candL
  rw [List.getD, List.getElem?_set]
  rw [if_neg (by omega)]
  simp [outV, show k < n by omega, h]
theorem candL_own {n : Nat} {l : Nat → Nat} {x s t : Nat} (hs : s < n) : (candL n l x s t).getD s 0 = candV l x s t := by
  unfold candL
  rw [List.getD, List.getElem?_set, if_pos rfl, if_pos (by rw [outV_len]; exact hs)]
  rfl
theorem candL_yes {n : Nat} {l : Nat → Nat} {x s t : Nat} (hs : s < n) (h : 0 ≤ numV l x t ∧ l t = l s) : (candL n l x s t).set s (numV l x t) = candL n l x s (t + 1) := by
  unfold candL
  rw [List.set_set, candV, if_pos h]
theorem candL_no {n : Nat} {l : Nat → Nat} {x s t : Nat} (h : ¬(0 ≤ numV l x t ∧ l t = l s)) : candL n l x s t = candL n l x s (t + 1) := by
  unfold candL
  rw [candV, if_neg h]
theorem candL_new {n : Nat} {l : Nat → Nat} {x s : Nat} (hs : s < n) (hb : x.testBit s = true) (h : candV l x s s < 0) : (candL n l x s s).set s ((qV l x s).length : Int) = outV l x n (s + 1) := by
  unfold candL
  rw [List.set_set]
  exact outV_set hs (cand_new hb h).1
theorem candL_old {n : Nat} {l : Nat → Nat} {x s : Nat} (hs : s < n) (hb : x.testBit s = true) (h : ¬candV l x s s < 0) : candL n l x s s = outV l x n (s + 1) := by
  unfold candL
  exact outV_set hs (cand_old hb h).1
theorem candL_none {n : Nat} {l : Nat → Nat} {x s : Nat} (hs : s < n) (hb : x.testBit s = false) : (outV l x n s).set s (-1) = outV l x n (s + 1) := outV_set hs (numV_no hb)


theorem lab_app (i : Nat) : labL i id ++ [(i : Int)] = labL (i + 1) id := by simp [labL, List.range_succ]

theorem each3_fn (z : Int) (hz : 0 ≤ z ∧ z ≤ 1000000) : LiftsN Tryd.prog 75 [.i z] (.row 3 .int (labL z.toNat id)) := by
  refine LiftsN.of_body 15 [.tmp 2] Tryd.func75 rfl Tryd.ntmps75 (by kernel_rfl) rfl rfl fun w0 X0 => ?_
  refine AWPD.seq fun K1 hK1 => ?_
  -- region 0
  refine AWPD.keep [0] rfl ?_
  refine AWPD.region tabOK rfl ?_
  refine hK1 _ _ ?_
  clear hK1
  refine AWPD.seq fun K2 hK2 => ?_
  -- region 1
  refine AWPD.keep [0] rfl ?_
  refine AWPD.region tabOK rfl ?_
  refine hK2 _ _ ?_
  clear hK2
  refine AWPD.seq fun K3 hK3 => ?_
  refine AWPD.seq fun K4 hK4 => ?_
  -- region 2
  refine AWPD.keep [0, 3] rfl ?_
  refine AWPD.region tabOK rfl ?_
  refine hK4 _ _ ?_
  clear hK4
  refine AWPD.block ?_
  -- LOOP 0 live [0, 3, 4] changed [3, 4]
  refine AWPD.nilRow 3 3 .int rfl (by decide) ?_
  refine AWPD.loopK (σ := Nat) [0] (fun i base => (3, .ob 0) :: (4, .i (i : Int)) :: base) (fun i => [.row 3 .int (labL i id)]) (fun n i => n + i = z.toNat) (z.toNat) 0 [0] rfl rfl (by omega) (by decide) ⟨⟨rfl, rfl, rfl⟩, trivial⟩ (by repeat' first | exact True.intro | exact rfl | exact ⟨rfl, rfl⟩ | refine And.intro ?_ ?_) fun n0 i hI0 => ?_
  have hn0 := hI0
  have hll := labL_len i id
  refine AWPD.seq fun K5 hK5 => ?_
  refine AWPD.seq fun K6 hK6 => ?_
  -- region 3
  refine AWPD.keep [0, 3, 4] rfl ?_
  refine AWPD.region tabOK rfl ?_
  refine hK6 _ _ ?_
  clear hK6
  first | refine AWPD.condP rfl (fun h0 => ?_) (fun h0 => ?_) | refine AWPD.condN rfl (fun h0 => ?_) (fun h0 => ?_) | refine AWPD.condAP rfl (fun h0 => ?_) (fun h0 => ?_) | refine AWPD.condOP rfl (fun h0 => ?_) (fun h0 => ?_) | refine AWPD.condONN rfl (fun h0 => ?_) (fun h0 => ?_) | refine AWPD.condOPN rfl (fun h0 => ?_) (fun h0 => ?_) | refine AWPD.condA rfl (fun h0 => ?_) (fun h0 => ?_) | refine AWPD.condO rfl (fun h0 => ?_) (fun h0 => ?_) | refine AWPD.cond rfl (fun h0 => ?_) (fun h0 => ?_)
  · try dsimp only [Ty.T] at h0
    try simp only [castL_self] at h0
    try simp only [Int.toNat_natCast] at h0
    try simp only [Int.toNat_zero] at h0
    refine AWPD.skip ?_
    refine hK5 _ _ ?_
    clear hK5
    refine AWPD.seq fun K7 hK7 => ?_
    refine AWPD.block ?_
    -- region 5
    refine AWPD.keep [0, 3, 4] rfl ?_
    refine AWPD.region tabOK rfl ?_
    repeat refine And.intro (by first | exact fun h => h | exact fun _ => rfl | (intro h; rw [h]; rfl) | omega | (intros; (try dsimp only [Ty.T, Ty.size]); (try simp only [castL_self, Int.toNat_natCast, Int.toNat_zero, Int.toNat_one, true_and, List.length_append, List.length_set, List.length_drop, List.length_take, List.length_replicate, List.length_cons, List.length_nil, Nat.zero_add, Nat.mul_one]); omega) | decide | (intros; simp_all; done) | (intros; simp_all; omega)) ?_
    refine hK7 _ _ ?_
    clear hK7
    -- region 4
    refine AWPD.keep [0, 3, 4] rfl ?_
    refine AWPD.region tabOK rfl ?_
    repeat refine And.intro (by first | exact fun h => h | exact fun _ => rfl | (intro h; rw [h]; rfl) | omega | (intros; (try dsimp only [Ty.T, Ty.size]); (try simp only [castL_self, Int.toNat_natCast, Int.toNat_zero, Int.toNat_one, true_and, List.length_append, List.length_set, List.length_drop, List.length_take, List.length_replicate, List.length_cons, List.length_nil, Nat.zero_add, Nat.mul_one]); omega) | decide | (intros; simp_all; done) | (intros; simp_all; omega)) ?_
    refine ⟨n0 - 1, i + 1, [1], by omega, by omega, ⟨by decide, rfl⟩, ⟨⟨rfl, rfl, lab_app i⟩, trivial⟩, ?_⟩
    repeat' first | exact True.intro | exact rfl | exact ⟨rfl, rfl⟩ | refine And.intro ?_ ?_
  · try dsimp only [Ty.T] at h0
    try simp only [castL_self] at h0
    try simp only [Int.toNat_natCast] at h0
    try simp only [Int.toNat_zero] at h0
    refine AWPD.exit ?_
    refine hK3 _ _ ?_
    clear hK3
    refine AWPD.seq fun K8 hK8 => ?_
    -- region 6
    refine AWPD.keep [3] rfl ?_
    refine AWPD.region tabOK rfl ?_
    refine hK8 _ _ ?_
    clear hK8
    refine AWPD.ret (And.intro (.inl rfl) ?_)
    -- result 0
    have e : i = z.toNat := by omega
    exact ⟨_, 0, rfl, rfl, by show some (OD.row _ Ty.int (labL i id)) = some (OD.row _ Ty.int (labL z.toNat id)); rw [e], row_free _ _ _⟩
theorem join3_fn (nn : Nat) (l : Nat → Nat) (s t : Int) (hn : nn ≤ 1000000) (hs : 0 ≤ s ∧ s.toNat < nn) (ht : 0 ≤ t ∧ t.toNat < nn) : LiftsO Tryd.prog 76 [.ob 0, .i s, .i t] (.row 3 .int (labL nn l)) (.b (decide (l s.toNat ≠ l t.toNat))) (.row 3 .int (labL nn (renR l s.toNat t.toNat))) := by
  have hll := labL_len nn l
  have hls := labL_get (l := l) hs.2
  have hlt := labL_get (l := l) ht.2
  refine LiftsO.of_body 37 [.tmp 6] Tryd.func76 rfl Tryd.ntmps76 (by kernel_rfl) rfl rfl fun w0 X0 F0 x0 => ?_
  refine AWPD.seq fun K1 hK1 => ?_
  -- region 0
  refine AWPD.keep [0, 1, 2] rfl ?_
  refine AWPD.region tabOK rfl ?_
  refine hK1 _ _ ?_
  clear hK1
  refine AWPD.seq fun K2 hK2 => ?_
  -- region 1
  refine AWPD.keep [0, 1, 2] rfl ?_
  refine AWPD.region tabOK rfl ?_
  repeat refine And.intro (by first | exact fun h => h | exact fun _ => rfl | (intro h; rw [h]; rfl) | omega | (intros; (try dsimp only [Ty.T, Ty.size]); (try simp only [castL_self, Int.toNat_natCast, Int.toNat_zero, Int.toNat_one, true_and, List.length_append, List.length_set, List.length_drop, List.length_take, List.length_replicate, List.length_cons, List.length_nil, Nat.zero_add, Nat.mul_one]); omega) | decide | (intros; simp_all; done) | (intros; simp_all; omega)) ?_
  refine hK2 _ _ ?_
  clear hK2
  refine AWPD.seq fun K3 hK3 => ?_
  -- region 2
  refine AWPD.keep [0, 2, 7] rfl ?_
  refine AWPD.region tabOK rfl ?_
  repeat refine And.intro (by first | exact fun h => h | exact fun _ => rfl | (intro h; rw [h]; rfl) | omega | (intros; (try dsimp only [Ty.T, Ty.size]); (try simp only [castL_self, Int.toNat_natCast, Int.toNat_zero, Int.toNat_one, true_and, List.length_append, List.length_set, List.length_drop, List.length_take, List.length_replicate, List.length_cons, List.length_nil, Nat.zero_add, Nat.mul_one]); omega) | decide | (intros; simp_all; done) | (intros; simp_all; omega)) ?_
  refine hK3 _ _ ?_
  clear hK3
  refine AWPD.seq fun K4 hK4 => ?_
  refine AWPD.seq fun K5 hK5 => ?_
  -- region 3
  refine AWPD.keep [0, 7, 8] rfl ?_
  refine AWPD.region tabOK rfl ?_
  refine hK5 _ _ ?_
  clear hK5
  refine AWPD.block ?_
  -- LOOP 0 live [0, 7, 8, 9] changed [9]
  refine AWPD.loopK (σ := Nat) [] (fun i base => (0, .ob 0) :: (7, .i ((l s.toNat : Nat) : Int)) :: (8, .i ((l t.toNat : Nat) : Int)) :: (9, .i (i : Int)) :: base) (fun i => [.row 3 .int (mixL nn l s.toNat t.toNat i)]) (fun n i => n + i = nn) (nn) 0 [0] rfl rfl (by omega) (by decide) ⟨⟨rfl, rfl, mixL_zero _ _ _ _⟩, trivial⟩ (by repeat' first | exact hls | exact hlt | exact True.intro | exact rfl | exact ⟨rfl, rfl⟩ | refine And.intro ?_ ?_) fun n0 i hI0 => ?_
  have hn0 := hI0
  have hml := mixL_len nn l s.toNat t.toNat i
  refine AWPD.seq fun K6 hK6 => ?_
  refine AWPD.seq fun K7 hK7 => ?_
  -- region 4
  refine AWPD.keep [0, 7, 8, 9] rfl ?_
  refine AWPD.region tabOK rfl ?_
  refine hK7 _ _ ?_
  clear hK7
  first | refine AWPD.condP rfl (fun h0 => ?_) (fun h0 => ?_) | refine AWPD.condN rfl (fun h0 => ?_) (fun h0 => ?_) | refine AWPD.condAP rfl (fun h0 => ?_) (fun h0 => ?_) | refine AWPD.condOP rfl (fun h0 => ?_) (fun h0 => ?_) | refine AWPD.condONN rfl (fun h0 => ?_) (fun h0 => ?_) | refine AWPD.condOPN rfl (fun h0 => ?_) (fun h0 => ?_) | refine AWPD.condA rfl (fun h0 => ?_) (fun h0 => ?_) | refine AWPD.condO rfl (fun h0 => ?_) (fun h0 => ?_) | refine AWPD.cond rfl (fun h0 => ?_) (fun h0 => ?_)
  · try dsimp only [Ty.T] at h0
    try simp only [castL_self] at h0
    try simp only [Int.toNat_natCast] at h0
    try simp only [Int.toNat_zero] at h0
    have hil : i < nn := by omega
    have hmg := mixL_get (l := l) (s := s.toNat) (t := t.toNat) hil
    refine AWPD.skip ?_
    refine hK6 _ _ ?_
    clear hK6
    refine AWPD.seq fun K8 hK8 => ?_
    refine AWPD.block ?_
    refine AWPD.seq fun K9 hK9 => ?_
    -- region 6
    refine AWPD.keep [0, 7, 8, 9] rfl ?_
    refine AWPD.region tabOK rfl ?_
    repeat refine And.intro (by first | exact fun h => h | exact fun _ => rfl | (intro h; rw [h]; rfl) | omega | (intros; (try dsimp only [Ty.T, Ty.size]); (try simp only [castL_self, Int.toNat_natCast, Int.toNat_zero, Int.toNat_one, true_and, List.length_append, List.length_set, List.length_drop, List.length_take, List.length_replicate, List.length_cons, List.length_nil, Nat.zero_add, Nat.mul_one]); omega) | decide | (intros; simp_all; done) | (intros; simp_all; omega)) ?_
    refine hK9 _ _ ?_
    clear hK9
    first | refine AWPD.condP rfl (fun h1 => ?_) (fun h1 => ?_) | refine AWPD.condN rfl (fun h1 => ?_) (fun h1 => ?_) | refine AWPD.condAP rfl (fun h1 => ?_) (fun h1 => ?_) | refine AWPD.condOP rfl (fun h1 => ?_) (fun h1 => ?_) | refine AWPD.condONN rfl (fun h1 => ?_) (fun h1 => ?_) | refine AWPD.condOPN rfl (fun h1 => ?_) (fun h1 => ?_) | refine AWPD.condA rfl (fun h1 => ?_) (fun h1 => ?_) | refine AWPD.condO rfl (fun h1 => ?_) (fun h1 => ?_) | refine AWPD.cond rfl (fun h1 => ?_) (fun h1 => ?_)
    · try dsimp only [Ty.T] at h1
      try simp only [castL_self] at h1
      try simp only [Int.toNat_natCast] at h1
      try simp only [Int.toNat_zero] at h1
      have hq : l i = l t.toNat := by rw [hmg] at h1; omega
      -- region 7
      refine AWPD.keep [0, 7, 8, 9] rfl ?_
      refine AWPD.region tabOK rfl ?_
      repeat refine And.intro (by first | exact fun h => h | exact fun _ => rfl | (intro h; rw [h]; rfl) | omega | (intros; (try dsimp only [Ty.T, Ty.size]); (try simp only [castL_self, Int.toNat_natCast, Int.toNat_zero, Int.toNat_one, true_and, List.length_append, List.length_set, List.length_drop, List.length_take, List.length_replicate, List.length_cons, List.length_nil, Nat.zero_add, Nat.mul_one]); omega) | decide | (intros; simp_all; done) | (intros; simp_all; omega)) ?_
      refine hK8 _ _ ?_
      clear hK8
      -- region 5
      refine AWPD.keep [0, 7, 8, 9] rfl ?_
      refine AWPD.region tabOK rfl ?_
      repeat refine And.intro (by first | exact fun h => h | exact fun _ => rfl | (intro h; rw [h]; rfl) | omega | (intros; (try dsimp only [Ty.T, Ty.size]); (try simp only [castL_self, Int.toNat_natCast, Int.toNat_zero, Int.toNat_one, true_and, List.length_append, List.length_set, List.length_drop, List.length_take, List.length_replicate, List.length_cons, List.length_nil, Nat.zero_add, Nat.mul_one]); omega) | decide | (intros; simp_all; done) | (intros; simp_all; omega)) ?_
      refine ⟨n0 - 1, i + 1, [0], by omega, by omega, ⟨by decide, rfl⟩, ⟨⟨rfl, rfl, mixL_yes hil hq⟩, trivial⟩, ?_⟩
      repeat' first | exact True.intro | exact rfl | exact ⟨rfl, rfl⟩ | refine And.intro ?_ ?_
    · try dsimp only [Ty.T] at h1
      try simp only [castL_self] at h1
      try simp only [Int.toNat_natCast] at h1
      try simp only [Int.toNat_zero] at h1
      have hq : l i ≠ l t.toNat := by rw [hmg] at h1; omega
      refine AWPD.skip ?_
      refine hK8 _ _ ?_
      clear hK8
      -- region 5
      refine AWPD.keep [0, 7, 8, 9] rfl ?_
      refine AWPD.region tabOK rfl ?_
      repeat refine And.intro (by first | exact fun h => h | exact fun _ => rfl | (intro h; rw [h]; rfl) | omega | (intros; (try dsimp only [Ty.T, Ty.size]); (try simp only [castL_self, Int.toNat_natCast, Int.toNat_zero, Int.toNat_one, true_and, List.length_append, List.length_set, List.length_drop, List.length_take, List.length_replicate, List.length_cons, List.length_nil, Nat.zero_add, Nat.mul_one]); omega) | decide | (intros; simp_all; done) | (intros; simp_all; omega)) ?_
      refine ⟨n0 - 1, i + 1, [0], by omega, by omega, ⟨by decide, rfl⟩, ⟨⟨rfl, rfl, mixL_no hq⟩, trivial⟩, ?_⟩
      repeat' first | exact True.intro | exact rfl | exact ⟨rfl, rfl⟩ | refine And.intro ?_ ?_
  · try dsimp only [Ty.T] at h0
    try simp only [castL_self] at h0
    try simp only [Int.toNat_natCast] at h0
    try simp only [Int.toNat_zero] at h0
    have hil : i = nn := by omega
    refine AWPD.exit ?_
    refine hK4 _ _ ?_
    clear hK4
    refine AWPD.seq fun K10 hK10 => ?_
    -- region 8
    refine AWPD.keep [7, 8] rfl ?_
    refine AWPD.region tabOK rfl ?_
    refine hK10 _ _ ?_
    clear hK10
    refine AWPD.ret (And.intro (.inl rfl) ?_)
    -- result 0
    have hbq : decide (((l s.toNat : Nat) : Int) ≠ ((l t.toNat : Nat) : Int)) = decide (l s.toNat ≠ l t.toNat) := decide_eq_decide.2 (by omega)
    exact ⟨⟨rfl, by show fitD (DV.b (decide _)) _; rw [← hbq]; first | rfl | exact ⟨_, rfl⟩, rfl⟩, FoldO.at0 (by rw [hil, mixL_all]; rfl) (row_free _ _ _)⟩
theorem named_fn (nn x : Nat) (l : Nat → Nat) (hn : nn ≤ 1000000) (hx : x ≤ 65535) : LiftsN Tryd.prog 77 [.sl .int (labL nn l), .i (x : Int)] (.row 3 .int (outV l x nn nn)) := by
  have hll := labL_len nn l
  have hlg : ∀ k, k < nn → (labL nn l).getD k 0 = ((l k : Nat) : Int) := fun k hk => labL_get hk
  refine LiftsN.of_body 65 [.tmp 4] Tryd.func77 rfl Tryd.ntmps77 (by kernel_rfl) rfl rfl fun w0 X0 => ?_
  refine AWPD.seq fun K1 hK1 => ?_
  -- region 0
  refine AWPD.keep [0, 1] rfl ?_
  refine AWPD.region tabOK rfl ?_
  refine hK1 _ _ ?_
  clear hK1
  refine AWPD.seq fun K2 hK2 => ?_
  -- region 1
  refine AWPD.keep [0, 1] rfl ?_
  refine AWPD.region tabOK rfl ?_
  repeat refine And.intro (by first | exact fun h => h | exact fun _ => rfl | (intro h; rw [h]; rfl) | omega | (intros; (try dsimp only [Ty.T, Ty.size]); (try simp only [castL_self, Int.toNat_natCast, Int.toNat_zero, Int.toNat_one, true_and, List.length_append, List.length_set, List.length_drop, List.length_take, List.length_replicate, List.length_cons, List.length_nil, Nat.zero_add, Nat.mul_one]); omega) | decide | (intros; simp_all; done) | (intros; simp_all; omega)) ?_
  refine hK2 _ _ ?_
  clear hK2
  refine AWPD.seq fun K3 hK3 => ?_
  -- region 2
  refine AWPD.keep [0, 1, 5] rfl ?_
  refine AWPD.region tabOK rfl ?_
  refine hK3 _ _ ?_
  clear hK3
  refine AWPD.seq fun K4 hK4 => ?_
  refine AWPD.seq fun K5 hK5 => ?_
  -- region 3
  refine AWPD.keep [0, 1, 5, 6] rfl ?_
  refine AWPD.region tabOK rfl ?_
  refine hK5 _ _ ?_
  clear hK5
  refine AWPD.block ?_
  -- LOOP 0 live [0, 1, 5, 6, 7] changed [6, 7]
  
  refine AWPD.loopK (σ := Nat) [0, 1] (fun k base => (5, .ob 0) :: (6, .i ((qV l x k).length : Int)) :: (7, .i (k : Int)) :: base) (fun k => [.row 3 .int (outV l x nn k)]) (fun n k => n + k = nn) (nn) 0 [0] rfl rfl (by omega) (by decide) ⟨⟨rfl, rfl, (by show List.replicate (((labL nn l).length : Int)).toNat (0 : Int) = _; rw [hll, Int.toNat_natCast]; exact outV_zero _ _ _)⟩, trivial⟩ (by repeat' first | exact True.intro | exact rfl | exact ⟨rfl, rfl⟩ | refine And.intro ?_ ?_) fun n0 k hI0 => ?_
  have hn0 := hI0
  have hql := qV_len l x k
  have hol := outV_len l x nn k
  refine AWPD.seq fun K6 hK6 => ?_
  refine AWPD.seq fun K7 hK7 => ?_
  -- region 4
  refine AWPD.keep [0, 1, 5, 6, 7] rfl ?_
  refine AWPD.region tabOK rfl ?_
  refine hK7 _ _ ?_
  clear hK7
  first | refine AWPD.condP rfl (fun h0 => ?_) (fun h0 => ?_) | refine AWPD.condN rfl (fun h0 => ?_) (fun h0 => ?_) | refine AWPD.condAP rfl (fun h0 => ?_) (fun h0 => ?_) | refine AWPD.condOP rfl (fun h0 => ?_) (fun h0 => ?_) | refine AWPD.condONN rfl (fun h0 => ?_) (fun h0 => ?_) | refine AWPD.condOPN rfl (fun h0 => ?_) (fun h0 => ?_) | refine AWPD.condA rfl (fun h0 => ?_) (fun h0 => ?_) | refine AWPD.condO rfl (fun h0 => ?_) (fun h0 => ?_) | refine AWPD.cond rfl (fun h0 => ?_) (fun h0 => ?_)
  · try dsimp only [Ty.T] at h0
    try simp only [castL_self] at h0
    try simp only [Int.toNat_natCast] at h0
    try simp only [Int.toNat_zero] at h0
    have hkn : k < nn := by omega
    have hlk := hlg k hkn
    refine AWPD.skip ?_
    refine hK6 _ _ ?_
    clear hK6
    refine AWPD.seq fun K8 hK8 => ?_
    refine AWPD.block ?_
    refine AWPD.seq fun K9 hK9 => ?_
    -- region 6
    refine AWPD.keep [0, 1, 5, 6, 7] rfl ?_
    refine AWPD.region tabOK rfl ?_
    repeat refine And.intro (by first | exact fun h => h | exact fun _ => rfl | (intro h; rw [h]; rfl) | omega | (intros; (try dsimp only [Ty.T, Ty.size]); (try simp only [castL_self, Int.toNat_natCast, Int.toNat_zero, Int.toNat_one, true_and, List.length_append, List.length_set, List.length_drop, List.length_take, List.length_replicate, List.length_cons, List.length_nil, Nat.zero_add, Nat.mul_one]); omega) | decide | (intros; simp_all; done) | (intros; simp_all; omega)) ?_
    refine hK9 _ _ ?_
    clear hK9
    refine AWPD.seq fun K10 hK10 => ?_
    refine AWPD.seq fun K11 hK11 => ?_
    -- region 7
    refine AWPD.keep [0, 1, 5, 6, 7] rfl ?_
    refine AWPD.region tabOK rfl ?_
    refine Exists.intro _ (Exists.intro _ (And.intro (StepD.call (bit_fn (x : Int) (k : Int) (by omega) (by omega)) rfl rfl rfl) (And.intro rfl (And.intro trivial ?_))))
    refine hK11 _ _ ?_
    clear hK11
    first | refine AWPD.cond rfl (fun h1 => ?_) (fun h1 => ?_)
    · try dsimp only [Ty.T] at h1
      try simp only [castL_self] at h1
      try simp only [Int.toNat_natCast] at h1
      try simp only [Int.toNat_zero] at h1
      have hb : x.testBit k = false := by simpa using h1
      refine AWPD.exit ?_
      refine hK8 _ _ ?_
      clear hK8
      -- region 5
      refine AWPD.keep [0, 1, 5, 6, 7] rfl ?_
      refine AWPD.region tabOK rfl ?_
      repeat refine And.intro (by first | exact fun h => h | exact fun _ => rfl | (intro h; rw [h]; rfl) | omega | (intros; (try dsimp only [Ty.T, Ty.size]); (try simp only [castL_self, Int.toNat_natCast, Int.toNat_zero, Int.toNat_one, true_and, List.length_append, List.length_set, List.length_drop, List.length_take, List.length_replicate, List.length_cons, List.length_nil, Nat.zero_add, Nat.mul_one]); omega) | decide | (intros; simp_all; done) | (intros; simp_all; omega)) ?_
      refine ⟨n0 - 1, k + 1, [0], by omega, by omega, ⟨by decide, rfl⟩, ⟨⟨rfl, rfl, candL_none hkn hb⟩, trivial⟩, ?_⟩
      repeat' first | (show ((qV l x k).length : Int) = ((qV l x (k + 1)).length : Int); rw [qV_no hb]) | (show ((qV l x k).length : Int) + 1 = ((qV l x (k + 1)).length : Int); omega) | (show ((qV l x k).length : Int) = ((qV l x (k + 1)).length : Int); omega) | exact True.intro | exact rfl | exact ⟨rfl, rfl⟩ | refine And.intro ?_ ?_
    · try dsimp only [Ty.T] at h1
      try simp only [castL_self] at h1
      try simp only [Int.toNat_natCast] at h1
      try simp only [Int.toNat_zero] at h1
      have hb : x.testBit k = true := by simpa using h1
      refine AWPD.skip ?_
      refine hK10 _ _ ?_
      clear hK10
      refine AWPD.seq fun K12 hK12 => ?_
      refine AWPD.seq fun K13 hK13 => ?_
      -- region 8
      refine AWPD.keep [0, 1, 5, 6, 7] rfl ?_
      refine AWPD.region tabOK rfl ?_
      refine hK13 _ _ ?_
      clear hK13
      refine AWPD.block ?_
      -- LOOP 1 live [0, 1, 5, 6, 7, 8] changed [8]
      refine AWPD.loopK (σ := Nat) [0, 1] (fun t base => (5, .ob 0) :: (6, .i ((qV l x k).length : Int)) :: (7, .i (k : Int)) :: (8, .i (t : Int)) :: base) (fun t => [.row 3 .int (candL nn l x k t)]) (fun n t => n + t = k) (k) 0 [0] rfl rfl (by omega) (by decide) ⟨⟨rfl, rfl, rfl⟩, trivial⟩ (by repeat' first | exact True.intro | exact rfl | exact ⟨rfl, rfl⟩ | refine And.intro ?_ ?_) fun n1 t hI1 => ?_
      have hn1 := hI1
      have hcl := candL_len nn l x k t
      have hco := candL_own (l := l) (x := x) (t := t) hkn
      refine AWPD.seq fun K14 hK14 => ?_
      refine AWPD.seq fun K15 hK15 => ?_
      -- region 9
      refine AWPD.keep [0, 1, 5, 6, 7, 8] rfl ?_
      refine AWPD.region tabOK rfl ?_
      refine hK15 _ _ ?_
      clear hK15
      first | refine AWPD.condP rfl (fun h2 => ?_) (fun h2 => ?_) | refine AWPD.condN rfl (fun h2 => ?_) (fun h2 => ?_) | refine AWPD.condAP rfl (fun h2 => ?_) (fun h2 => ?_) | refine AWPD.condOP rfl (fun h2 => ?_) (fun h2 => ?_) | refine AWPD.condONN rfl (fun h2 => ?_) (fun h2 => ?_) | refine AWPD.condOPN rfl (fun h2 => ?_) (fun h2 => ?_) | refine AWPD.condA rfl (fun h2 => ?_) (fun h2 => ?_) | refine AWPD.condO rfl (fun h2 => ?_) (fun h2 => ?_) | refine AWPD.cond rfl (fun h2 => ?_) (fun h2 => ?_)
      · try dsimp only [Ty.T] at h2
        try simp only [castL_self] at h2
        try simp only [Int.toNat_natCast] at h2
        try simp only [Int.toNat_zero] at h2
        have htk : t < k := by omega
        have hcg := candL_get (l := l) (x := x) (t := t) htk hkn
        have hlt := hlg t (by omega)
        refine AWPD.skip ?_
        refine hK14 _ _ ?_
        clear hK14
        refine AWPD.seq fun K16 hK16 => ?_
        refine AWPD.block ?_
        refine AWPD.seq fun K17 hK17 => ?_
        -- region 11
        refine AWPD.keep [0, 1, 5, 6, 7, 8] rfl ?_
        refine AWPD.draw tabOK [] rfl (by kernel_rfl) ?_
        repeat refine And.intro (by first | exact fun h => h | exact fun _ => rfl | (intro h; rw [h]; rfl) | omega | (intros; (try dsimp only [Ty.T, Ty.size]); (try simp only [castL_self, Int.toNat_natCast, Int.toNat_zero, Int.toNat_one, true_and, List.length_append, List.length_set, List.length_drop, List.length_take, List.length_replicate, List.length_cons, List.length_nil, Nat.zero_add, Nat.mul_one]); omega) | decide | (intros; simp_all; done) | (intros; simp_all; omega)) ?_
        refine hK17 _ _ ?_
        clear hK17
        first | refine AWPD.condP rfl (fun h3 => ?_) (fun h3 => ?_) | refine AWPD.condN rfl (fun h3 => ?_) (fun h3 => ?_) | refine AWPD.condAP rfl (fun h3 => ?_) (fun h3 => ?_) | refine AWPD.condOP rfl (fun h3 => ?_) (fun h3 => ?_) | refine AWPD.condONN rfl (fun h3 => ?_) (fun h3 => ?_) | refine AWPD.condOPN rfl (fun h3 => ?_) (fun h3 => ?_) | refine AWPD.condA rfl (fun h3 => ?_) (fun h3 => ?_) | refine AWPD.condO rfl (fun h3 => ?_) (fun h3 => ?_) | refine AWPD.cond rfl (fun h3 => ?_) (fun h3 => ?_)
        · try dsimp only [Ty.T] at h3
          try simp only [castL_self] at h3
          try simp only [Int.toNat_natCast] at h3
          try simp only [Int.toNat_zero] at h3
          have hq : 0 ≤ numV l x t ∧ l t = l k := ⟨by rw [← hcg]; exact h3.1, by have := h3.2; rw [hlt, hlk] at this; omega⟩
          -- region 12
          refine AWPD.keep [0, 1, 5, 6, 7, 8] rfl ?_
          refine AWPD.region tabOK rfl ?_
          repeat refine And.intro (by first | exact fun h => h | exact fun _ => rfl | (intro h; rw [h]; rfl) | omega | (intros; (try dsimp only [Ty.T, Ty.size]); (try simp only [castL_self, Int.toNat_natCast, Int.toNat_zero, Int.toNat_one, true_and, List.length_append, List.length_set, List.length_drop, List.length_take, List.length_replicate, List.length_cons, List.length_nil, Nat.zero_add, Nat.mul_one]); omega) | decide | (intros; simp_all; done) | (intros; simp_all; omega)) ?_
          refine hK16 _ _ ?_
          clear hK16
          -- region 10
          refine AWPD.keep [0, 1, 5, 6, 7, 8] rfl ?_
          refine AWPD.region tabOK rfl ?_
          repeat refine And.intro (by first | exact fun h => h | exact fun _ => rfl | (intro h; rw [h]; rfl) | omega | (intros; (try dsimp only [Ty.T, Ty.size]); (try simp only [castL_self, Int.toNat_natCast, Int.toNat_zero, Int.toNat_one, true_and, List.length_append, List.length_set, List.length_drop, List.length_take, List.length_replicate, List.length_cons, List.length_nil, Nat.zero_add, Nat.mul_one]); omega) | decide | (intros; simp_all; done) | (intros; simp_all; omega)) ?_
          refine ⟨n1 - 1, t + 1, [0], by omega, by omega, ⟨by decide, rfl⟩, ⟨⟨rfl, rfl, (by show (candL nn l x k t).set k ((candL nn l x k t).getD t 0) = _; rw [hcg]; exact candL_yes hkn hq)⟩, trivial⟩, ?_⟩
          repeat' first | exact True.intro | exact rfl | exact ⟨rfl, rfl⟩ | refine And.intro ?_ ?_
        · try dsimp only [Ty.T] at h3
          try simp only [castL_self] at h3
          try simp only [Int.toNat_natCast] at h3
          try simp only [Int.toNat_zero] at h3
          have hq : ¬(0 ≤ numV l x t ∧ l t = l k) := fun hh => h3 ⟨by rw [hcg]; exact hh.1, by rw [hlt, hlk]; omega⟩
          refine AWPD.skip ?_
          refine hK16 _ _ ?_
          clear hK16
          -- region 10
          refine AWPD.keep [0, 1, 5, 6, 7, 8] rfl ?_
          refine AWPD.region tabOK rfl ?_
          repeat refine And.intro (by first | exact fun h => h | exact fun _ => rfl | (intro h; rw [h]; rfl) | omega | (intros; (try dsimp only [Ty.T, Ty.size]); (try simp only [castL_self, Int.toNat_natCast, Int.toNat_zero, Int.toNat_one, true_and, List.length_append, List.length_set, List.length_drop, List.length_take, List.length_replicate, List.length_cons, List.length_nil, Nat.zero_add, Nat.mul_one]); omega) | decide | (intros; simp_all; done) | (intros; simp_all; omega)) ?_
          refine ⟨n1 - 1, t + 1, [0], by omega, by omega, ⟨by decide, rfl⟩, ⟨⟨rfl, rfl, candL_no hq⟩, trivial⟩, ?_⟩
          repeat' first | exact True.intro | exact rfl | exact ⟨rfl, rfl⟩ | refine And.intro ?_ ?_
      · try dsimp only [Ty.T] at h2
        try simp only [castL_self] at h2
        try simp only [Int.toNat_natCast] at h2
        try simp only [Int.toNat_zero] at h2
        have htk : t = k := by omega
        refine AWPD.exit ?_
        refine hK12 _ _ ?_
        clear hK12
        refine AWPD.seq fun K18 hK18 => ?_
        -- region 13
        refine AWPD.keep [0, 1, 5, 6, 7] rfl ?_
        refine AWPD.region tabOK rfl ?_
        repeat refine And.intro (by first | exact fun h => h | exact fun _ => rfl | (intro h; rw [h]; rfl) | omega | (intros; (try dsimp only [Ty.T, Ty.size]); (try simp only [castL_self, Int.toNat_natCast, Int.toNat_zero, Int.toNat_one, true_and, List.length_append, List.length_set, List.length_drop, List.length_take, List.length_replicate, List.length_cons, List.length_nil, Nat.zero_add, Nat.mul_one]); omega) | decide | (intros; simp_all; done) | (intros; simp_all; omega)) ?_
        refine hK18 _ _ ?_
        clear hK18
        first | refine AWPD.condP rfl (fun h4 => ?_) (fun h4 => ?_) | refine AWPD.condN rfl (fun h4 => ?_) (fun h4 => ?_) | refine AWPD.condAP rfl (fun h4 => ?_) (fun h4 => ?_) | refine AWPD.condOP rfl (fun h4 => ?_) (fun h4 => ?_) | refine AWPD.condONN rfl (fun h4 => ?_) (fun h4 => ?_) | refine AWPD.condOPN rfl (fun h4 => ?_) (fun h4 => ?_) | refine AWPD.condA rfl (fun h4 => ?_) (fun h4 => ?_) | refine AWPD.condO rfl (fun h4 => ?_) (fun h4 => ?_) | refine AWPD.cond rfl (fun h4 => ?_) (fun h4 => ?_)
        · try dsimp only [Ty.T] at h4
          try simp only [castL_self] at h4
          try simp only [Int.toNat_natCast] at h4
          try simp only [Int.toNat_zero] at h4
          have hc : candV l x k k < 0 := by rw [hco, htk] at h4; exact h4
          have hcn := cand_new hb hc
          refine AWPD.seq fun K19 hK19 => ?_
          -- region 14
          refine AWPD.keep [0, 1, 5, 6, 7] rfl ?_
          refine AWPD.region tabOK rfl ?_
          repeat refine And.intro (by first | exact fun h => h | exact fun _ => rfl | (intro h; rw [h]; rfl) | omega | (intros; (try dsimp only [Ty.T, Ty.size]); (try simp only [castL_self, Int.toNat_natCast, Int.toNat_zero, Int.toNat_one, true_and, List.length_append, List.length_set, List.length_drop, List.length_take, List.length_replicate, List.length_cons, List.length_nil, Nat.zero_add, Nat.mul_one]); omega) | decide | (intros; simp_all; done) | (intros; simp_all; omega)) ?_
          refine hK19 _ _ ?_
          clear hK19
          -- region 15
          refine AWPD.keep [0, 1, 5, 6, 7] rfl ?_
          refine AWPD.region tabOK rfl ?_
          repeat refine And.intro (by first | exact fun h => h | exact fun _ => rfl | (intro h; rw [h]; rfl) | omega | (intros; (try dsimp only [Ty.T, Ty.size]); (try simp only [castL_self, Int.toNat_natCast, Int.toNat_zero, Int.toNat_one, true_and, List.length_append, List.length_set, List.length_drop, List.length_take, List.length_replicate, List.length_cons, List.length_nil, Nat.zero_add, Nat.mul_one]); omega) | decide | (intros; simp_all; done) | (intros; simp_all; omega)) ?_
          refine hK8 _ _ ?_
          clear hK8
          -- region 5
          refine AWPD.keep [0, 1, 5, 6, 7] rfl ?_
          refine AWPD.region tabOK rfl ?_
          repeat refine And.intro (by first | exact fun h => h | exact fun _ => rfl | (intro h; rw [h]; rfl) | omega | (intros; (try dsimp only [Ty.T, Ty.size]); (try simp only [castL_self, Int.toNat_natCast, Int.toNat_zero, Int.toNat_one, true_and, List.length_append, List.length_set, List.length_drop, List.length_take, List.length_replicate, List.length_cons, List.length_nil, Nat.zero_add, Nat.mul_one]); omega) | decide | (intros; simp_all; done) | (intros; simp_all; omega)) ?_
          refine ⟨n0 - 1, k + 1, [0], by omega, by omega, ⟨by decide, rfl⟩, ⟨⟨rfl, rfl, (by show (candL nn l x k t).set k _ = _; rw [htk]; exact candL_new hkn hb hc)⟩, trivial⟩, ?_⟩
          repeat' first | (show ((qV l x k).length : Int) = ((qV l x (k + 1)).length : Int); rw [qV_no hb]) | (show ((qV l x k).length : Int) + 1 = ((qV l x (k + 1)).length : Int); omega) | (show ((qV l x k).length : Int) = ((qV l x (k + 1)).length : Int); omega) | exact True.intro | exact rfl | exact ⟨rfl, rfl⟩ | refine And.intro ?_ ?_
        · try dsimp only [Ty.T] at h4
          try simp only [castL_self] at h4
          try simp only [Int.toNat_natCast] at h4
          try simp only [Int.toNat_zero] at h4
          have hc : ¬candV l x k k < 0 := by rw [hco, htk] at h4; exact h4
          have hcn := cand_old hb hc
          refine AWPD.skip ?_
          refine hK8 _ _ ?_
          clear hK8
          -- region 5
          refine AWPD.keep [0, 1, 5, 6, 7] rfl ?_
          refine AWPD.region tabOK rfl ?_
          repeat refine And.intro (by first | exact fun h => h | exact fun _ => rfl | (intro h; rw [h]; rfl) | omega | (intros; (try dsimp only [Ty.T, Ty.size]); (try simp only [castL_self, Int.toNat_natCast, Int.toNat_zero, Int.toNat_one, true_and, List.length_append, List.length_set, List.length_drop, List.length_take, List.length_replicate, List.length_cons, List.length_nil, Nat.zero_add, Nat.mul_one]); omega) | decide | (intros; simp_all; done) | (intros; simp_all; omega)) ?_
          refine ⟨n0 - 1, k + 1, [0], by omega, by omega, ⟨by decide, rfl⟩, ⟨⟨rfl, rfl, (by rw [htk]; exact candL_old hkn hb hc)⟩, trivial⟩, ?_⟩
          repeat' first | (show ((qV l x k).length : Int) = ((qV l x (k + 1)).length : Int); rw [qV_no hb]) | (show ((qV l x k).length : Int) + 1 = ((qV l x (k + 1)).length : Int); omega) | (show ((qV l x k).length : Int) = ((qV l x (k + 1)).length : Int); omega) | exact True.intro | exact rfl | exact ⟨rfl, rfl⟩ | refine And.intro ?_ ?_
  · try dsimp only [Ty.T] at h0
    try simp only [castL_self] at h0
    try simp only [Int.toNat_natCast] at h0
    try simp only [Int.toNat_zero] at h0
    have hkn : k = nn := by omega
    refine AWPD.exit ?_
    refine hK4 _ _ ?_
    clear hK4
    refine AWPD.seq fun K20 hK20 => ?_
    -- region 16
    refine AWPD.keep [5] rfl ?_
    refine AWPD.region tabOK rfl ?_
    refine hK20 _ _ ?_
    clear hK20
    refine AWPD.ret (And.intro (.inl rfl) ?_)
    -- result 0
    exact ⟨_, 0, rfl, rfl, by rw [hkn]; rfl, row_free _ _ _⟩
end Go.Proofs.YtndoigkmdcgjfaaDoor
