/-
  THE DOCUMENT's LABELS AND NUMBERS: the plain law; walks of what joins, numbers, and of what does not look the same.
-/
import Derived.Test.YtndoigkmdcgjfaaDoorQwBq
import Derived.Test.YtndoigkmdcgjfaaDoorQwR3
import Derived.Test.YtndoigkmdcgjfaaDoorQwMy
namespace Go.Proofs.YtndoigkmdcgjfaaDoor
open Go Go.Qw
set_option maxRecDepth 10000
set_option linter.unusedSimpArgs false
set_option linter.unusedVariables false
set_option linter.unusedSectionVars false
set_option maxHeartbeats 2000000

/-- The numbers that are told, in the end. -/
def qV (ρ : Nat → Nat) (x : Nat) : Nat → List Int
  | 0 => []
  | i + 1 => if x.testBit i = true then qAdd .int ((ρ i : Nat) : Int) (qV ρ x i) else qV ρ x i
def numV (ρ : Nat → Nat) (x k : Nat) : Int := if x.testBit k = true then qIdx .int ((ρ k : Nat) : Int) (qV ρ x k) else -1
def outV (ρ : Nat → Nat) (x n i : Nat) : List Int := (List.range n).map fun k => if k < i then numV ρ x k else 0
theorem outV_len (ρ : Nat → Nat) (x n i : Nat) : (outV ρ x n i).length = n := by simp [outV]
theorem outV_zero (ρ : Nat → Nat) (x n : Nat) : List.replicate n (0 : Int) = outV ρ x n 0 := by
  unfold outV
  refine List.ext_getElem (by simp) fun k h1 h2 => by simp
theorem outV_set {ρ : Nat → Nat} {x n i : Nat} (h : i < n) {v : Int} (hv : v = numV ρ x i) : (outV ρ x n i).set i v = outV ρ x n (i + 1) := by
  subst hv
  unfold outV
  refine List.ext_getElem (by simp) fun k h1 h2 => ?_
  simp only [List.getElem_set, List.getElem_map, List.getElem_range]
  by_cases hk : i = k
  · subst hk; simp
  · rw [if_neg hk]
    by_cases h3 : k < i
    · rw [if_pos h3, if_pos (by omega)]
    · rw [if_neg h3, if_neg (by omega)]
theorem outV_set2 {ρ : Nat → Nat} {x n i : Nat} (h : i < n) {u v : Int} (hv : v = numV ρ x i) : ((outV ρ x n i).set i u).set i v = outV ρ x n (i + 1) := by
  rw [List.set_set]; exact outV_set h hv
theorem qV_len (ρ : Nat → Nat) (x : Nat) : ∀ i, (qV ρ x i).length ≤ i
  | 0 => by simp [qV]
  | i + 1 => by
    have := qV_len ρ x i
    unfold qV qAdd
    split
    · split
      · omega
      · rw [List.length_append]; simp; omega
    · omega
theorem qV_yes {ρ : Nat → Nat} {x i : Nat} (h : x.testBit i = true) : qV ρ x (i + 1) = qAdd .int ((ρ i : Nat) : Int) (qV ρ x i) := by rw [qV, if_pos h]
theorem qV_no {ρ : Nat → Nat} {x i : Nat} (h : x.testBit i = false) : qV ρ x (i + 1) = qV ρ x i := by rw [qV, if_neg (by rw [h]; decide)]
theorem numV_yes {ρ : Nat → Nat} {x i : Nat} (h : x.testBit i = true) : qIdx .int ((ρ i : Nat) : Int) (qV ρ x i) = numV ρ x i := by rw [numV, if_pos h]
theorem numV_no {ρ : Nat → Nat} {x i : Nat} (h : x.testBit i = false) : (-1 : Int) = numV ρ x i := by rw [numV, if_neg (by rw [h]; decide)]

theorem int_key {x y : Int} (h : keyL .int x = keyL .int y) : x = y := by simpa [keyL] using h
theorem qV_pre (ρ : Nat → Nat) (x : Nat) {i : Nat} : ∀ d, qV ρ x i <+: qV ρ x (i + d)
  | 0 => List.prefix_rfl
  | d + 1 => by
    refine (qV_pre ρ x d).trans ?_
    show qV ρ x (i + d) <+: qV ρ x (i + d + 1)
    rw [qV]
    split
    · exact qAdd_pre _ _
    · exact List.prefix_rfl
theorem qV_nodup (ρ : Nat → Nat) (x : Nat) : ∀ i, (qV ρ x i).Nodup
  | 0 => List.nodup_nil
  | i + 1 => by
    rw [qV]
    split
    · exact qAdd_nodup (qV_nodup ρ x i)
    · exact qV_nodup ρ x i
theorem num_at {ρ : Nat → Nat} {x s n : Nat} (hs : s < n) (h : x.testBit s = true) : 0 ≤ numV ρ x s ∧ (numV ρ x s).toNat < (qV ρ x n).length ∧ (qV ρ x n).getD (numV ρ x s).toNat 0 = ((ρ s : Nat) : Int) := by
  have q := qstep .int ((ρ s : Nat) : Int) (qV ρ x s)
  have e : qV ρ x (s + 1) = qAdd .int ((ρ s : Nat) : Int) (qV ρ x s) := qV_yes h
  have hp := qV_pre ρ x (i := s + 1) (n - (s + 1))
  rw [show s + 1 + (n - (s + 1)) = n by omega] at hp
  rw [numV, if_pos h]
  have hl := q.lt
  rw [← e] at hl
  refine ⟨q.nn.1, Nat.lt_of_lt_of_le hl hp.length_le, ?_⟩
  rw [getD_pre hp hl, e]
  exact int_key q.at_
theorem nodup_get {l : List Int} (h : l.Nodup) {a b : Nat} (ha : a < l.length) (hb : b < l.length) (e : l.getD a 0 = l.getD b 0) : a = b := by
  have hp := List.pairwise_iff_getElem.1 h
  simp only [List.getD, List.getElem?_eq_getElem ha, List.getElem?_eq_getElem hb, Option.getD_some] at e
  rcases Nat.lt_trichotomy a b with h | h | h
  · exact absurd e (hp a b ha hb h)
  · exact h
  · exact absurd e.symm (hp b a hb ha h)
theorem num_iff {ρ : Nat → Nat} {x s t n : Nat} (hs : s < n) (ht : t < n) (h1 : x.testBit s = true) (h2 : x.testBit t = true) : numV ρ x s = numV ρ x t ↔ ρ s = ρ t := by
  obtain ⟨a1, a2, a3⟩ := num_at (ρ := ρ) hs h1
  obtain ⟨b1, b2, b3⟩ := num_at (ρ := ρ) ht h2
  constructor
  · intro h
    rw [h, b3] at a3
    omega
  · intro h
    have := nodup_get (qV_nodup ρ x n) a2 b2 (by rw [a3, b3, h])
    omega
theorem outV_get {ρ : Nat → Nat} {x n s : Nat} (hs : s < n) : (outV ρ x n n).getD s 0 = numV ρ x s := by simp [outV, List.getD, hs]


/-! ### The document's labels -/

structure OwnP (n : Nat) (l : Nat → Nat) : Prop where
  lt : ∀ k, k < n → l k < n
  own : ∀ k, k < n → l (l k) = l k
theorem own_id (n : Nat) : OwnP n id := ⟨fun _ h => h, fun _ _ => rfl⟩
def renR (l : Nat → Nat) (s t k : Nat) : Nat := if l k = l t then l s else l k
section
variable {n : Nat} {l : Nat → Nat} (r : OwnP n l) {s t : Nat} (hs : s < n) (ht : t < n)
include r hs ht
theorem OwnP.ren : OwnP n (renR l s t) := by
  have o1 := r.own s hs
  refine ⟨fun k hk => ?_, fun k hk => ?_⟩
  · unfold renR
    split
    · exact r.lt s hs
    · exact r.lt k hk
  · unfold renR
    by_cases h : l k = l t
    · rw [if_pos h, o1]
      split <;> rfl
    · rw [if_neg h, r.own k hk, if_neg h]
theorem OwnP.own_of {k : Nat} (hk : k < n) (h : renR l s t k = k) : l k = k := by
  unfold renR at h
  split at h
  · rw [← h]; exact r.own s hs
  · exact h
theorem OwnP.ren_le : repN (renR l s t) n ≤ repN l n := repN_sub fun _ hk h => r.own_of hs ht hk h
theorem OwnP.ren_lt (h : l s ≠ l t) : repN (renR l s t) n < repN l n := by
  refine repN_lt (a := l t) (fun k hk hh => r.own_of hs ht hk hh) (r.lt t ht) (r.own t ht) ?_
  unfold renR
  rw [r.own t ht, if_pos rfl]
  exact h
end
theorem renR_same {l : Nat → Nat} {s t : Nat} (h : l s = l t) : renR l s t = l := by
  funext k
  unfold renR
  split
  · rename_i hk; rw [hk, h]
  · rfl
theorem renR_keep {l : Nat → Nat} {i j a b : Nat} (h : l a = l b) : renR l i j a = renR l i j b := by unfold renR; rw [h]
theorem renR_both {l : Nat → Nat} {i j : Nat} : renR l i j i = renR l i j j := by
  unfold renR
  rw [if_pos rfl]
  split <;> rfl
theorem renR_inv {n : Nat} {l : Nat → Nat} {c : Nat → Int} {i j : Nat} (hi : i < n) (hj : j < n) (hc : ∀ k, k < n → c (l k) = c k) (hij : c i = c j) : ∀ k, k < n → c (renR l i j k) = c k := by
  intro k hk
  unfold renR
  split
  · rename_i he
    rw [hc i hi, hij, ← hc j hj, ← he, hc k hk]
  · exact hc k hk
/-- The row of labels. -/
def labL (n : Nat) (l : Nat → Nat) : List Int := (List.range n).map fun k => ((l k : Nat) : Int)
theorem labL_len (n : Nat) (l : Nat → Nat) : (labL n l).length = n := by simp [labL]
theorem labL_get {n : Nat} {l : Nat → Nat} {k : Nat} (h : k < n) : (labL n l).getD k 0 = ((l k : Nat) : Int) := by simp [labL, List.getD, h]
/-- As it is written over, so far. -/
def mixL (n : Nat) (l : Nat → Nat) (s t i : Nat) : List Int := (List.range n).map fun k => if k < i then ((renR l s t k : Nat) : Int) else ((l k : Nat) : Int)
theorem mixL_len (n : Nat) (l : Nat → Nat) (s t i : Nat) : (mixL n l s t i).length = n := by simp [mixL]
theorem mixL_zero (n : Nat) (l : Nat → Nat) (s t : Nat) : labL n l = mixL n l s t 0 := by
  unfold labL mixL
  refine List.ext_getElem (by simp) fun k h1 h2 => by simp
theorem mixL_all (n : Nat) (l : Nat → Nat) (s t : Nat) : mixL n l s t n = labL n (renR l s t) := by
  unfold labL mixL
  refine List.ext_getElem (by simp) fun k h1 h2 => ?_
  simp only [List.getElem_map, List.getElem_range]
  rw [if_pos (by simpa using h1)]
theorem mixL_get {n : Nat} {l : Nat → Nat} {s t i : Nat} (h : i < n) : (mixL n l s t i).getD i 0 = ((l i : Nat) : Int) := by simp [mixL, List.getD, h]
theorem mixL_yes {n : Nat} {l : Nat → Nat} {s t i : Nat} (h : i < n) (he : l i = l t) : (mixL n l s t i).set i ((l s : Nat) : Int) = mixL n l s t (i + 1) := by
  unfold mixL
  refine List.ext_getElem (by simp) fun k h1 h2 => ?_
  simp only [List.getElem_set, List.getElem_map, List.getElem_range]
  by_cases hk : i = k
  · subst hk
    rw [if_pos rfl, if_pos (by omega)]
    unfold renR
    rw [if_pos he]
  · rw [if_neg hk]
    by_cases h3 : k < i
    · rw [if_pos h3, if_pos (by omega)]
    · rw [if_neg h3, if_neg (by omega)]
theorem mixL_no {n : Nat} {l : Nat → Nat} {s t i : Nat} (he : l i ≠ l t) : mixL n l s t i = mixL n l s t (i + 1) := by
  unfold mixL
  refine List.ext_getElem (by simp) fun k h1 h2 => ?_
  simp only [List.getElem_map, List.getElem_range]
  by_cases hk : k = i
  · subst hk
    rw [if_neg (by omega), if_pos (by omega)]
    unfold renR
    rw [if_neg he]
  · by_cases h3 : k < i
    · rw [if_pos h3, if_pos (by omega)]
    · rw [if_neg h3, if_neg (by omega)]
/-- The numbers hang on who is alike alone. -/
theorem qV_mem {ρ : Nat → Nat} {x : Nat} {y : Int} : ∀ {i}, y ∈ qV ρ x i ↔ ∃ t, t < i ∧ x.testBit t = true ∧ y = ((ρ t : Nat) : Int)
  | 0 => by simp [qV]
  | i + 1 => by
    rw [qV]
    have ih := qV_mem (ρ := ρ) (x := x) (y := y) (i := i)
    split
    · rename_i h
      rw [qAdd_mem, ih]
      constructor
      · rintro (⟨t, h1, h2, h3⟩ | h1)
        · exact ⟨t, by omega, h2, h3⟩
        · exact ⟨i, by omega, h, h1⟩
      · rintro ⟨t, h1, h2, h3⟩
        by_cases he : t = i
        · subst he; exact .inr h3
        · exact .inl ⟨t, by omega, h2, h3⟩
    · rename_i h
      rw [ih]
      constructor
      · rintro ⟨t, h1, h2, h3⟩; exact ⟨t, by omega, h2, h3⟩
      · rintro ⟨t, h1, h2, h3⟩
        by_cases he : t = i
        · subst he; exact absurd h2 h
        · exact ⟨t, by omega, h2, h3⟩
theorem num_new {ρ : Nat → Nat} {x s : Nat} (hb : x.testBit s = true) (h : ∀ t, t < s → x.testBit t = true → ρ t ≠ ρ s) : numV ρ x s = ((qV ρ x s).length : Int) ∧ (qV ρ x (s + 1)).length = (qV ρ x s).length + 1 := by
  have hm : ((ρ s : Nat) : Int) ∉ qV ρ x s := fun hm => by
    obtain ⟨t, h1, h2, h3⟩ := qV_mem.1 hm
    exact h t h1 h2 (by omega)
  have hn : idxK .int ((ρ s : Nat) : Int) (qV ρ x s) 0 = none := by
    cases hi : idxK .int ((ρ s : Nat) : Int) (qV ρ x s) 0 with
    | none => rfl
    | some k => exact absurd ((idx_int _ _ 0).1 (by rw [hi]; rfl)) hm
  refine ⟨by rw [numV, if_pos hb, qIdx, hn]; rfl, ?_⟩
  rw [qV_yes hb, qAdd, if_neg (by rw [hn]; decide), List.length_append]
  rfl
theorem num_old {ρ : Nat → Nat} {x s t : Nat} (hb : x.testBit s = true) (hbt : x.testBit t = true) (hts : t < s) (h : ρ t = ρ s) : numV ρ x s = numV ρ x t ∧ (qV ρ x (s + 1)).length = (qV ρ x s).length := by
  refine ⟨((num_iff (show s < s + 1 by omega) (show t < s + 1 by omega) hb hbt).2 h.symm), ?_⟩
  have hm : ((ρ s : Nat) : Int) ∈ qV ρ x s := qV_mem.2 ⟨t, hts, hbt, by rw [h]⟩
  rcases qAdd_or ((ρ s : Nat) : Int) (qV ρ x s) with ⟨h1, _⟩ | ⟨_, h2⟩
  · rw [qV_yes hb, h1]
  · exact absurd hm h2
theorem num_same {ρ τ : Nat → Nat} {x n : Nat} (h : ∀ s t, s < n → t < n → (ρ s = ρ t ↔ τ s = τ t)) : ∀ s, s ≤ n → (qV ρ x s).length = (qV τ x s).length ∧ ∀ k, k < s → numV ρ x k = numV τ x k
  | 0, _ => ⟨rfl, fun k hk => absurd hk (by omega)⟩
  | s + 1, hs => by
    obtain ⟨h1, h2⟩ := num_same h s (by omega)
    cases hb : x.testBit s with
    | false =>
      refine ⟨by rw [qV_no hb, qV_no hb, h1], fun k hk => ?_⟩
      by_cases he : k = s
      · rw [he, ← numV_no hb, ← numV_no hb]
      · exact h2 k (by omega)
    | true =>
      by_cases hex : ∃ t, t < s ∧ x.testBit t = true ∧ ρ t = ρ s
      · obtain ⟨t, ht, hbt, e⟩ := hex
        have a := num_old hb hbt ht e
        have b := num_old hb hbt ht ((h t s (by omega) (by omega)).1 e)
        refine ⟨by rw [a.2, b.2, h1], fun k hk => ?_⟩
        by_cases he : k = s
        · rw [he, a.1, b.1, h2 t ht]
        · exact h2 k (by omega)
      · have a := num_new hb fun t ht hbt e => hex ⟨t, ht, hbt, e⟩
        have b := num_new (ρ := τ) hb fun t ht hbt e => hex ⟨t, ht, hbt, (h t s (by omega) (by omega)).2 e⟩
        refine ⟨by rw [a.2, b.2, h1], fun k hk => ?_⟩
        by_cases he : k = s
        · rw [he, a.1, b.1, h1]
        · exact h2 k (by omega)
theorem outV_same {ρ τ : Nat → Nat} {x n : Nat} (h : ∀ s t, s < n → t < n → (ρ s = ρ t ↔ τ s = τ t)) : outV ρ x n n = outV τ x n n := by
  unfold outV
  refine List.map_congr_left fun k hk => ?_
  have hk := List.mem_range.1 hk
  rw [if_pos hk, if_pos hk]
  exact (num_same h n (Nat.le_refl _)).2 k hk
/-! ### The document's numbers -/
def candV (l : Nat → Nat) (x s : Nat) : Nat → Int
  | 0 => -1
  | t + 1 => if 0 ≤ numV l x t ∧ l t = l s then numV l x t else candV l x s t
theorem num_bit {l : Nat → Nat} {x t : Nat} : 0 ≤ numV l x t ↔ x.testBit t = true := by
  cases h : x.testBit t with
  | false => rw [← numV_no h]; simp
  | true => exact ⟨fun _ => rfl, fun _ => (num_at (n := t + 1) (by omega) h).1⟩
theorem cand_or (l : Nat → Nat) (x s : Nat) : ∀ t, (candV l x s t = -1 ∧ ∀ k, k < t → ¬(x.testBit k = true ∧ l k = l s)) ∨ ∃ k, k < t ∧ x.testBit k = true ∧ l k = l s ∧ candV l x s t = numV l x k
  | 0 => .inl ⟨rfl, fun k hk => by omega⟩
  | t + 1 => by
    rw [candV]
    by_cases h : 0 ≤ numV l x t ∧ l t = l s
    · rw [if_pos h]
      exact .inr ⟨t, by omega, num_bit.1 h.1, h.2, rfl⟩
    · rw [if_neg h]
      rcases cand_or l x s t with ⟨h1, h2⟩ | ⟨k, h1, h2, h3, h4⟩
      · refine .inl ⟨h1, fun k hk hh => ?_⟩
        by_cases he : k = t
        · subst he; exact h ⟨num_bit.2 hh.1, hh.2⟩
        · exact h2 k (by omega) hh
      · exact .inr ⟨k, by omega, h2, h3, h4⟩
theorem cand_new {l : Nat → Nat} {x s : Nat} (hb : x.testBit s = true) (h : candV l x s s < 0) : ((qV l x s).length : Int) = numV l x s ∧ (qV l x (s + 1)).length = (qV l x s).length + 1 := by
  rcases cand_or l x s s with ⟨h1, h2⟩ | ⟨k, h1, h2, h3, h4⟩
  · have := num_new hb fun t ht hbt e => h2 t ht ⟨hbt, e⟩
    exact ⟨this.1.symm, this.2⟩
  · have := (num_bit (l := l)).2 h2
    omega
theorem cand_old {l : Nat → Nat} {x s : Nat} (hb : x.testBit s = true) (h : ¬candV l x s s < 0) : candV l x s s = numV l x s ∧ (qV l x (s + 1)).length = (qV l x s).length := by
  rcases cand_or l x s s with ⟨h1, h2⟩ | ⟨k, h1, h2, h3, h4⟩
  · omega
  · have := num_old hb h2 h1 h3
    exact ⟨by rw [h4, this.1], this.2⟩
def candL (n : Nat) (l : Nat → Nat) (x s t : Nat) : List Int := (outV l x n s).set s (candV l x s t)
theorem candL_len (n : Nat) (l : Nat → Nat) (x s t : Nat) : (candL n l x s t).length = n := by simp [candL, outV_len]
theorem candL_get {n : Nat} {l : Nat → Nat} {x s t k : Nat} (h : k < s) (hs : s < n) : (candL n l x s t).getD k 0 = numV l x k := by
  unfold candL
  rw [List.getD, List.getElem?_set]
  rw [if_neg (by omega)]
  simp [outV, show k < n by omega, h]
theorem candL_own {n : Nat} {l : Nat → Nat} {x s t : Nat} (hs : s < n) : (candL n l x s t).getD s 0 = candV l x s t := by
  unfold candL
  rw [List.getD, List.getElem?_set, if_pos rfl, if_pos (by rw [outV_len]; exact hs)]
  rfl
theorem candL_yes {n : Nat} {l : Nat → Nat} {x s t : Nat} (hs : s < n) (h : 0 ≤ numV l x t ∧ l t = l s) : (candL n l x s t).set s (numV l x t) = candL n l x s (t + 1) := by
  unfold candL
  rw [List.set_set, candV, if_pos h]
theorem candL_no {n : Nat} {l : Nat → Nat} {x s t : Nat} (h : ¬(0 ≤ numV l x t ∧ l t = l s)) : candL n l x s t = candL n l x s (t + 1) := by
  unfold candL
  rw [candV, if_neg h]
theorem candL_new {n : Nat} {l : Nat → Nat} {x s : Nat} (hs : s < n) (hb : x.testBit s = true) (h : candV l x s s < 0) : (candL n l x s s).set s ((qV l x s).length : Int) = outV l x n (s + 1) := by
  unfold candL
  rw [List.set_set]
  exact outV_set hs (cand_new hb h).1
theorem candL_old {n : Nat} {l : Nat → Nat} {x s : Nat} (hs : s < n) (hb : x.testBit s = true) (h : ¬candV l x s s < 0) : candL n l x s s = outV l x n (s + 1) := by
  unfold candL
  exact outV_set hs (cand_old hb h).1
theorem candL_none {n : Nat} {l : Nat → Nat} {x s : Nat} (hs : s < n) (hb : x.testBit s = false) : (outV l x n s).set s (-1) = outV l x n (s + 1) := outV_set hs (numV_no hb)

/-- The first two that are alike and do not look the same. -/
def badV (S : List (List Int)) (part : Int) (v : List Int) (t s : Nat) : Prop := 0 ≤ v.getD s 0 ∧ v.getD s 0 = v.getD t 0 ∧ (S.getD s []).getD part.toNat 0 ≠ (S.getD t []).getD part.toNat 0
instance (S : List (List Int)) (part : Int) (v : List Int) (t s : Nat) : Decidable (badV S part v t s) := by unfold badV; infer_instance
def hI (S : List (List Int)) (part : Int) (v : List Int) (t : Nat) : Nat → Option Nat
  | 0 => none
  | k + 1 => match hI S part v t k with
    | some s => some s
    | none => if badV S part v t k then some k else none
def hO (S : List (List Int)) (part : Int) (v : List Int) : Nat → Option (Nat × Nat)
  | 0 => none
  | t + 1 => match hO S part v t with
    | some q => some q
    | none => (hI S part v t t).map fun s => (s, t)
theorem hI_next {S : List (List Int)} {part : Int} {v : List Int} {t k : Nat} (h : hI S part v t k = none) (hb : ¬badV S part v t k) : hI S part v t (k + 1) = none := by rw [hI, h]; exact if_neg hb
theorem hI_at {S : List (List Int)} {part : Int} {v : List Int} {t k : Nat} (h : hI S part v t k = none) (hb : badV S part v t k) : hI S part v t (k + 1) = some k := by rw [hI, h]; exact if_pos hb
theorem hI_keep {S : List (List Int)} {part : Int} {v : List Int} {t k s : Nat} (h : hI S part v t k = some s) : ∀ d, hI S part v t (k + d) = some s
  | 0 => h
  | d + 1 => by show hI S part v t (k + d + 1) = _; rw [hI, hI_keep h d]
theorem hO_next {S : List (List Int)} {part : Int} {v : List Int} {t : Nat} (h : hO S part v t = none) (hb : hI S part v t t = none) : hO S part v (t + 1) = none := by rw [hO, h, hb]; rfl
theorem hO_keep {S : List (List Int)} {part : Int} {v : List Int} {t : Nat} {q : Nat × Nat} (h : hO S part v t = some q) : ∀ d, hO S part v (t + d) = some q
  | 0 => h
  | d + 1 => by show hO S part v (t + d + 1) = _; rw [hO, hO_keep h d]
theorem hO_at {S : List (List Int)} {part : Int} {v : List Int} {t s n : Nat} (h : hO S part v t = none) (h2 : hI S part v t s = none) (hst : s < t) (ht : t < n) (hb : badV S part v t s) : hO S part v n = some (s, t) := by
  have h3 := hI_keep (hI_at h2 hb) (t - (s + 1))
  rw [show s + 1 + (t - (s + 1)) = t by omega] at h3
  have h4 : hO S part v (t + 1) = some (s, t) := by rw [hO, h, h3]; rfl
  have := hO_keep h4 (n - (t + 1))
  rwa [show t + 1 + (n - (t + 1)) = n by omega] at this
theorem hI_some {S : List (List Int)} {part : Int} {v : List Int} {t : Nat} : ∀ {k s : Nat}, hI S part v t k = some s → s < k ∧ badV S part v t s
  | 0, s, h => by cases h
  | k + 1, s, h => by
    rw [hI] at h
    cases hk : hI S part v t k with
    | some q =>
      rw [hk] at h
      cases h
      have := hI_some hk
      exact ⟨by omega, this.2⟩
    | none =>
      rw [hk] at h
      simp only at h
      split at h
      · rename_i hb; cases h; exact ⟨by omega, hb⟩
      · cases h
theorem hI_none {S : List (List Int)} {part : Int} {v : List Int} {t : Nat} : ∀ {k : Nat}, hI S part v t k = none → ∀ s, s < k → ¬badV S part v t s
  | k + 1, h, s, hs => by
    rw [hI] at h
    cases hk : hI S part v t k with
    | some q => rw [hk] at h; cases h
    | none =>
      rw [hk] at h
      simp only at h
      split at h
      · cases h
      · rename_i hb
        by_cases he : s = k
        · rw [he]; exact hb
        · exact hI_none hk s (by omega)
theorem hO_some {S : List (List Int)} {part : Int} {v : List Int} : ∀ {n s t : Nat}, hO S part v n = some (s, t) → s < t ∧ t < n ∧ badV S part v t s
  | 0, s, t, h => by cases h
  | n + 1, s, t, h => by
    rw [hO] at h
    cases hk : hO S part v n with
    | some q =>
      rw [hk] at h
      cases h
      have := hO_some hk
      exact ⟨this.1, by omega, this.2.2⟩
    | none =>
      rw [hk] at h
      simp only at h
      cases hi : hI S part v n n with
      | none => rw [hi] at h; cases h
      | some q =>
        rw [hi] at h
        cases h
        have := hI_some hi
        exact ⟨this.1, by omega, this.2⟩
theorem hO_none {S : List (List Int)} {part : Int} {v : List Int} : ∀ {n : Nat}, hO S part v n = none → ∀ s t, s < t → t < n → ¬badV S part v t s
  | n + 1, h, s, t, hst, ht => by
    rw [hO] at h
    cases hk : hO S part v n with
    | some q => rw [hk] at h; cases h
    | none =>
      rw [hk] at h
      simp only at h
      cases hi : hI S part v n n with
      | some q => rw [hi] at h; cases h
      | none =>
        by_cases he : t = n
        · subst he; exact hI_none hi s hst
        · exact hO_none hk s t hst (by omega)
theorem bad_cond {S : List (List Int)} {part : Int} {v : List Int} {t s : Nat} : (bif bif decide (0 ≤ v.getD s 0) then decide (v.getD s 0 = v.getD t 0) else false then decide ((S.getD s []).getD part.toNat 0 ≠ (S.getD t []).getD part.toNat 0) else false) = true ↔ badV S part v t s := by
  unfold badV
  simp only [Bool.cond_false_right, Bool.and_eq_true, decide_eq_true_eq, and_assoc]
theorem bad_not {S : List (List Int)} {part : Int} {v : List Int} {t s : Nat} (h : (bif bif decide (0 ≤ v.getD s 0) then decide (v.getD s 0 = v.getD t 0) else false then decide ((S.getD s []).getD part.toNat 0 ≠ (S.getD t []).getD part.toNat 0) else false) = false) : ¬badV S part v t s := fun hh => by rw [bad_cond.2 hh] at h; cases h


theorem lab_app (i : Nat) : labL i id ++ [(i : Int)] = labL (i + 1) id := by simp [labL, List.range_succ]

theorem each3_fn (z : Int) (hz : 0 ≤ z ∧ z ≤ 1000000) : LiftsN Tryd.prog 75 [.i z] (.row 3 .int (labL z.toNat id)) := by
  refine LiftsN.of_body 15 [.tmp 2] Tryd.func75 rfl Tryd.ntmps75 (by kernel_rfl) rfl rfl fun w0 X0 => ?_
  refine AWPD.seq fun K1 hK1 => ?_
  -- region 0
  refine AWPD.keep [0] rfl ?_
  refine AWPD.region tabOK rfl ?_
  refine hK1 _ _ ?_
  clear hK1
  refine AWPD.seq fun K2 hK2 => ?_
  -- region 1
  refine AWPD.keep [0] rfl ?_
  refine AWPD.region tabOK rfl ?_
  refine hK2 _ _ ?_
  clear hK2
  refine AWPD.seq fun K3 hK3 => ?_
  refine AWPD.seq fun K4 hK4 => ?_
  -- region 2
  refine AWPD.keep [0, 3] rfl ?_
  refine AWPD.region tabOK rfl ?_
  refine hK4 _ _ ?_
  clear hK4
  refine AWPD.block ?_
  -- LOOP 0 live [0, 3, 4] changed [3, 4]
  refine AWPD.nilRow 3 3 .int rfl (by decide) ?_
  refine AWPD.loopK (σ := Nat) [0] (fun i base => (3, .ob 0) :: (4, .i (i : Int)) :: base) (fun i => [.row 3 .int (labL i id)]) (fun n i => n + i = z.toNat) (z.toNat) 0 [0] rfl rfl (by omega) (by decide) ⟨⟨rfl, rfl, rfl⟩, trivial⟩ (by repeat' first | exact True.intro | exact rfl | exact ⟨rfl, rfl⟩ | refine And.intro ?_ ?_) fun n0 i hI0 => ?_
  have hn0 := hI0
  have hll := labL_len i id
  refine AWPD.seq fun K5 hK5 => ?_
  refine AWPD.seq fun K6 hK6 => ?_
  -- region 3
  refine AWPD.keep [0, 3, 4] rfl ?_
  refine AWPD.region tabOK rfl ?_
  refine hK6 _ _ ?_
  clear hK6
  first | refine AWPD.condP rfl (fun h0 => ?_) (fun h0 => ?_) | refine AWPD.condN rfl (fun h0 => ?_) (fun h0 => ?_) | refine AWPD.condAP rfl (fun h0 => ?_) (fun h0 => ?_) | refine AWPD.condOP rfl (fun h0 => ?_) (fun h0 => ?_) | refine AWPD.condONN rfl (fun h0 => ?_) (fun h0 => ?_) | refine AWPD.condOPN rfl (fun h0 => ?_) (fun h0 => ?_) | refine AWPD.condA rfl (fun h0 => ?_) (fun h0 => ?_) | refine AWPD.condO rfl (fun h0 => ?_) (fun h0 => ?_) | refine AWPD.cond rfl (fun h0 => ?_) (fun h0 => ?_)
  · try dsimp only [Ty.T] at h0
    try simp only [castL_self] at h0
    try simp only [Int.toNat_natCast] at h0
    try simp only [Int.toNat_zero] at h0
    refine AWPD.skip ?_
    refine hK5 _ _ ?_
    clear hK5
    refine AWPD.seq fun K7 hK7 => ?_
    refine AWPD.block ?_
    -- region 5
    refine AWPD.keep [0, 3, 4] rfl ?_
    refine AWPD.region tabOK rfl ?_
    repeat refine And.intro (by first | exact fun h => h | exact fun _ => rfl | (intro h; rw [h]; rfl) | omega | (intros; (try dsimp only [Ty.T, Ty.size]); (try simp only [castL_self, Int.toNat_natCast, Int.toNat_zero, Int.toNat_one, true_and, List.length_append, List.length_set, List.length_drop, List.length_take, List.length_replicate, List.length_cons, List.length_nil, Nat.zero_add, Nat.mul_one]); omega) | decide | (intros; simp_all; done) | (intros; simp_all; omega)) ?_
    refine hK7 _ _ ?_
    clear hK7
    -- region 4
    refine AWPD.keep [0, 3, 4] rfl ?_
    refine AWPD.region tabOK rfl ?_
    repeat refine And.intro (by first | exact fun h => h | exact fun _ => rfl | (intro h; rw [h]; rfl) | omega | (intros; (try dsimp only [Ty.T, Ty.size]); (try simp only [castL_self, Int.toNat_natCast, Int.toNat_zero, Int.toNat_one, true_and, List.length_append, List.length_set, List.length_drop, List.length_take, List.length_replicate, List.length_cons, List.length_nil, Nat.zero_add, Nat.mul_one]); omega) | decide | (intros; simp_all; done) | (intros; simp_all; omega)) ?_
    refine ⟨n0 - 1, i + 1, [1], by omega, by omega, ⟨by decide, rfl⟩, ⟨⟨rfl, rfl, lab_app i⟩, trivial⟩, ?_⟩
    repeat' first | exact True.intro | exact rfl | exact ⟨rfl, rfl⟩ | refine And.intro ?_ ?_
  · try dsimp only [Ty.T] at h0
    try simp only [castL_self] at h0
    try simp only [Int.toNat_natCast] at h0
    try simp only [Int.toNat_zero] at h0
    refine AWPD.exit ?_
    refine hK3 _ _ ?_
    clear hK3
    refine AWPD.seq fun K8 hK8 => ?_
    -- region 6
    refine AWPD.keep [3] rfl ?_
    refine AWPD.region tabOK rfl ?_
    refine hK8 _ _ ?_
    clear hK8
    refine AWPD.ret (And.intro (.inl rfl) ?_)
    -- result 0
    have e : i = z.toNat := by omega
    exact ⟨_, 0, rfl, rfl, by show some (OD.row _ Ty.int (labL i id)) = some (OD.row _ Ty.int (labL z.toNat id)); rw [e], row_free _ _ _⟩
theorem join3_fn (nn : Nat) (l : Nat → Nat) (s t : Int) (hn : nn ≤ 1000000) (hs : 0 ≤ s ∧ s.toNat < nn) (ht : 0 ≤ t ∧ t.toNat < nn) : LiftsO Tryd.prog 76 [.ob 0, .i s, .i t] (.row 3 .int (labL nn l)) (.b (decide (l s.toNat ≠ l t.toNat))) (.row 3 .int (labL nn (renR l s.toNat t.toNat))) := by
  have hll := labL_len nn l
  have hls := labL_get (l := l) hs.2
  have hlt := labL_get (l := l) ht.2
  refine LiftsO.of_body 37 [.tmp 6] Tryd.func76 rfl Tryd.ntmps76 (by kernel_rfl) rfl rfl fun w0 X0 F0 x0 => ?_
  refine AWPD.seq fun K1 hK1 => ?_
  -- region 0
  refine AWPD.keep [0, 1, 2] rfl ?_
  refine AWPD.region tabOK rfl ?_
  refine hK1 _ _ ?_
  clear hK1
  refine AWPD.seq fun K2 hK2 => ?_
  -- region 1
  refine AWPD.keep [0, 1, 2] rfl ?_
  refine AWPD.region tabOK rfl ?_
  repeat refine And.intro (by first | exact fun h => h | exact fun _ => rfl | (intro h; rw [h]; rfl) | omega | (intros; (try dsimp only [Ty.T, Ty.size]); (try simp only [castL_self, Int.toNat_natCast, Int.toNat_zero, Int.toNat_one, true_and, List.length_append, List.length_set, List.length_drop, List.length_take, List.length_replicate, List.length_cons, List.length_nil, Nat.zero_add, Nat.mul_one]); omega) | decide | (intros; simp_all; done) | (intros; simp_all; omega)) ?_
  refine hK2 _ _ ?_
  clear hK2
  refine AWPD.seq fun K3 hK3 => ?_
  -- region 2
  refine AWPD.keep [0, 2, 7] rfl ?_
  refine AWPD.region tabOK rfl ?_
  repeat refine And.intro (by first | exact fun h => h | exact fun _ => rfl | (intro h; rw [h]; rfl) | omega | (intros; (try dsimp only [Ty.T, Ty.size]); (try simp only [castL_self, Int.toNat_natCast, Int.toNat_zero, Int.toNat_one, true_and, List.length_append, List.length_set, List.length_drop, List.length_take, List.length_replicate, List.length_cons, List.length_nil, Nat.zero_add, Nat.mul_one]); omega) | decide | (intros; simp_all; done) | (intros; simp_all; omega)) ?_
  refine hK3 _ _ ?_
  clear hK3
  refine AWPD.seq fun K4 hK4 => ?_
  refine AWPD.seq fun K5 hK5 => ?_
  -- region 3
  refine AWPD.keep [0, 7, 8] rfl ?_
  refine AWPD.region tabOK rfl ?_
  refine hK5 _ _ ?_
  clear hK5
  refine AWPD.block ?_
  -- LOOP 0 live [0, 7, 8, 9] changed [9]
  refine AWPD.loopK (σ := Nat) [] (fun i base => (0, .ob 0) :: (7, .i ((l s.toNat : Nat) : Int)) :: (8, .i ((l t.toNat : Nat) : Int)) :: (9, .i (i : Int)) :: base) (fun i => [.row 3 .int (mixL nn l s.toNat t.toNat i)]) (fun n i => n + i = nn) (nn) 0 [0] rfl rfl (by omega) (by decide) ⟨⟨rfl, rfl, mixL_zero _ _ _ _⟩, trivial⟩ (by repeat' first | exact hls | exact hlt | exact True.intro | exact rfl | exact ⟨rfl, rfl⟩ | refine And.intro ?_ ?_) fun n0 i hI0 => ?_
  have hn0 := hI0
  have hml := mixL_len nn l s.toNat t.toNat i
  refine AWPD.seq fun K6 hK6 => ?_
  refine AWPD.seq fun K7 hK7 => ?_
  -- region 4
  refine AWPD.keep [0, 7, 8, 9] rfl ?_
  refine AWPD.region tabOK rfl ?_
  refine hK7 _ _ ?_
  clear hK7
  first | refine AWPD.condP rfl (fun h0 => ?_) (fun h0 => ?_) | refine AWPD.condN rfl (fun h0 => ?_) (fun h0 => ?_) | refine AWPD.condAP rfl (fun h0 => ?_) (fun h0 => ?_) | refine AWPD.condOP rfl (fun h0 => ?_) (fun h0 => ?_) | refine AWPD.condONN rfl (fun h0 => ?_) (fun h0 => ?_) | refine AWPD.condOPN rfl (fun h0 => ?_) (fun h0 => ?_) | refine AWPD.condA rfl (fun h0 => ?_) (fun h0 => ?_) | refine AWPD.condO rfl (fun h0 => ?_) (fun h0 => ?_) | refine AWPD.cond rfl (fun h0 => ?_) (fun h0 => ?_)
  · try dsimp only [Ty.T] at h0
    try simp only [castL_self] at h0
    try simp only [Int.toNat_natCast] at h0
    try simp only [Int.toNat_zero] at h0
    have hil : i < nn := by omega
    have hmg := mixL_get (l := l) (s := s.toNat) (t := t.toNat) hil
    refine AWPD.skip ?_
    refine hK6 _ _ ?_
    clear hK6
    refine AWPD.seq fun K8 hK8 => ?_
    refine AWPD.block ?_
    refine AWPD.seq fun K9 hK9 => ?_
    -- region 6
    refine AWPD.keep [0, 7, 8, 9] rfl ?_
    refine AWPD.region tabOK rfl ?_
    repeat refine And.intro (by first | exact fun h => h | exact fun _ => rfl | (intro h; rw [h]; rfl) | omega | (intros; (try dsimp only [Ty.T, Ty.size]); (try simp only [castL_self, Int.toNat_natCast, Int.toNat_zero, Int.toNat_one, true_and, List.length_append, List.length_set, List.length_drop, List.length_take, List.length_replicate, List.length_cons, List.length_nil, Nat.zero_add, Nat.mul_one]); omega) | decide | (intros; simp_all; done) | (intros; simp_all; omega)) ?_
    refine hK9 _ _ ?_
    clear hK9
    first | refine AWPD.condP rfl (fun h1 => ?_) (fun h1 => ?_) | refine AWPD.condN rfl (fun h1 => ?_) (fun h1 => ?_) | refine AWPD.condAP rfl (fun h1 => ?_) (fun h1 => ?_) | refine AWPD.condOP rfl (fun h1 => ?_) (fun h1 => ?_) | refine AWPD.condONN rfl (fun h1 => ?_) (fun h1 => ?_) | refine AWPD.condOPN rfl (fun h1 => ?_) (fun h1 => ?_) | refine AWPD.condA rfl (fun h1 => ?_) (fun h1 => ?_) | refine AWPD.condO rfl (fun h1 => ?_) (fun h1 => ?_) | refine AWPD.cond rfl (fun h1 => ?_) (fun h1 => ?_)
    · try dsimp only [Ty.T] at h1
      try simp only [castL_self] at h1
      try simp only [Int.toNat_natCast] at h1
      try simp only [Int.toNat_zero] at h1
      have hq : l i = l t.toNat := by rw [hmg] at h1; omega
      -- region 7
      refine AWPD.keep [0, 7, 8, 9] rfl ?_
      refine AWPD.region tabOK rfl ?_
      repeat refine And.intro (by first | exact fun h => h | exact fun _ => rfl | (intro h; rw [h]; rfl) | omega | (intros; (try dsimp only [Ty.T, Ty.size]); (try simp only [castL_self, Int.toNat_natCast, Int.toNat_zero, Int.toNat_one, true_and, List.length_append, List.length_set, List.length_drop, List.length_take, List.length_replicate, List.length_cons, List.length_nil, Nat.zero_add, Nat.mul_one]); omega) | decide | (intros; simp_all; done) | (intros; simp_all; omega)) ?_
      refine hK8 _ _ ?_
      clear hK8
      -- region 5
      refine AWPD.keep [0, 7, 8, 9] rfl ?_
      refine AWPD.region tabOK rfl ?_
      repeat refine And.intro (by first | exact fun h => h | exact fun _ => rfl | (intro h; rw [h]; rfl) | omega | (intros; (try dsimp only [Ty.T, Ty.size]); (try simp only [castL_self, Int.toNat_natCast, Int.toNat_zero, Int.toNat_one, true_and, List.length_append, List.length_set, List.length_drop, List.length_take, List.length_replicate, List.length_cons, List.length_nil, Nat.zero_add, Nat.mul_one]); omega) | decide | (intros; simp_all; done) | (intros; simp_all; omega)) ?_
      refine ⟨n0 - 1, i + 1, [0], by omega, by omega, ⟨by decide, rfl⟩, ⟨⟨rfl, rfl, mixL_yes hil hq⟩, trivial⟩, ?_⟩
      repeat' first | exact True.intro | exact rfl | exact ⟨rfl, rfl⟩ | refine And.intro ?_ ?_
    · try dsimp only [Ty.T] at h1
      try simp only [castL_self] at h1
      try simp only [Int.toNat_natCast] at h1
      try simp only [Int.toNat_zero] at h1
      have hq : l i ≠ l t.toNat := by rw [hmg] at h1; omega
      refine AWPD.skip ?_
      refine hK8 _ _ ?_
      clear hK8
      -- region 5
      refine AWPD.keep [0, 7, 8, 9] rfl ?_
      refine AWPD.region tabOK rfl ?_
      repeat refine And.intro (by first | exact fun h => h | exact fun _ => rfl | (intro h; rw [h]; rfl) | omega | (intros; (try dsimp only [Ty.T, Ty.size]); (try simp only [castL_self, Int.toNat_natCast, Int.toNat_zero, Int.toNat_one, true_and, List.length_append, List.length_set, List.length_drop, List.length_take, List.length_replicate, List.length_cons, List.length_nil, Nat.zero_add, Nat.mul_one]); omega) | decide | (intros; simp_all; done) | (intros; simp_all; omega)) ?_
      refine ⟨n0 - 1, i + 1, [0], by omega, by omega, ⟨by decide, rfl⟩, ⟨⟨rfl, rfl, mixL_no hq⟩, trivial⟩, ?_⟩
      repeat' first | exact True.intro | exact rfl | exact ⟨rfl, rfl⟩ | refine And.intro ?_ ?_
  · try dsimp only [Ty.T] at h0
    try simp only [castL_self] at h0
    try simp only [Int.toNat_natCast] at h0
    try simp only [Int.toNat_zero] at h0
    have hil : i = nn := by omega
    refine AWPD.exit ?_
    refine hK4 _ _ ?_
    clear hK4
    refine AWPD.seq fun K10 hK10 => ?_
    -- region 8
    refine AWPD.keep [7, 8] rfl ?_
    refine AWPD.region tabOK rfl ?_
    refine hK10 _ _ ?_
    clear hK10
    refine AWPD.ret (And.intro (.inl rfl) ?_)
    -- result 0
    have hbq : decide (((l s.toNat : Nat) : Int) ≠ ((l t.toNat : Nat) : Int)) = decide (l s.toNat ≠ l t.toNat) := decide_eq_decide.2 (by omega)
    exact ⟨⟨rfl, by show fitD (DV.b (decide _)) _; rw [← hbq]; first | rfl | exact ⟨_, rfl⟩, rfl⟩, FoldO.at0 (by rw [hil, mixL_all]; rfl) (row_free _ _ _)⟩
theorem named_fn (nn x : Nat) (l : Nat → Nat) (hn : nn ≤ 1000000) (hx : x ≤ 65535) : LiftsN Tryd.prog 77 [.sl .int (labL nn l), .i (x : Int)] (.row 3 .int (outV l x nn nn)) := by
  have hll := labL_len nn l
  have hlg : ∀ k, k < nn → (labL nn l).getD k 0 = ((l k : Nat) : Int) := fun k hk => labL_get hk
  refine LiftsN.of_body 65 [.tmp 4] Tryd.func77 rfl Tryd.ntmps77 (by kernel_rfl) rfl rfl fun w0 X0 => ?_
  refine AWPD.seq fun K1 hK1 => ?_
  -- region 0
  refine AWPD.keep [0, 1] rfl ?_
  refine AWPD.region tabOK rfl ?_
  refine hK1 _ _ ?_
  clear hK1
  refine AWPD.seq fun K2 hK2 => ?_
  -- region 1
  refine AWPD.keep [0, 1] rfl ?_
  refine AWPD.region tabOK rfl ?_
  repeat refine And.intro (by first | exact fun h => h | exact fun _ => rfl | (intro h; rw [h]; rfl) | omega | (intros; (try dsimp only [Ty.T, Ty.size]); (try simp only [castL_self, Int.toNat_natCast, Int.toNat_zero, Int.toNat_one, true_and, List.length_append, List.length_set, List.length_drop, List.length_take, List.length_replicate, List.length_cons, List.length_nil, Nat.zero_add, Nat.mul_one]); omega) | decide | (intros; simp_all; done) | (intros; simp_all; omega)) ?_
  refine hK2 _ _ ?_
  clear hK2
  refine AWPD.seq fun K3 hK3 => ?_
  -- region 2
  refine AWPD.keep [0, 1, 5] rfl ?_
  refine AWPD.region tabOK rfl ?_
  refine hK3 _ _ ?_
  clear hK3
  refine AWPD.seq fun K4 hK4 => ?_
  refine AWPD.seq fun K5 hK5 => ?_
  -- region 3
  refine AWPD.keep [0, 1, 5, 6] rfl ?_
  refine AWPD.region tabOK rfl ?_
  refine hK5 _ _ ?_
  clear hK5
  refine AWPD.block ?_
  -- LOOP 0 live [0, 1, 5, 6, 7] changed [6, 7]
  
  refine AWPD.loopK (σ := Nat) [0, 1] (fun k base => (5, .ob 0) :: (6, .i ((qV l x k).length : Int)) :: (7, .i (k : Int)) :: base) (fun k => [.row 3 .int (outV l x nn k)]) (fun n k => n + k = nn) (nn) 0 [0] rfl rfl (by omega) (by decide) ⟨⟨rfl, rfl, (by show List.replicate (((labL nn l).length : Int)).toNat (0 : Int) = _; rw [hll, Int.toNat_natCast]; exact outV_zero _ _ _)⟩, trivial⟩ (by repeat' first | exact True.intro | exact rfl | exact ⟨rfl, rfl⟩ | refine And.intro ?_ ?_) fun n0 k hI0 => ?_
  have hn0 := hI0
  have hql := qV_len l x k
  have hol := outV_len l x nn k
  refine AWPD.seq fun K6 hK6 => ?_
  refine AWPD.seq fun K7 hK7 => ?_
  -- region 4
  refine AWPD.keep [0, 1, 5, 6, 7] rfl ?_
  refine AWPD.region tabOK rfl ?_
  refine hK7 _ _ ?_
  clear hK7
  first | refine AWPD.condP rfl (fun h0 => ?_) (fun h0 => ?_) | refine AWPD.condN rfl (fun h0 => ?_) (fun h0 => ?_) | refine AWPD.condAP rfl (fun h0 => ?_) (fun h0 => ?_) | refine AWPD.condOP rfl (fun h0 => ?_) (fun h0 => ?_) | refine AWPD.condONN rfl (fun h0 => ?_) (fun h0 => ?_) | refine AWPD.condOPN rfl (fun h0 => ?_) (fun h0 => ?_) | refine AWPD.condA rfl (fun h0 => ?_) (fun h0 => ?_) | refine AWPD.condO rfl (fun h0 => ?_) (fun h0 => ?_) | refine AWPD.cond rfl (fun h0 => ?_) (fun h0 => ?_)
  · try dsimp only [Ty.T] at h0
    try simp only [castL_self] at h0
    try simp only [Int.toNat_natCast] at h0
    try simp only [Int.toNat_zero] at h0
    have hkn : k < nn := by omega
    have hlk := hlg k hkn
    refine AWPD.skip ?_
    refine hK6 _ _ ?_
    clear hK6
    refine AWPD.seq fun K8 hK8 => ?_
    refine AWPD.block ?_
    refine AWPD.seq fun K9 hK9 => ?_
    -- region 6
    refine AWPD.keep [0, 1, 5, 6, 7] rfl ?_
    refine AWPD.region tabOK rfl ?_
    repeat refine And.intro (by first | exact fun h => h | exact fun _ => rfl | (intro h; rw [h]; rfl) | omega | (intros; (try dsimp only [Ty.T, Ty.size]); (try simp only [castL_self, Int.toNat_natCast, Int.toNat_zero, Int.toNat_one, true_and, List.length_append, List.length_set, List.length_drop, List.length_take, List.length_replicate, List.length_cons, List.length_nil, Nat.zero_add, Nat.mul_one]); omega) | decide | (intros; simp_all; done) | (intros; simp_all; omega)) ?_
    refine hK9 _ _ ?_
    clear hK9
    refine AWPD.seq fun K10 hK10 => ?_
    refine AWPD.seq fun K11 hK11 => ?_
    -- region 7
    refine AWPD.keep [0, 1, 5, 6, 7] rfl ?_
    refine AWPD.region tabOK rfl ?_
    refine Exists.intro _ (Exists.intro _ (And.intro (StepD.call (bit_fn (x : Int) (k : Int) (by omega) (by omega)) rfl rfl rfl) (And.intro rfl (And.intro trivial ?_))))
    refine hK11 _ _ ?_
    clear hK11
    first | refine AWPD.cond rfl (fun h1 => ?_) (fun h1 => ?_)
    · try dsimp only [Ty.T] at h1
      try simp only [castL_self] at h1
      try simp only [Int.toNat_natCast] at h1
      try simp only [Int.toNat_zero] at h1
      have hb : x.testBit k = false := by simpa using h1
      refine AWPD.exit ?_
      refine hK8 _ _ ?_
      clear hK8
      -- region 5
      refine AWPD.keep [0, 1, 5, 6, 7] rfl ?_
      refine AWPD.region tabOK rfl ?_
      repeat refine And.intro (by first | exact fun h => h | exact fun _ => rfl | (intro h; rw [h]; rfl) | omega | (intros; (try dsimp only [Ty.T, Ty.size]); (try simp only [castL_self, Int.toNat_natCast, Int.toNat_zero, Int.toNat_one, true_and, List.length_append, List.length_set, List.length_drop, List.length_take, List.length_replicate, List.length_cons, List.length_nil, Nat.zero_add, Nat.mul_one]); omega) | decide | (intros; simp_all; done) | (intros; simp_all; omega)) ?_
      refine ⟨n0 - 1, k + 1, [0], by omega, by omega, ⟨by decide, rfl⟩, ⟨⟨rfl, rfl, candL_none hkn hb⟩, trivial⟩, ?_⟩
      repeat' first | (show ((qV l x k).length : Int) = ((qV l x (k + 1)).length : Int); rw [qV_no hb]) | (show ((qV l x k).length : Int) + 1 = ((qV l x (k + 1)).length : Int); omega) | (show ((qV l x k).length : Int) = ((qV l x (k + 1)).length : Int); omega) | exact True.intro | exact rfl | exact ⟨rfl, rfl⟩ | refine And.intro ?_ ?_
    · try dsimp only [Ty.T] at h1
      try simp only [castL_self] at h1
      try simp only [Int.toNat_natCast] at h1
      try simp only [Int.toNat_zero] at h1
      have hb : x.testBit k = true := by simpa using h1
      refine AWPD.skip ?_
      refine hK10 _ _ ?_
      clear hK10
      refine AWPD.seq fun K12 hK12 => ?_
      refine AWPD.seq fun K13 hK13 => ?_
      -- region 8
      refine AWPD.keep [0, 1, 5, 6, 7] rfl ?_
      refine AWPD.region tabOK rfl ?_
      refine hK13 _ _ ?_
      clear hK13
      refine AWPD.block ?_
      -- LOOP 1 live [0, 1, 5, 6, 7, 8] changed [8]
      refine AWPD.loopK (σ := Nat) [0, 1] (fun t base => (5, .ob 0) :: (6, .i ((qV l x k).length : Int)) :: (7, .i (k : Int)) :: (8, .i (t : Int)) :: base) (fun t => [.row 3 .int (candL nn l x k t)]) (fun n t => n + t = k) (k) 0 [0] rfl rfl (by omega) (by decide) ⟨⟨rfl, rfl, rfl⟩, trivial⟩ (by repeat' first | exact True.intro | exact rfl | exact ⟨rfl, rfl⟩ | refine And.intro ?_ ?_) fun n1 t hI1 => ?_
      have hn1 := hI1
      have hcl := candL_len nn l x k t
      have hco := candL_own (l := l) (x := x) (t := t) hkn
      refine AWPD.seq fun K14 hK14 => ?_
      refine AWPD.seq fun K15 hK15 => ?_
      -- region 9
      refine AWPD.keep [0, 1, 5, 6, 7, 8] rfl ?_
      refine AWPD.region tabOK rfl ?_
      refine hK15 _ _ ?_
      clear hK15
      first | refine AWPD.condP rfl (fun h2 => ?_) (fun h2 => ?_) | refine AWPD.condN rfl (fun h2 => ?_) (fun h2 => ?_) | refine AWPD.condAP rfl (fun h2 => ?_) (fun h2 => ?_) | refine AWPD.condOP rfl (fun h2 => ?_) (fun h2 => ?_) | refine AWPD.condONN rfl (fun h2 => ?_) (fun h2 => ?_) | refine AWPD.condOPN rfl (fun h2 => ?_) (fun h2 => ?_) | refine AWPD.condA rfl (fun h2 => ?_) (fun h2 => ?_) | refine AWPD.condO rfl (fun h2 => ?_) (fun h2 => ?_) | refine AWPD.cond rfl (fun h2 => ?_) (fun h2 => ?_)
      · try dsimp only [Ty.T] at h2
        try simp only [castL_self] at h2
        try simp only [Int.toNat_natCast] at h2
        try simp only [Int.toNat_zero] at h2
        have htk : t < k := by omega
        have hcg := candL_get (l := l) (x := x) (t := t) htk hkn
        have hlt := hlg t (by omega)
        refine AWPD.skip ?_
        refine hK14 _ _ ?_
        clear hK14
        refine AWPD.seq fun K16 hK16 => ?_
        refine AWPD.block ?_
        refine AWPD.seq fun K17 hK17 => ?_
        -- region 11
        refine AWPD.keep [0, 1, 5, 6, 7, 8] rfl ?_
        refine AWPD.draw tabOK [] rfl (by kernel_rfl) ?_
        repeat refine And.intro (by first | exact fun h => h | exact fun _ => rfl | (intro h; rw [h]; rfl) | omega | (intros; (try dsimp only [Ty.T, Ty.size]); (try simp only [castL_self, Int.toNat_natCast, Int.toNat_zero, Int.toNat_one, true_and, List.length_append, List.length_set, List.length_drop, List.length_take, List.length_replicate, List.length_cons, List.length_nil, Nat.zero_add, Nat.mul_one]); omega) | decide | (intros; simp_all; done) | (intros; simp_all; omega)) ?_
        refine hK17 _ _ ?_
        clear hK17
        first | refine AWPD.condP rfl (fun h3 => ?_) (fun h3 => ?_) | refine AWPD.condN rfl (fun h3 => ?_) (fun h3 => ?_) | refine AWPD.condAP rfl (fun h3 => ?_) (fun h3 => ?_) | refine AWPD.condOP rfl (fun h3 => ?_) (fun h3 => ?_) | refine AWPD.condONN rfl (fun h3 => ?_) (fun h3 => ?_) | refine AWPD.condOPN rfl (fun h3 => ?_) (fun h3 => ?_) | refine AWPD.condA rfl (fun h3 => ?_) (fun h3 => ?_) | refine AWPD.condO rfl (fun h3 => ?_) (fun h3 => ?_) | refine AWPD.cond rfl (fun h3 => ?_) (fun h3 => ?_)
        · try dsimp only [Ty.T] at h3
          try simp only [castL_self] at h3
          try simp only [Int.toNat_natCast] at h3
          try simp only [Int.toNat_zero] at h3
          have hq : 0 ≤ numV l x t ∧ l t = l k := ⟨by rw [← hcg]; exact h3.1, by have := h3.2; rw [hlt, hlk] at this; omega⟩
          -- region 12
          refine AWPD.keep [0, 1, 5, 6, 7, 8] rfl ?_
          refine AWPD.region tabOK rfl ?_
          repeat refine And.intro (by first | exact fun h => h | exact fun _ => rfl | (intro h; rw [h]; rfl) | omega | (intros; (try dsimp only [Ty.T, Ty.size]); (try simp only [castL_self, Int.toNat_natCast, Int.toNat_zero, Int.toNat_one, true_and, List.length_append, List.length_set, List.length_drop, List.length_take, List.length_replicate, List.length_cons, List.length_nil, Nat.zero_add, Nat.mul_one]); omega) | decide | (intros; simp_all; done) | (intros; simp_all; omega)) ?_
          refine hK16 _ _ ?_
          clear hK16
          -- region 10
          refine AWPD.keep [0, 1, 5, 6, 7, 8] rfl ?_
          refine AWPD.region tabOK rfl ?_
          repeat refine And.intro (by first | exact fun h => h | exact fun _ => rfl | (intro h; rw [h]; rfl) | omega | (intros; (try dsimp only [Ty.T, Ty.size]); (try simp only [castL_self, Int.toNat_natCast, Int.toNat_zero, Int.toNat_one, true_and, List.length_append, List.length_set, List.length_drop, List.length_take, List.length_replicate, List.length_cons, List.length_nil, Nat.zero_add, Nat.mul_one]); omega) | decide | (intros; simp_all; done) | (intros; simp_all; omega)) ?_
          refine ⟨n1 - 1, t + 1, [0], by omega, by omega, ⟨by decide, rfl⟩, ⟨⟨rfl, rfl, (by show (candL nn l x k t).set k ((candL nn l x k t).getD t 0) = _; rw [hcg]; exact candL_yes hkn hq)⟩, trivial⟩, ?_⟩
          repeat' first | exact True.intro | exact rfl | exact ⟨rfl, rfl⟩ | refine And.intro ?_ ?_
        · try dsimp only [Ty.T] at h3
          try simp only [castL_self] at h3
          try simp only [Int.toNat_natCast] at h3
          try simp only [Int.toNat_zero] at h3
          have hq : ¬(0 ≤ numV l x t ∧ l t = l k) := fun hh => h3 ⟨by rw [hcg]; exact hh.1, by rw [hlt, hlk]; omega⟩
          refine AWPD.skip ?_
          refine hK16 _ _ ?_
          clear hK16
          -- region 10
          refine AWPD.keep [0, 1, 5, 6, 7, 8] rfl ?_
          refine AWPD.region tabOK rfl ?_
          repeat refine And.intro (by first | exact fun h => h | exact fun _ => rfl | (intro h; rw [h]; rfl) | omega | (intros; (try dsimp only [Ty.T, Ty.size]); (try simp only [castL_self, Int.toNat_natCast, Int.toNat_zero, Int.toNat_one, true_and, List.length_append, List.length_set, List.length_drop, List.length_take, List.length_replicate, List.length_cons, List.length_nil, Nat.zero_add, Nat.mul_one]); omega) | decide | (intros; simp_all; done) | (intros; simp_all; omega)) ?_
          refine ⟨n1 - 1, t + 1, [0], by omega, by omega, ⟨by decide, rfl⟩, ⟨⟨rfl, rfl, candL_no hq⟩, trivial⟩, ?_⟩
          repeat' first | exact True.intro | exact rfl | exact ⟨rfl, rfl⟩ | refine And.intro ?_ ?_
      · try dsimp only [Ty.T] at h2
        try simp only [castL_self] at h2
        try simp only [Int.toNat_natCast] at h2
        try simp only [Int.toNat_zero] at h2
        have htk : t = k := by omega
        refine AWPD.exit ?_
        refine hK12 _ _ ?_
        clear hK12
        refine AWPD.seq fun K18 hK18 => ?_
        -- region 13
        refine AWPD.keep [0, 1, 5, 6, 7] rfl ?_
        refine AWPD.region tabOK rfl ?_
        repeat refine And.intro (by first | exact fun h => h | exact fun _ => rfl | (intro h; rw [h]; rfl) | omega | (intros; (try dsimp only [Ty.T, Ty.size]); (try simp only [castL_self, Int.toNat_natCast, Int.toNat_zero, Int.toNat_one, true_and, List.length_append, List.length_set, List.length_drop, List.length_take, List.length_replicate, List.length_cons, List.length_nil, Nat.zero_add, Nat.mul_one]); omega) | decide | (intros; simp_all; done) | (intros; simp_all; omega)) ?_
        refine hK18 _ _ ?_
        clear hK18
        first | refine AWPD.condP rfl (fun h4 => ?_) (fun h4 => ?_) | refine AWPD.condN rfl (fun h4 => ?_) (fun h4 => ?_) | refine AWPD.condAP rfl (fun h4 => ?_) (fun h4 => ?_) | refine AWPD.condOP rfl (fun h4 => ?_) (fun h4 => ?_) | refine AWPD.condONN rfl (fun h4 => ?_) (fun h4 => ?_) | refine AWPD.condOPN rfl (fun h4 => ?_) (fun h4 => ?_) | refine AWPD.condA rfl (fun h4 => ?_) (fun h4 => ?_) | refine AWPD.condO rfl (fun h4 => ?_) (fun h4 => ?_) | refine AWPD.cond rfl (fun h4 => ?_) (fun h4 => ?_)
        · try dsimp only [Ty.T] at h4
          try simp only [castL_self] at h4
          try simp only [Int.toNat_natCast] at h4
          try simp only [Int.toNat_zero] at h4
          have hc : candV l x k k < 0 := by rw [hco, htk] at h4; exact h4
          have hcn := cand_new hb hc
          refine AWPD.seq fun K19 hK19 => ?_
          -- region 14
          refine AWPD.keep [0, 1, 5, 6, 7] rfl ?_
          refine AWPD.region tabOK rfl ?_
          repeat refine And.intro (by first | exact fun h => h | exact fun _ => rfl | (intro h; rw [h]; rfl) | omega | (intros; (try dsimp only [Ty.T, Ty.size]); (try simp only [castL_self, Int.toNat_natCast, Int.toNat_zero, Int.toNat_one, true_and, List.length_append, List.length_set, List.length_drop, List.length_take, List.length_replicate, List.length_cons, List.length_nil, Nat.zero_add, Nat.mul_one]); omega) | decide | (intros; simp_all; done) | (intros; simp_all; omega)) ?_
          refine hK19 _ _ ?_
          clear hK19
          -- region 15
          refine AWPD.keep [0, 1, 5, 6, 7] rfl ?_
          refine AWPD.region tabOK rfl ?_
          repeat refine And.intro (by first | exact fun h => h | exact fun _ => rfl | (intro h; rw [h]; rfl) | omega | (intros; (try dsimp only [Ty.T, Ty.size]); (try simp only [castL_self, Int.toNat_natCast, Int.toNat_zero, Int.toNat_one, true_and, List.length_append, List.length_set, List.length_drop, List.length_take, List.length_replicate, List.length_cons, List.length_nil, Nat.zero_add, Nat.mul_one]); omega) | decide | (intros; simp_all; done) | (intros; simp_all; omega)) ?_
          refine hK8 _ _ ?_
          clear hK8
          -- region 5
          refine AWPD.keep [0, 1, 5, 6, 7] rfl ?_
          refine AWPD.region tabOK rfl ?_
          repeat refine And.intro (by first | exact fun h => h | exact fun _ => rfl | (intro h; rw [h]; rfl) | omega | (intros; (try dsimp only [Ty.T, Ty.size]); (try simp only [castL_self, Int.toNat_natCast, Int.toNat_zero, Int.toNat_one, true_and, List.length_append, List.length_set, List.length_drop, List.length_take, List.length_replicate, List.length_cons, List.length_nil, Nat.zero_add, Nat.mul_one]); omega) | decide | (intros; simp_all; done) | (intros; simp_all; omega)) ?_
          refine ⟨n0 - 1, k + 1, [0], by omega, by omega, ⟨by decide, rfl⟩, ⟨⟨rfl, rfl, (by show (candL nn l x k t).set k _ = _; rw [htk]; exact candL_new hkn hb hc)⟩, trivial⟩, ?_⟩
          repeat' first | (show ((qV l x k).length : Int) = ((qV l x (k + 1)).length : Int); rw [qV_no hb]) | (show ((qV l x k).length : Int) + 1 = ((qV l x (k + 1)).length : Int); omega) | (show ((qV l x k).length : Int) = ((qV l x (k + 1)).length : Int); omega) | exact True.intro | exact rfl | exact ⟨rfl, rfl⟩ | refine And.intro ?_ ?_
        · try dsimp only [Ty.T] at h4
          try simp only [castL_self] at h4
          try simp only [Int.toNat_natCast] at h4
          try simp only [Int.toNat_zero] at h4
          have hc : ¬candV l x k k < 0 := by rw [hco, htk] at h4; exact h4
          have hcn := cand_old hb hc
          refine AWPD.skip ?_
          refine hK8 _ _ ?_
          clear hK8
          -- region 5
          refine AWPD.keep [0, 1, 5, 6, 7] rfl ?_
          refine AWPD.region tabOK rfl ?_
          repeat refine And.intro (by first | exact fun h => h | exact fun _ => rfl | (intro h; rw [h]; rfl) | omega | (intros; (try dsimp only [Ty.T, Ty.size]); (try simp only [castL_self, Int.toNat_natCast, Int.toNat_zero, Int.toNat_one, true_and, List.length_append, List.length_set, List.length_drop, List.length_take, List.length_replicate, List.length_cons, List.length_nil, Nat.zero_add, Nat.mul_one]); omega) | decide | (intros; simp_all; done) | (intros; simp_all; omega)) ?_
          refine ⟨n0 - 1, k + 1, [0], by omega, by omega, ⟨by decide, rfl⟩, ⟨⟨rfl, rfl, (by rw [htk]; exact candL_old hkn hb hc)⟩, trivial⟩, ?_⟩
          repeat' first | (show ((qV l x k).length : Int) = ((qV l x (k + 1)).length : Int); rw [qV_no hb]) | (show ((qV l x k).length : Int) + 1 = ((qV l x (k + 1)).length : Int); omega) | (show ((qV l x k).length : Int) = ((qV l x (k + 1)).length : Int); omega) | exact True.intro | exact rfl | exact ⟨rfl, rfl⟩ | refine And.intro ?_ ?_
  · try dsimp only [Ty.T] at h0
    try simp only [castL_self] at h0
    try simp only [Int.toNat_natCast] at h0
    try simp only [Int.toNat_zero] at h0
    have hkn : k = nn := by omega
    refine AWPD.exit ?_
    refine hK4 _ _ ?_
    clear hK4
    refine AWPD.seq fun K20 hK20 => ?_
    -- region 16
    refine AWPD.keep [5] rfl ?_
    refine AWPD.region tabOK rfl ?_
    refine hK20 _ _ ?_
    clear hK20
    refine AWPD.ret (And.intro (.inl rfl) ?_)
    -- result 0
    exact ⟨_, 0, rfl, rfl, by rw [hkn]; rfl, row_free _ _ _⟩
theorem join3_if {nn : Nat} {l : Nat → Nat} {s t : Int} (hn : nn ≤ 1000000) (hs : 0 ≤ s ∧ s.toNat < nn) (ht : 0 ≤ t ∧ t.toNat < nn) {c : Bool} (hc : c = true) :
    LiftsO Tryd.prog 76 [.ob 0, .i s, .i t] (.row 3 .int (labL nn l)) (.b (decide (l s.toNat ≠ l t.toNat))) (.row 3 .int (labL nn (bif c then renR l s.toNat t.toNat else l))) := by
  subst hc
  exact join3_fn nn l s t hn hs ht

def alikeL (S : List (List Int)) (part : Int) (V : List Int) (n : Nat) : List Int := match hO S part V n with
  | some (s, t) => [(s : Int), (t : Int)]
  | none => []
theorem alikeL_len (S : List (List Int)) (part : Int) (V : List Int) (n : Nat) : (alikeL S part V n).length ≤ 2 := by
  unfold alikeL
  split <;> simp

theorem ralike_fn (P : Int) (A : List Int) (N S : List (List Int)) (V : List Int) (part : Int) (g : GoodM P A N S) (hp : 0 ≤ part ∧ part ≤ P - 1) (hv : V.length = N.length) : LiftsD Tryd.prog 41 [.agg [.i P, .sl .int A, .sl (.sl .int) N, .sl (.sl .int) S], .sl .int V, .i part] (.sl .int (alikeL S part V N.length)) := by
  have hN := g.few
  have hSl := g.lenS
  have hP := g.parts
  refine LiftsD.of_body 58 [.tmp 6] Tryd.func41 rfl Tryd.ntmps41 (by kernel_rfl) rfl rfl fun w0 X0 => ?_
  refine AWPD.seq fun K1 hK1 => ?_
  -- region 0
  refine AWPD.keep [0, 1, 2] rfl ?_
  refine AWPD.region tabOK rfl ?_
  refine hK1 _ _ ?_
  clear hK1
  refine AWPD.seq fun K2 hK2 => ?_
  refine AWPD.seq fun K3 hK3 => ?_
  -- region 1
  refine AWPD.keep [1, 2, 3] rfl ?_
  refine AWPD.region tabOK rfl ?_
  refine hK3 _ _ ?_
  clear hK3
  refine AWPD.block ?_
  -- LOOP 0 live [1, 2, 3, 7] changed [7]
  refine AWPD.loopK (σ := Nat) [1, 2, 3] (fun t base => (7, .i (t : Int)) :: base) (fun _ => []) (fun n t => n + t = N.length ∧ hO S part V t = none) (N.length) 0 [] rfl rfl (⟨by omega, rfl⟩) (by decide) trivial (by repeat' first | exact True.intro | exact rfl | exact ⟨rfl, rfl⟩ | refine And.intro ?_ ?_) fun n0 t hI0 => ?_
  obtain ⟨hn0, hv0⟩ := hI0
  refine AWPD.seq fun K4 hK4 => ?_
  refine AWPD.seq fun K5 hK5 => ?_
  -- region 2
  refine AWPD.keep [1, 2, 3, 7] rfl ?_
  refine AWPD.region tabOK rfl ?_
  refine hK5 _ _ ?_
  clear hK5
  first | refine AWPD.condP rfl (fun h0 => ?_) (fun h0 => ?_) | refine AWPD.condN rfl (fun h0 => ?_) (fun h0 => ?_) | refine AWPD.condAP rfl (fun h0 => ?_) (fun h0 => ?_) | refine AWPD.condOP rfl (fun h0 => ?_) (fun h0 => ?_) | refine AWPD.condONN rfl (fun h0 => ?_) (fun h0 => ?_) | refine AWPD.condOPN rfl (fun h0 => ?_) (fun h0 => ?_) | refine AWPD.condA rfl (fun h0 => ?_) (fun h0 => ?_) | refine AWPD.condO rfl (fun h0 => ?_) (fun h0 => ?_) | refine AWPD.cond rfl (fun h0 => ?_) (fun h0 => ?_)
  · try dsimp only [Ty.T] at h0
    try simp only [castL_self] at h0
    try simp only [Int.toNat_natCast] at h0
    try simp only [Int.toNat_zero] at h0
    have htl : t < N.length := by omega
    have hr1 := g.rowS t htl
    refine AWPD.skip ?_
    refine hK4 _ _ ?_
    clear hK4
    refine AWPD.seq fun K6 hK6 => ?_
    refine AWPD.block ?_
    refine AWPD.seq fun K7 hK7 => ?_
    -- region 4
    refine AWPD.keep [1, 2, 3, 7] rfl ?_
    refine AWPD.region tabOK rfl ?_
    refine hK7 _ _ ?_
    clear hK7
    refine AWPD.block ?_
    -- LOOP 1 live [1, 2, 3, 7, 8] changed [8]
    refine AWPD.loopK (σ := Nat) [1, 2, 3, 7] (fun s base => (8, .i (s : Int)) :: base) (fun _ => []) (fun n s => n + s = t ∧ hI S part V t s = none) (t) 0 [] rfl rfl (⟨by omega, rfl⟩) (by decide) trivial (by repeat' first | exact True.intro | exact rfl | exact ⟨rfl, rfl⟩ | refine And.intro ?_ ?_) fun n1 s hI1 => ?_
    obtain ⟨hn1, hv1⟩ := hI1
    refine AWPD.seq fun K8 hK8 => ?_
    refine AWPD.seq fun K9 hK9 => ?_
    -- region 5
    refine AWPD.keep [1, 2, 3, 7, 8] rfl ?_
    refine AWPD.region tabOK rfl ?_
    refine hK9 _ _ ?_
    clear hK9
    first | refine AWPD.condP rfl (fun h1 => ?_) (fun h1 => ?_) | refine AWPD.condN rfl (fun h1 => ?_) (fun h1 => ?_) | refine AWPD.condAP rfl (fun h1 => ?_) (fun h1 => ?_) | refine AWPD.condOP rfl (fun h1 => ?_) (fun h1 => ?_) | refine AWPD.condONN rfl (fun h1 => ?_) (fun h1 => ?_) | refine AWPD.condOPN rfl (fun h1 => ?_) (fun h1 => ?_) | refine AWPD.condA rfl (fun h1 => ?_) (fun h1 => ?_) | refine AWPD.condO rfl (fun h1 => ?_) (fun h1 => ?_) | refine AWPD.cond rfl (fun h1 => ?_) (fun h1 => ?_)
    · try dsimp only [Ty.T] at h1
      try simp only [castL_self] at h1
      try simp only [Int.toNat_natCast] at h1
      try simp only [Int.toNat_zero] at h1
      have hsl : s < t := by omega
      have hr2 := g.rowS s (by omega)
      refine AWPD.skip ?_
      refine hK8 _ _ ?_
      clear hK8
      refine AWPD.seq fun K10 hK10 => ?_
      refine AWPD.block ?_
      refine AWPD.seq fun K11 hK11 => ?_
      -- region 7
      refine AWPD.keep [1, 2, 3, 7, 8] rfl ?_
      refine AWPD.draw tabOK [] rfl (by kernel_rfl) ?_
      repeat refine And.intro (by first | exact fun h => h | exact fun _ => rfl | (intro h; rw [h]; rfl) | omega | (intros; (try dsimp only [Ty.T, Ty.size]); (try simp only [castL_self, Int.toNat_natCast, Int.toNat_zero, Int.toNat_one, true_and, List.length_append, List.length_set, List.length_drop, List.length_take, List.length_replicate, List.length_cons, List.length_nil, Nat.zero_add, Nat.mul_one]); omega) | decide | (intros; simp_all; done) | (intros; simp_all; omega)) ?_
      refine hK11 _ _ ?_
      clear hK11
      first | refine AWPD.cond rfl (fun h2 => ?_) (fun h2 => ?_)
      · try dsimp only [Ty.T] at h2
        try simp only [castL_self] at h2
        try simp only [Int.toNat_natCast] at h2
        try simp only [Int.toNat_zero] at h2
        have hb := bad_cond.1 h2
        refine AWPD.seq fun K12 hK12 => ?_
        -- region 8
        refine AWPD.keep [7, 8] rfl ?_
        refine AWPD.region tabOK rfl ?_
        refine hK12 _ _ ?_
        clear hK12
        refine AWPD.ret (And.intro (.inl rfl) ?_)
        -- result 0
        refine RetD.one ?_
        have ho := hO_at hv0 hv1 hsl htl hb
        exact ⟨rfl, (by unfold alikeL; rw [ho]; rfl)⟩
      · try dsimp only [Ty.T] at h2
        try simp only [castL_self] at h2
        try simp only [Int.toNat_natCast] at h2
        try simp only [Int.toNat_zero] at h2
        have hb := bad_not h2
        refine AWPD.skip ?_
        refine hK10 _ _ ?_
        clear hK10
        -- region 6
        refine AWPD.keep [1, 2, 3, 7, 8] rfl ?_
        refine AWPD.region tabOK rfl ?_
        repeat refine And.intro (by first | exact fun h => h | exact fun _ => rfl | (intro h; rw [h]; rfl) | omega | (intros; (try dsimp only [Ty.T, Ty.size]); (try simp only [castL_self, Int.toNat_natCast, Int.toNat_zero, Int.toNat_one, true_and, List.length_append, List.length_set, List.length_drop, List.length_take, List.length_replicate, List.length_cons, List.length_nil, Nat.zero_add, Nat.mul_one]); omega) | decide | (intros; simp_all; done) | (intros; simp_all; omega)) ?_
        refine ⟨n1 - 1, s + 1, [], by omega, ⟨by omega, hI_next hv1 hb⟩, ⟨by decide, rfl⟩, trivial, ?_⟩
        repeat' first | exact True.intro | exact rfl | exact ⟨rfl, rfl⟩ | refine And.intro ?_ ?_
    · try dsimp only [Ty.T] at h1
      try simp only [castL_self] at h1
      try simp only [Int.toNat_natCast] at h1
      try simp only [Int.toNat_zero] at h1
      have hsl : s = t := by omega
      have hv2 := hv1
      rw [hsl] at hv2
      refine AWPD.exit ?_
      refine hK6 _ _ ?_
      clear hK6
      -- region 3
      refine AWPD.keep [1, 2, 3, 7] rfl ?_
      refine AWPD.region tabOK rfl ?_
      repeat refine And.intro (by first | exact fun h => h | exact fun _ => rfl | (intro h; rw [h]; rfl) | omega | (intros; (try dsimp only [Ty.T, Ty.size]); (try simp only [castL_self, Int.toNat_natCast, Int.toNat_zero, Int.toNat_one, true_and, List.length_append, List.length_set, List.length_drop, List.length_take, List.length_replicate, List.length_cons, List.length_nil, Nat.zero_add, Nat.mul_one]); omega) | decide | (intros; simp_all; done) | (intros; simp_all; omega)) ?_
      refine ⟨n0 - 1, t + 1, [], by omega, ⟨by omega, hO_next hv0 hv2⟩, ⟨by decide, rfl⟩, trivial, ?_⟩
      repeat' first | exact True.intro | exact rfl | exact ⟨rfl, rfl⟩ | refine And.intro ?_ ?_
  · try dsimp only [Ty.T] at h0
    try simp only [castL_self] at h0
    try simp only [Int.toNat_natCast] at h0
    try simp only [Int.toNat_zero] at h0
    have htl : t = N.length := by omega
    refine AWPD.exit ?_
    refine hK2 _ _ ?_
    clear hK2
    refine AWPD.seq fun K13 hK13 => ?_
    -- region 9
    refine AWPD.keep [] rfl ?_
    refine AWPD.region tabOK rfl ?_
    refine hK13 _ _ ?_
    clear hK13
    refine AWPD.ret (And.intro (.inl rfl) ?_)
    -- result 1
    refine RetD.one ?_
    have ho : hO S part V N.length = none := by rw [← htl]; exact hv0
    exact fitN rfl (by unfold alikeL; rw [ho]) (by decide)
end Go.Proofs.YtndoigkmdcgjfaaDoor
