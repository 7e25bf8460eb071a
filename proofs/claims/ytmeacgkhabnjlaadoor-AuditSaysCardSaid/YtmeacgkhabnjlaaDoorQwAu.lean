/-
  WALKS of what sums give away. Laid by a program of mine out of the operations, with the loops and results told by hand.
-/
import Derived.Test.YtmeacgkhabnjlaaDoorQwOn
import Derived.Test.YtmeacgkhabnjlaaDoorQwQ
namespace Go.Proofs.YtmeacgkhabnjlaaDoor
open Go Go.Qw
set_option maxRecDepth 10000
set_option linter.unusedSimpArgs false
set_option linter.unusedVariables false

/-! ### Sets of bits, and whether an odd number of them is 1 -/
def parB (x : Nat) : Bool := decide (popN x % 2 = 1)
theorem popN_half (n : Nat) : popN n = n % 2 + popN (n / 2) := by
  cases Nat.eq_zero_or_pos n with
  | inl h => subst h; simp [popN]
  | inr h => exact popN_eq h
theorem pop_xor : ∀ x y : Nat, popN (x ^^^ y) % 2 = (popN x + popN y) % 2 := by
  intro x
  induction x using Nat.strongRecOn with
  | ind x ih =>
    intro y
    by_cases hx : x = 0
    · subst hx; simp [popN]
    · have h1 := ih (x / 2) (by omega) (y / 2)
      have e1 : (x ^^^ y) / 2 = x / 2 ^^^ y / 2 := Nat.xor_div_two
      have e2 : (x ^^^ y) % 2 = (x + y) % 2 := by
        have h := Nat.testBit_xor x y 0
        rw [Nat.testBit_zero, Nat.testBit_zero, Nat.testBit_zero] at h
        by_cases a : x % 2 = 1 <;> by_cases b : y % 2 = 1 <;> by_cases c : (x ^^^ y) % 2 = 1 <;> simp [a, b, c] at h <;> omega
      rw [popN_half (x ^^^ y), e1, popN_half x, popN_half y]
      omega
theorem par_xor (x y : Nat) : parB (x ^^^ y) = (parB x ^^ parB y) := by
  have h := pop_xor x y
  unfold parB
  by_cases h1 : popN x % 2 = 1 <;> by_cases h2 : popN y % 2 = 1
  · rw [decide_eq_true h1, decide_eq_true h2, decide_eq_false (by omega)]; rfl
  · rw [decide_eq_true h1, decide_eq_false h2, decide_eq_true (by omega)]; rfl
  · rw [decide_eq_false h1, decide_eq_true h2, decide_eq_true (by omega)]; rfl
  · rw [decide_eq_false h1, decide_eq_false h2, decide_eq_false (by omega)]; rfl
theorem par_zero : parB 0 = false := by simp [parB, popN]
/-- What turns sums into sums. -/
def Lin (φ : Nat → Bool) : Prop := ∀ x y, φ (x ^^^ y) = (φ x ^^ φ y)
theorem Lin.zero {φ : Nat → Bool} (h : Lin φ) : φ 0 = false := by
  have := h 0 0
  rw [Nat.xor_self] at this
  cases h0 : φ 0 with
  | false => rfl
  | true => rw [h0] at this; cases this
theorem par_lin (a : Nat) : Lin fun x => parB (x &&& a) := fun x y => by
  show parB ((x ^^^ y) &&& a) = _
  rw [Nat.and_xor_distrib_right, par_xor]
theorem Lin.add {φ ψ : Nat → Bool} (h : Lin φ) (k : Lin ψ) : Lin fun x => φ x ^^ ψ x := fun x y => by
  show (φ (x ^^^ y) ^^ ψ (x ^^^ y)) = ((φ x ^^ ψ x) ^^ (φ y ^^ ψ y))
  rw [h, k]
  cases φ x <;> cases φ y <;> cases ψ x <;> cases ψ y <;> rfl
/-! ### A basis, by highest bits -/
def cutS (B : Nat → Nat) (s : Nat) : Nat → Nat
  | 0 => s
  | j + 1 => if (cutS B s j).testBit (11 - j) = true ∧ B (11 - j) ≠ 0 then cutS B s j ^^^ B (11 - j) else cutS B s j
def cutV (B : Nat → Nat) (s : Nat) : Nat := cutS B s 12
def setB (B : Nat → Nat) (i v : Nat) : Nat → Nat := fun k => if k = i then v else B k
def stepB (p : (Nat → Nat) × Nat) (s : Nat) : (Nat → Nat) × Nat := if cutV p.1 s = 0 then p else (setB p.1 (Nat.log2 (cutV p.1 s)) (cutV p.1 s), p.2 + 1)
def ofS (asks : List Int) : Nat → (Nat → Nat) × Nat
  | 0 => (fun _ => 0, 0)
  | j + 1 => stepB (ofS asks j) (asks.getD j 0).toNat
def ofV (asks : List Int) : (Nat → Nat) × Nat := ofS asks asks.length
def cntB (B : Nat → Nat) : Nat → Nat
  | 0 => 0
  | k + 1 => cntB B k + if B k = 0 then 0 else 1
structure Ech (n : Nat) (B : Nat → Nat) : Prop where
  lt : ∀ i, B i ≠ 0 → B i < 2 ^ (i + 1)
  top : ∀ i, B i ≠ 0 → (B i).testBit i = true
  lim : ∀ i, n ≤ i → B i = 0
theorem ech_none (n : Nat) : Ech n fun _ => 0 := ⟨fun _ h => absurd rfl h, fun _ h => absurd rfl h, fun _ _ => rfl⟩
theorem Ech.all {n : Nat} {B : Nat → Nat} (h : Ech n B) (i : Nat) : B i < 2 ^ n := by
  by_cases h0 : B i = 0
  · rw [h0]; exact Nat.two_pow_pos n
  · have hi : i < n := Nat.lt_of_not_le fun hh => h0 (h.lim i hh)
    exact Nat.lt_of_lt_of_le (h.lt i h0) (Nat.pow_le_pow_right (by decide) (by omega))
theorem Ech.cutS_lt {n : Nat} {B : Nat → Nat} (h : Ech n B) {s : Nat} (hs : s < 2 ^ n) : ∀ j, cutS B s j < 2 ^ n
  | 0 => hs
  | j + 1 => by
    have ih := Ech.cutS_lt h hs j
    rw [cutS]
    split
    · exact Nat.xor_lt_two_pow ih (h.all _)
    · exact ih
theorem Ech.cutS_bit {n : Nat} {B : Nat → Nat} (h : Ech n B) (s : Nat) : ∀ j, j ≤ 12 → ∀ i, 12 - j ≤ i → i < 12 → B i ≠ 0 → (cutS B s j).testBit i = false
  | 0, _, i, h1, h2, _ => by omega
  | j + 1, hj, i, h1, h2, h3 => by
    have ih := Ech.cutS_bit h s j (by omega)
    rw [cutS]
    by_cases he : i = 11 - j
    · subst he
      split
      · rename_i hc
        rw [Nat.testBit_xor, hc.1, h.top _ h3]; rfl
      · rename_i hc
        cases hb : (cutS B s j).testBit (11 - j) with
        | false => rfl
        | true => exact absurd ⟨hb, h3⟩ hc
    · have hh := ih i (by omega) h2 h3
      split
      · rename_i hc
        rw [Nat.testBit_xor, hh, Nat.testBit_lt_two_pow (Nat.lt_of_lt_of_le (h.lt _ hc.2) (Nat.pow_le_pow_right (by decide) (by omega)))]
        rfl
      · exact hh
theorem cutS_lin {φ : Nat → Bool} (hl : Lin φ) {B : Nat → Nat} (h : ∀ i, φ (B i) = false) (s : Nat) : ∀ j, φ (cutS B s j) = φ s
  | 0 => rfl
  | j + 1 => by
    have ih := cutS_lin hl h s j
    rw [cutS]
    split
    · rw [hl, h, ih]; cases φ s <;> rfl
    · exact ih
theorem log_bit {r : Nat} (h : r ≠ 0) : r.testBit (Nat.log2 r) = true := by
  have h1 := Nat.log2_self_le h
  have h2 : r < 2 ^ (Nat.log2 r + 1) := Nat.lt_log2_self
  rw [Nat.testBit_eq_decide_div_mod_eq]
  have h3 : r / 2 ^ Nat.log2 r = 1 := by
    apply Nat.div_eq_of_lt_le
    · omega
    · rw [Nat.pow_succ] at h2; omega
  rw [h3]; rfl
theorem log_at {r i : Nat} (h : r.testBit i = true) (ha : ∀ k, i < k → r.testBit k = false) : Nat.log2 r = i := by
  have h0 : r ≠ 0 := by intro h0; subst h0; simp at h
  have h1 := Nat.ge_two_pow_of_testBit h
  have h2 : r < 2 ^ (i + 1) := Nat.lt_pow_two_of_testBit _ fun k hk => ha k (by omega)
  exact (Nat.log2_eq_iff h0).2 ⟨h1, h2⟩
theorem log_lt {r n : Nat} (h0 : r ≠ 0) (h : r < 2 ^ n) : Nat.log2 r < n := by
  apply Nat.lt_of_not_le
  intro hle
  have h1 := Nat.ge_two_pow_of_testBit (log_bit h0)
  have h2 : (2 : Nat) ^ n ≤ 2 ^ Nat.log2 r := Nat.pow_le_pow_right (by decide) hle
  omega
theorem cnt_set {B : Nat → Nat} {i v : Nat} (h0 : B i = 0) (hv : v ≠ 0) : ∀ k, cntB (setB B i v) k = cntB B k + if i < k then 1 else 0
  | 0 => by simp [cntB]
  | k + 1 => by
    have ih := cnt_set h0 hv k
    rw [cntB, cntB, ih]
    unfold setB
    by_cases h : k = i
    · subst h
      rw [if_pos rfl, if_neg hv, if_pos h0, if_neg (Nat.lt_irrefl k), if_pos (Nat.lt_succ_self k)]
    · rw [if_neg h]
      by_cases h2 : i < k
      · have h3 : i < k + 1 := by omega
        rw [if_pos h2, if_pos h3]; omega
      · have h3 : ¬i < k + 1 := by omega
        rw [if_neg h2, if_neg h3, Nat.add_zero, Nat.add_zero]
theorem cnt_le (B : Nat → Nat) : ∀ k, cntB B k ≤ k
  | 0 => Nat.le_refl _
  | k + 1 => by have := cnt_le B k; rw [cntB]; split <;> omega
theorem Ech.cnt {n : Nat} {B : Nat → Nat} (h : Ech n B) : ∀ d, cntB B (n + d) = cntB B n
  | 0 => rfl
  | d + 1 => by
    have ih := Ech.cnt h d
    show cntB B (n + d + 1) = _
    rw [cntB, ih, if_pos (h.lim _ (by omega))]; rfl
/-- What holds of the basis of asks. -/
structure Bas (n : Nat) (p : (Nat → Nat) × Nat) : Prop where
  ech : Ech n p.1
  cnt : p.2 = cntB p.1 12
theorem Bas.le {n : Nat} (hn : n ≤ 12) {p : (Nat → Nat) × Nat} (h : Bas n p) : p.2 ≤ n := by
  have h1 := h.ech.cnt (12 - n)
  rw [show n + (12 - n) = 12 by omega] at h1
  rw [h.cnt, h1]
  exact cnt_le _ _
theorem Bas.free {n : Nat} {p : (Nat → Nat) × Nat} (h : Bas n p) {s i : Nat} (hi : i < 12) (hb : (cutV p.1 s).testBit i = true) : p.1 i = 0 := by
  refine Decidable.byContradiction fun h0 => ?_
  have := h.ech.cutS_bit s 12 (Nat.le_refl _) i (by omega) hi h0
  rw [show cutS p.1 s 12 = cutV p.1 s from rfl, hb] at this
  cases this
theorem Bas.step {n : Nat} (hn : n ≤ 12) {p : (Nat → Nat) × Nat} (h : Bas n p) {s : Nat} (hs : s < 2 ^ n) : Bas n (stepB p s) := by
  unfold stepB
  split
  · exact h
  · rename_i h0
    have hlt := h.ech.cutS_lt hs 12
    have ht := log_lt h0 hlt
    have hb := log_bit h0
    refine ⟨⟨fun i hi => ?_, fun i hi => ?_, fun i hi => ?_⟩, ?_⟩
    · show setB _ _ _ i < _
      have hi : setB p.1 (Nat.log2 (cutV p.1 s)) (cutV p.1 s) i ≠ 0 := hi
      unfold setB at hi ⊢
      by_cases he : i = Nat.log2 (cutV p.1 s)
      · rw [if_pos he, he]; exact Nat.lt_log2_self
      · rw [if_neg he] at hi ⊢; exact h.ech.lt i hi
    · show (setB _ _ _ i).testBit i = _
      have hi : setB p.1 (Nat.log2 (cutV p.1 s)) (cutV p.1 s) i ≠ 0 := hi
      unfold setB at hi ⊢
      by_cases he : i = Nat.log2 (cutV p.1 s)
      · rw [if_pos he]; exact he ▸ hb
      · rw [if_neg he] at hi ⊢; exact h.ech.top i hi
    · show setB _ _ _ i = 0
      unfold setB
      rw [if_neg (by omega)]; exact h.ech.lim i hi
    · show p.2 + 1 = cntB (setB _ _ _) 12
      rw [cnt_set (h.free (by omega) hb) h0, if_pos (by omega), h.cnt]
def GoodA (n : Nat) (asks : List Int) : Prop := n ≤ 12 ∧ ∀ j, j < asks.length → (asks.getD j 0).toNat < 2 ^ n
theorem GoodA.bas {n : Nat} {asks : List Int} (g : GoodA n asks) : ∀ j, j ≤ asks.length → Bas n (ofS asks j)
  | 0, _ => ⟨ech_none n, rfl⟩
  | j + 1, hj => (GoodA.bas g j (by omega)).step g.1 (g.2 j (by omega))
theorem ofS_le (asks : List Int) : ∀ j, (ofS asks j).2 ≤ j
  | 0 => Nat.le_refl _
  | j + 1 => by
    have := ofS_le asks j
    rw [ofS, stepB]
    split
    · omega
    · show (ofS asks j).2 + 1 ≤ _; omega
theorem ofS_app (asks more : List Int) : ∀ j, j ≤ asks.length → ofS (asks ++ more) j = ofS asks j
  | 0, _ => rfl
  | j + 1, hj => by
    rw [ofS, ofS, ofS_app asks more j (by omega)]
    simp only [List.getD, List.getElem?_append_left (show j < asks.length by omega)]
theorem ofV_one (asks : List Int) (s : Int) : ofV (asks ++ [s]) = stepB (ofV asks) s.toNat := by
  unfold ofV
  rw [show (asks ++ [s]).length = asks.length + 1 by simp, ofS, ofS_app asks [s] _ (Nat.le_refl _)]
  simp [List.getD]
theorem ofV_rank (asks : List Int) (s : Int) : (ofV (asks ++ [s])).2 = if cutV (ofV asks).1 s.toNat = 0 then (ofV asks).2 else (ofV asks).2 + 1 := by
  rw [ofV_one, stepB]
  split <;> rfl
/-- What turns all asks into nothing turns the basis into nothing. -/
theorem ofS_lin {φ : Nat → Bool} (hl : Lin φ) {asks : List Int} (h : ∀ j, j < asks.length → φ (asks.getD j 0).toNat = false) : ∀ j, j ≤ asks.length → ∀ i, φ ((ofS asks j).1 i) = false
  | 0, _, i => hl.zero
  | j + 1, hj, i => by
    have ih := ofS_lin hl h j (by omega)
    rw [ofS, stepB]
    split
    · exact ih i
    · show φ (setB _ _ _ i) = false
      unfold setB
      split
      · rw [cutV, cutS_lin hl ih, h j (by omega)]
      · exact ih i
theorem tells_lin {φ : Nat → Bool} (hl : Lin φ) {asks : List Int} (h : ∀ j, j < asks.length → φ (asks.getD j 0).toNat = false) {s : Nat} (ht : cutV (ofV asks).1 s = 0) : φ s = false := by
  have := cutS_lin hl (fun i => ofS_lin hl h asks.length (Nat.le_refl _) i) s 12
  rw [show cutS (ofS asks asks.length).1 s 12 = 0 from ht, hl.zero] at this
  exact this.symm
/-- Two that are answered the same. -/
theorem tells_same {asks : List Int} {a b : Nat} (h : ∀ j, j < asks.length → parB ((asks.getD j 0).toNat &&& a) = parB ((asks.getD j 0).toNat &&& b)) {s : Nat} (ht : cutV (ofV asks).1 s = 0) : parB (s &&& a) = parB (s &&& b) := by
  have := tells_lin ((par_lin a).add (par_lin b)) (asks := asks) (fun j hj => by show (parB _ ^^ parB _) = false; rw [h j hj]; cases parB ((asks.getD j 0).toNat &&& b) <;> rfl) ht
  have this : (parB (s &&& a) ^^ parB (s &&& b)) = false := this
  cases h1 : parB (s &&& a) <;> cases h2 : parB (s &&& b) <;> rw [h1, h2] at this <;> first | rfl | cases this
/-! ### Bits that are answered the same -/
def fillX (B : Nat → Nat) (t : Nat) : Nat → Nat
  | 0 => 0
  | k + 1 => if B k ≠ 0 ∧ parB (B k &&& fillX B t k) = true ∨ B k = 0 ∧ k = t then fillX B t k ^^^ 2 ^ k else fillX B t k
theorem fillX_lt (B : Nat → Nat) (t : Nat) : ∀ k, fillX B t k < 2 ^ k
  | 0 => Nat.one_pos
  | k + 1 => by
    have ih := fillX_lt B t k
    have h2 : (2 : Nat) ^ k < 2 ^ (k + 1) := Nat.pow_lt_pow_right (by decide) (by omega)
    rw [fillX]
    split
    · exact Nat.xor_lt_two_pow (by omega) h2
    · omega
theorem fillX_low (B : Nat → Nat) (t : Nat) {i k : Nat} (hi : i < k) : ∀ d, (fillX B t (k + d)).testBit i = (fillX B t k).testBit i
  | 0 => rfl
  | d + 1 => by
    have ih := fillX_low B t hi d
    show (fillX B t (k + d + 1)).testBit i = _
    rw [fillX]
    split
    · rw [Nat.testBit_xor, Nat.testBit_two_pow, ih]
      rw [decide_eq_false (by omega)]; simp
    · exact ih
theorem pop_pow : ∀ k, popN (2 ^ k) = 1
  | 0 => by rw [show (2 : Nat) ^ 0 = 0 + 1 from rfl, popN]; simp [popN]
  | k + 1 => by
    rw [popN_half, Nat.pow_succ, Nat.mul_mod_left, Nat.mul_div_cancel _ (by decide), pop_pow k]
theorem par_pow (k : Nat) : parB (2 ^ k) = true := by unfold parB; rw [pop_pow]; rfl
theorem Ech.fill_at {n : Nat} {B : Nat → Nat} (h : Ech n B) (t : Nat) {k : Nat} (hk : k < n) (h0 : B k ≠ 0) : parB (B k &&& fillX B t n) = false := by
  have e : B k &&& fillX B t n = B k &&& fillX B t (k + 1) := Nat.eq_of_testBit_eq fun i => by
    rw [Nat.testBit_and, Nat.testBit_and]
    by_cases hi : i < k + 1
    · have := fillX_low B t hi (n - (k + 1))
      rw [show k + 1 + (n - (k + 1)) = n by omega] at this
      rw [this]
    · rw [Nat.testBit_lt_two_pow (Nat.lt_of_lt_of_le (h.lt k h0) (Nat.pow_le_pow_right (by decide) (show k + 1 ≤ i by omega)))]
      rfl
  rw [e, fillX]
  by_cases hp : parB (B k &&& fillX B t k) = true
  · rw [if_pos (.inl ⟨h0, hp⟩), Nat.and_xor_distrib_left, par_xor, hp]
    have e2 : B k &&& 2 ^ k = 2 ^ k := Nat.eq_of_testBit_eq fun i => by
      rw [Nat.testBit_and, Nat.testBit_two_pow]
      by_cases hi : k = i
      · subst hi; rw [h.top _ h0]; rfl
      · rw [decide_eq_false hi]; simp
    rw [e2, par_pow]; rfl
  · rw [if_neg (by rintro (h1 | h1); exact hp h1.2; exact h0 h1.1)]
    simpa using hp
theorem fill_free {B : Nat → Nat} {t : Nat} {k : Nat} (h0 : B k = 0) : (fillX B t (k + 1)).testBit k = decide (k = t) := by
  have hlt := Nat.testBit_lt_two_pow (fillX_lt B t k)
  rw [fillX]
  by_cases h : k = t
  · rw [if_pos (.inr ⟨h0, h⟩), Nat.testBit_xor, hlt, Nat.testBit_two_pow]
    simp [h]
  · rw [if_neg (by rintro (h1 | h1); exact h1.1 h0; exact h h1.2), hlt, decide_eq_false h]
theorem ofS_grow {n : Nat} {asks : List Int} (g : GoodA n asks) {φ : Nat → Bool} (hl : Lin φ) : ∀ d j, j + d = asks.length → (∀ i, φ ((ofS asks asks.length).1 i) = false) → ∀ i, φ ((ofS asks j).1 i) = false
  | 0, j, hj, h, i => by rw [Nat.add_zero] at hj; rw [hj]; exact h i
  | d + 1, j, hj, h, i => by
    have ih := ofS_grow g hl d (j + 1) (by omega) h
    have hb := g.bas j (by omega)
    rw [ofS, stepB] at ih
    split at ih
    · exact ih i
    · rename_i h0
      have ih : ∀ k, φ (setB (ofS asks j).1 (Nat.log2 (cutV (ofS asks j).1 (asks.getD j 0).toNat)) (cutV (ofS asks j).1 (asks.getD j 0).toNat) k) = false := ih
      by_cases he : i = Nat.log2 (cutV (ofS asks j).1 (asks.getD j 0).toNat)
      · rw [he, hb.free (by have := log_lt h0 (hb.ech.cutS_lt (g.2 j (by omega)) 12); have := g.1; omega) (log_bit h0)]
        exact hl.zero
      · have := ih i
        unfold setB at this
        rwa [if_neg he] at this
theorem ofS_asks {n : Nat} {asks : List Int} (g : GoodA n asks) {φ : Nat → Bool} (hl : Lin φ) (h : ∀ i, φ ((ofV asks).1 i) = false) {j : Nat} (hj : j < asks.length) : φ (asks.getD j 0).toNat = false := by
  have h1 := ofS_grow g hl (asks.length - j) j (by omega) h
  have h2 := ofS_grow g hl (asks.length - (j + 1)) (j + 1) (by omega) h
  have e := cutS_lin hl h1 (asks.getD j 0).toNat 12
  rw [← e]
  by_cases h0 : cutV (ofS asks j).1 (asks.getD j 0).toNat = 0
  · rw [show cutS (ofS asks j).1 (asks.getD j 0).toNat 12 = 0 from h0]; exact hl.zero
  · rw [ofS, stepB, if_neg h0] at h2
    have := h2 (Nat.log2 (cutV (ofS asks j).1 (asks.getD j 0).toNat))
    have this : φ (setB _ _ _ _) = false := this
    unfold setB at this
    rwa [if_pos rfl] at this
/-- What is not given away: other bits are answered the same, but for it. -/
theorem GoodA.other {n : Nat} {asks : List Int} (g : GoodA n asks) {s : Nat} (hs : s < 2 ^ n) (h0 : cutV (ofV asks).1 s ≠ 0) : ∃ x, x < 2 ^ n ∧ parB (s &&& x) = true ∧ ∀ j, j < asks.length → parB ((asks.getD j 0).toNat &&& x) = false := by
  have hb : Bas n (ofV asks) := g.bas asks.length (Nat.le_refl _)
  have hlt : cutV (ofV asks).1 s < 2 ^ n := hb.ech.cutS_lt hs 12
  have ht := log_lt h0 hlt
  have hn := g.1
  refine ⟨fillX (ofV asks).1 (Nat.log2 (cutV (ofV asks).1 s)) n, fillX_lt _ _ _, ?_, fun j hj => ?_⟩
  · have hz : ∀ i, parB ((ofV asks).1 i &&& fillX (ofV asks).1 (Nat.log2 (cutV (ofV asks).1 s)) n) = false := fun i => by
      by_cases hi : (ofV asks).1 i = 0
      · rw [hi, Nat.zero_and, par_zero]
      · exact hb.ech.fill_at _ (Nat.lt_of_not_le fun hh => hi (hb.ech.lim i hh)) hi
    have e := cutS_lin (par_lin (fillX (ofV asks).1 (Nat.log2 (cutV (ofV asks).1 s)) n)) hz s 12
    have e : parB (cutV (ofV asks).1 s &&& fillX (ofV asks).1 (Nat.log2 (cutV (ofV asks).1 s)) n) = parB (s &&& fillX (ofV asks).1 (Nat.log2 (cutV (ofV asks).1 s)) n) := e
    rw [← e]
    have e2 : cutV (ofV asks).1 s &&& fillX (ofV asks).1 (Nat.log2 (cutV (ofV asks).1 s)) n = 2 ^ Nat.log2 (cutV (ofV asks).1 s) := Nat.eq_of_testBit_eq fun i => by
      rw [Nat.testBit_and, Nat.testBit_two_pow]
      cases hi : (cutV (ofV asks).1 s).testBit i with
      | false =>
        rw [Bool.false_and, eq_comm, decide_eq_false_iff_not]
        intro hh; subst hh; rw [log_bit h0] at hi; cases hi
      | true =>
        have hin : i < n := by
          apply Nat.lt_of_not_le
          intro hle
          rw [Nat.testBit_lt_two_pow (Nat.lt_of_lt_of_le hlt (Nat.pow_le_pow_right (by decide) hle))] at hi
          cases hi
        have hf := hb.free (by omega) hi
        have := fillX_low (ofV asks).1 (Nat.log2 (cutV (ofV asks).1 s)) (show i < i + 1 by omega) (n - (i + 1))
        rw [show i + 1 + (n - (i + 1)) = n by omega] at this
        rw [this, fill_free hf, Bool.true_and]
        exact decide_eq_decide.2 eq_comm
    rw [e2, par_pow]
  · have hz : ∀ i, parB ((ofV asks).1 i &&& fillX (ofV asks).1 (Nat.log2 (cutV (ofV asks).1 s)) n) = false := fun i => by
      by_cases hi : (ofV asks).1 i = 0
      · rw [hi, Nat.zero_and, par_zero]
      · exact hb.ech.fill_at _ (Nat.lt_of_not_le fun hh => hi (hb.ech.lim i hh)) hi
    exact ofS_asks g (par_lin _) hz hj


def noG : World → Prop := fun _ => True
theorem noG_stays : StaysG noG := fun _ _ _ h => h
theorem noG_toD {P : Program} {f : FuncId} {l : List DV} {r : DV} (h : LiftsG P noG f l r) : LiftsD P f l r := ⟨h.1, fun w X V F vs m hv => by
  have hV0 : V = [] := List.eq_nil_of_length_eq_zero (by rw [m.lenV]; rfl)
  have hF0 : F = [] := List.eq_nil_of_length_eq_zero (by rw [m.lenF]; rfl)
  subst hV0 hF0
  exact h.2 w X vs trivial hv⟩
def basL (B : Nat → Nat) : List Int := (List.range 12).map fun k => ((B k : Nat) : Int)
theorem basL_len (B : Nat → Nat) : (basL B).length = 12 := by simp [basL]
theorem basL_get {B : Nat → Nat} {k : Nat} (h : k < 12) : (basL B).getD k 0 = ((B k : Nat) : Int) := by simp [basL, List.getD, h]
theorem basL_set (B : Nat → Nat) (i v : Nat) : (basL B).set i ((v : Nat) : Int) = basL (setB B i v) := by
  unfold basL
  refine List.ext_getElem (by simp) fun k h1 h2 => ?_
  simp only [List.getElem_set, List.getElem_map, List.getElem_range, setB]
  by_cases h : i = k
  · rw [if_pos h, if_pos h.symm]
  · rw [if_neg h, if_neg (fun hh => h hh.symm)]
theorem arr_free (e : TypeId) (xs : List Int) : (OD.arr e .int xs).ob.free = true := row_free e .int xs
theorem pow12 {n : Nat} (h : n ≤ 12) : 2 ^ n ≤ 4096 := Nat.pow_le_pow_right (by decide) h
/-- What is wrong with asks. -/
def askE (n : Int) (asks : List Int) : Int := if ¬(0 ≤ n ∧ n ≤ 12) then 1 else if 20 < asks.length then 4 else if (∀ j, j < asks.length → maskB (asks.getD j 0) n = true) then 0 else 1
structure GoodK (n : Int) (asks : List Int) : Prop where
  n0 : 0 ≤ n ∧ n ≤ 12
  len : asks.length ≤ 20
  all : ∀ j, j < asks.length → 0 ≤ asks.getD j 0 ∧ (asks.getD j 0).toNat < 2 ^ n.toNat
theorem mask_in {s n : Int} (h : maskB s n = true) : 0 ≤ s ∧ s.toNat < 2 ^ n.toNat := by
  have := of_decide_eq_true h
  omega
theorem ask_ok {n : Int} {asks : List Int} (h : askE n asks = 0) : GoodK n asks := by
  unfold askE at h
  split at h
  · cases h
  · rename_i h1
    split at h
    · cases h
    · rename_i h2
      split at h
      · rename_i h3
        exact ⟨Decidable.not_not.1 h1, by omega, fun j hj => mask_in (h3 j hj)⟩
      · cases h
theorem GoodK.a {n : Int} {asks : List Int} (g : GoodK n asks) : GoodA n.toNat asks := ⟨by have := g.n0; omega, fun j hj => (g.all j hj).2⟩
theorem GoodK.small {n : Int} {asks : List Int} (g : GoodK n asks) {j : Nat} (hj : j < asks.length) : 0 ≤ asks.getD j 0 ∧ asks.getD j 0 ≤ 4095 := by
  have h1 := g.all j hj
  have h2 := pow12 (n := n.toNat) (by have := g.n0; omega)
  omega
theorem ofS_yes {asks : List Int} {i : Nat} (h : cutV (ofS asks i).1 (asks.getD i 0).toNat ≠ 0) : ofS asks (i + 1) = (setB (ofS asks i).1 (Nat.log2 (cutV (ofS asks i).1 (asks.getD i 0).toNat)) (cutV (ofS asks i).1 (asks.getD i 0).toNat), (ofS asks i).2 + 1) := by rw [ofS, stepB, if_neg h]
theorem ofS_no {asks : List Int} {i : Nat} (h : cutV (ofS asks i).1 (asks.getD i 0).toNat = 0) : ofS asks (i + 1) = ofS asks i := by rw [ofS, stepB, if_pos h]
theorem cutS_yes {B : Nat → Nat} {s j : Nat} (h : (cutS B s j).testBit (11 - j) = true ∧ B (11 - j) ≠ 0) : cutS B s j ^^^ B (11 - j) = cutS B s (j + 1) := by rw [cutS, if_pos h]
theorem cutS_no {B : Nat → Nat} {s j : Nat} (h : ¬((cutS B s j).testBit (11 - j) = true ∧ B (11 - j) ≠ 0)) : cutS B s j = cutS B s (j + 1) := by rw [cutS, if_neg h]
/-- An answer. -/
def odV (a b : Int) : Int := ((popN (a.toNat &&& b.toNat) % 2 : Nat) : Int)
def ansL (asks : List Int) (bits : Int) (i : Nat) : List Int := (List.range i).map fun j => odV (asks.getD j 0) bits
theorem ansL_len (asks : List Int) (bits : Int) (i : Nat) : (ansL asks bits i).length = i := by simp [ansL]
theorem ansL_app (asks : List Int) (bits : Int) (i : Nat) : ansL asks bits i ++ [odV (asks.getD i 0) bits] = ansL asks bits (i + 1) := by simp [ansL, List.range_succ]
def rankV (n : Int) (asks : List Int) : Int := if askE n asks = 0 then ((ofV asks).2 : Int) else 0
def tellE (n : Int) (asks : List Int) (s : Int) : Int := if askE n asks = 0 then (if maskB s n = true then 0 else 1) else askE n asks
def tellV (n : Int) (asks : List Int) (s : Int) : Bool := decide (tellE n asks s = 0) && decide (cutV (ofV asks).1 s.toNat = 0)
def ansV (n : Int) (asks : List Int) (bits : Int) : List Int := if tellE n asks bits = 0 then ansL asks bits asks.length else []
theorem tell_ok {n : Int} {asks : List Int} {s : Int} (h : tellE n asks s = 0) : askE n asks = 0 ∧ maskB s n = true := by
  unfold tellE at h
  split at h
  · rename_i h1
    split at h
    · rename_i h2; exact ⟨h1, h2⟩
    · cases h
  · rename_i h1; exact absurd h h1

theorem acheck_fn (z : Int) (asks : List Int) : LiftsD Tryd.prog 14 [.i z, .sl .int asks] (.er 56 (askE z asks)) := by
  refine LiftsD.of_body 27 [.tmp 4] Tryd.func14 rfl Tryd.ntmps14 (by kernel_rfl) rfl rfl fun w0 X0 => ?_
  refine AWPD.seq fun K1 hK1 => ?_
  -- region 0
  refine AWPD.keep [0, 1] rfl ?_
  refine AWPD.region tabOK rfl ?_
  refine hK1 _ _ ?_
  clear hK1
  refine AWPD.seq fun K2 hK2 => ?_
  refine AWPD.seq fun K3 hK3 => ?_
  -- region 1
  refine AWPD.keep [0, 1] rfl ?_
  refine AWPD.region tabOK rfl ?_
  refine Exists.intro _ (Exists.intro _ (And.intro (StepD.call (within_fn _ _ _) rfl rfl rfl) (And.intro rfl (And.intro trivial ?_))))
  refine hK3 _ _ ?_
  clear hK3
  first | refine AWPD.cond rfl (fun h0 => ?_) (fun h0 => ?_)
  · try dsimp only [Ty.T] at h0
    try simp only [castL_self] at h0
    try simp only [Int.toNat_natCast] at h0
    try simp only [Int.toNat_zero] at h0
    have h0 : ¬(0 ≤ z ∧ z ≤ 12) := by simp at h0; omega
    refine AWPD.seq fun K4 hK4 => ?_
    -- region 2
    refine AWPD.keep [] rfl ?_
    refine AWPD.region tabOK rfl ?_
    repeat refine And.intro (by first | exact fun h => h | exact fun _ => rfl | (intro h; rw [h]; rfl) | omega | (intros; (try dsimp only [Ty.T, Ty.size]); (try simp only [castL_self, Int.toNat_natCast, Int.toNat_zero, Int.toNat_one, true_and, List.length_append, List.length_set, List.length_drop, List.length_take, List.length_replicate, List.length_cons, List.length_nil, Nat.zero_add, Nat.mul_one]); omega) | decide | (intros; simp_all; done) | (intros; simp_all; omega)) ?_
    refine hK4 _ _ ?_
    clear hK4
    refine AWPD.ret (And.intro (.inl rfl) ?_)
    -- result 0
    refine RetD.one ?_
    exact fitE rfl (by unfold askE; rw [if_pos h0])
  · try dsimp only [Ty.T] at h0
    try simp only [castL_self] at h0
    try simp only [Int.toNat_natCast] at h0
    try simp only [Int.toNat_zero] at h0
    have h0 : 0 ≤ z ∧ z ≤ 12 := by simpa using h0
    refine AWPD.skip ?_
    refine hK2 _ _ ?_
    clear hK2
    refine AWPD.seq fun K5 hK5 => ?_
    refine AWPD.seq fun K6 hK6 => ?_
    -- region 3
    refine AWPD.keep [0, 1] rfl ?_
    refine AWPD.region tabOK rfl ?_
    refine hK6 _ _ ?_
    clear hK6
    first | refine AWPD.condP rfl (fun h1 => ?_) (fun h1 => ?_) | refine AWPD.condN rfl (fun h1 => ?_) (fun h1 => ?_) | refine AWPD.condAP rfl (fun h1 => ?_) (fun h1 => ?_) | refine AWPD.condOP rfl (fun h1 => ?_) (fun h1 => ?_) | refine AWPD.condONN rfl (fun h1 => ?_) (fun h1 => ?_) | refine AWPD.condOPN rfl (fun h1 => ?_) (fun h1 => ?_) | refine AWPD.condA rfl (fun h1 => ?_) (fun h1 => ?_) | refine AWPD.condO rfl (fun h1 => ?_) (fun h1 => ?_) | refine AWPD.cond rfl (fun h1 => ?_) (fun h1 => ?_)
    · try dsimp only [Ty.T] at h1
      try simp only [castL_self] at h1
      try simp only [Int.toNat_natCast] at h1
      try simp only [Int.toNat_zero] at h1
      refine AWPD.seq fun K7 hK7 => ?_
      -- region 4
      refine AWPD.keep [] rfl ?_
      refine AWPD.region tabOK rfl ?_
      repeat refine And.intro (by first | exact fun h => h | exact fun _ => rfl | (intro h; rw [h]; rfl) | omega | (intros; (try dsimp only [Ty.T, Ty.size]); (try simp only [castL_self, Int.toNat_natCast, Int.toNat_zero, Int.toNat_one, true_and, List.length_append, List.length_set, List.length_drop, List.length_take, List.length_replicate, List.length_cons, List.length_nil, Nat.zero_add, Nat.mul_one]); omega) | decide | (intros; simp_all; done) | (intros; simp_all; omega)) ?_
      refine hK7 _ _ ?_
      clear hK7
      refine AWPD.ret (And.intro (.inl rfl) ?_)
      -- result 1
      refine RetD.one ?_
      exact fitE rfl (by unfold askE; rw [if_neg (fun h => h h0), if_pos (by omega)])
    · try dsimp only [Ty.T] at h1
      try simp only [castL_self] at h1
      try simp only [Int.toNat_natCast] at h1
      try simp only [Int.toNat_zero] at h1
      refine AWPD.skip ?_
      refine hK5 _ _ ?_
      clear hK5
      refine AWPD.seq fun K8 hK8 => ?_
      refine AWPD.seq fun K9 hK9 => ?_
      -- region 5
      refine AWPD.keep [0, 1] rfl ?_
      refine AWPD.region tabOK rfl ?_
      refine hK9 _ _ ?_
      clear hK9
      refine AWPD.block ?_
      -- LOOP 0 live [0, 15, 16, 17] changed [17]
      refine AWPD.loopK (σ := Nat) [0, 15, 16] (fun i base => (17, .i (i : Int)) :: base) (fun _ => []) (fun n i => n + i = asks.length ∧ ∀ j, j < i → maskB (asks.getD j 0) z = true) (asks.length) 0 [] rfl rfl (⟨by omega, by intro j hj; omega⟩) (by decide) trivial (by repeat' first | exact True.intro | exact rfl | exact ⟨rfl, rfl⟩ | refine And.intro ?_ ?_) fun n0 i hI0 => ?_
      obtain ⟨hn0, hv0⟩ := hI0
      refine AWPD.seq fun K10 hK10 => ?_
      -- region 6
      refine AWPD.keep [0, 15, 16, 17] rfl ?_
      refine AWPD.region tabOK rfl ?_
      refine hK10 _ _ ?_
      clear hK10
      refine AWPD.seq fun K11 hK11 => ?_
      first | refine AWPD.condP rfl (fun h2 => ?_) (fun h2 => ?_) | refine AWPD.condN rfl (fun h2 => ?_) (fun h2 => ?_) | refine AWPD.condAP rfl (fun h2 => ?_) (fun h2 => ?_) | refine AWPD.condOP rfl (fun h2 => ?_) (fun h2 => ?_) | refine AWPD.condONN rfl (fun h2 => ?_) (fun h2 => ?_) | refine AWPD.condOPN rfl (fun h2 => ?_) (fun h2 => ?_) | refine AWPD.condA rfl (fun h2 => ?_) (fun h2 => ?_) | refine AWPD.condO rfl (fun h2 => ?_) (fun h2 => ?_) | refine AWPD.cond rfl (fun h2 => ?_) (fun h2 => ?_)
      · try dsimp only [Ty.T] at h2
        try simp only [castL_self] at h2
        try simp only [Int.toNat_natCast] at h2
        try simp only [Int.toNat_zero] at h2
        refine AWPD.skip ?_
        refine hK11 _ _ ?_
        clear hK11
        refine AWPD.seq fun K12 hK12 => ?_
        refine AWPD.block ?_
        refine AWPD.seq fun K13 hK13 => ?_
        -- region 7
        refine AWPD.keep [0, 15, 16, 17] rfl ?_
        refine AWPD.region tabOK rfl ?_
        repeat refine And.intro (by first | exact fun h => h | exact fun _ => rfl | (intro h; rw [h]; rfl) | omega | (intros; (try dsimp only [Ty.T, Ty.size]); (try simp only [castL_self, Int.toNat_natCast, Int.toNat_zero, Int.toNat_one, true_and, List.length_append, List.length_set, List.length_drop, List.length_take, List.length_replicate, List.length_cons, List.length_nil, Nat.zero_add, Nat.mul_one]); omega) | decide | (intros; simp_all; done) | (intros; simp_all; omega)) ?_
        refine hK13 _ _ ?_
        clear hK13
        refine AWPD.seq fun K14 hK14 => ?_
        -- region 8
        refine AWPD.keep [0, 6, 15, 16, 17] rfl ?_
        refine AWPD.region tabOK rfl ?_
        refine Exists.intro _ (Exists.intro _ (And.intro (StepD.call (mask_fn _ _ (by omega)) rfl rfl rfl) (And.intro rfl (And.intro trivial ?_))))
        refine hK14 _ _ ?_
        clear hK14
        first | refine AWPD.cond rfl (fun h3 => ?_) (fun h3 => ?_)
        · try dsimp only [Ty.T] at h3
          try simp only [castL_self] at h3
          try simp only [Int.toNat_natCast] at h3
          try simp only [Int.toNat_zero] at h3
          have h3 : ¬maskB (asks.getD i 0) z = true := by simpa using h3
          refine AWPD.seq fun K15 hK15 => ?_
          -- region 9
          refine AWPD.keep [] rfl ?_
          refine AWPD.region tabOK rfl ?_
          repeat refine And.intro (by first | exact fun h => h | exact fun _ => rfl | (intro h; rw [h]; rfl) | omega | (intros; (try dsimp only [Ty.T, Ty.size]); (try simp only [castL_self, Int.toNat_natCast, Int.toNat_zero, Int.toNat_one, true_and, List.length_append, List.length_set, List.length_drop, List.length_take, List.length_replicate, List.length_cons, List.length_nil, Nat.zero_add, Nat.mul_one]); omega) | decide | (intros; simp_all; done) | (intros; simp_all; omega)) ?_
          refine hK15 _ _ ?_
          clear hK15
          refine AWPD.ret (And.intro (.inl rfl) ?_)
          -- result 2
          refine RetD.one ?_
          exact fitE rfl (by unfold askE; rw [if_neg (fun h => h h0), if_neg (by omega), if_neg (fun h => h3 (h i (by omega)))])
        · try dsimp only [Ty.T] at h3
          try simp only [castL_self] at h3
          try simp only [Int.toNat_natCast] at h3
          try simp only [Int.toNat_zero] at h3
          have h3 : maskB (asks.getD i 0) z = true := by simpa using h3
          refine AWPD.skip ?_
          refine hK12 _ _ ?_
          clear hK12
          -- region 10
          refine AWPD.keep [0, 15, 16, 17] rfl ?_
          refine AWPD.region tabOK rfl ?_
          repeat refine And.intro (by first | exact fun h => h | exact fun _ => rfl | (intro h; rw [h]; rfl) | omega | (intros; (try dsimp only [Ty.T, Ty.size]); (try simp only [castL_self, Int.toNat_natCast, Int.toNat_zero, Int.toNat_one, true_and, List.length_append, List.length_set, List.length_drop, List.length_take, List.length_replicate, List.length_cons, List.length_nil, Nat.zero_add, Nat.mul_one]); omega) | decide | (intros; simp_all; done) | (intros; simp_all; omega)) ?_
          refine ⟨n0 - 1, i + 1, [], by omega, ⟨by omega, fun j hj => by
              rcases Nat.lt_or_ge j i with h | h
              · exact hv0 j h
              · rw [show j = i by omega]; exact h3⟩, ⟨by decide, rfl⟩, trivial, ?_⟩
          repeat' first | exact True.intro | exact rfl | exact ⟨rfl, rfl⟩ | refine And.intro ?_ ?_
      · try dsimp only [Ty.T] at h2
        try simp only [castL_self] at h2
        try simp only [Int.toNat_natCast] at h2
        try simp only [Int.toNat_zero] at h2
        refine AWPD.exit ?_
        refine hK8 _ _ ?_
        clear hK8
        refine AWPD.seq fun K16 hK16 => ?_
        -- region 11
        refine AWPD.keep [] rfl ?_
        refine AWPD.region tabOK rfl ?_
        refine hK16 _ _ ?_
        clear hK16
        refine AWPD.ret (And.intro (.inl rfl) ?_)
        -- result 3
        refine RetD.one ?_
        exact fitE rfl (by unfold askE; rw [if_neg (fun h => h h0), if_neg (by omega), if_pos (fun j hj => hv0 j (by omega))])
theorem cut_fn (nb : Nat) (B : Nat → Nat) (s : Int) (hn : nb ≤ 12) (h : Ech nb B) (hs : 0 ≤ s ∧ s.toNat < 2 ^ nb) : LiftsO Tryd.prog 31 [.op 0 0, .i s] (.arr 58 .int (basL B)) (.i ((cutV B s.toNat : Nat) : Int)) (.arr 58 .int (basL B)) := by
  have hbl := basL_len B
  have hp := pow12 hn
  refine LiftsO.of_body 29 [.tmp 4] Tryd.func31 rfl Tryd.ntmps31 (by kernel_rfl) rfl rfl fun w0 X0 F0 x0 => ?_
  refine AWPD.seq fun K1 hK1 => ?_
  -- region 0
  refine AWPD.keep [0, 1] rfl ?_
  refine AWPD.region tabOK rfl ?_
  refine hK1 _ _ ?_
  clear hK1
  refine AWPD.seq fun K2 hK2 => ?_
  refine AWPD.seq fun K3 hK3 => ?_
  -- region 1
  refine AWPD.keep [0, 1] rfl ?_
  refine AWPD.region tabOK rfl ?_
  refine hK3 _ _ ?_
  clear hK3
  refine AWPD.block ?_
  -- LOOP 0 live [0, 1, 5] changed [1, 5]
  refine AWPD.loopK (σ := Nat) [] (fun j base => (0, .op 0 0) :: (1, .i ((cutS B s.toNat j : Nat) : Int)) :: (5, .i (11 - (j : Int))) :: base) (fun j => [.arr 58 .int (basL B)]) (fun n j => n + j = 12) (12) 0 [0] rfl rfl (by omega) (by decide) ⟨⟨rfl, rfl, rfl⟩, trivial⟩ (by repeat' first | (show s = ((cutS B s.toNat 0 : Nat) : Int); rw [cutS]; omega) | exact True.intro | exact rfl | exact ⟨rfl, rfl⟩ | refine And.intro ?_ ?_) fun n0 j hI0 => ?_
  have hn0 := hI0
  have hcl : cutS B s.toNat j < 4096 := Nat.lt_of_lt_of_le (h.cutS_lt hs.2 j) hp
  refine AWPD.seq fun K4 hK4 => ?_
  refine AWPD.seq fun K5 hK5 => ?_
  -- region 2
  refine AWPD.keep [0, 1, 5] rfl ?_
  refine AWPD.region tabOK rfl ?_
  refine hK5 _ _ ?_
  clear hK5
  first | refine AWPD.condP rfl (fun h0 => ?_) (fun h0 => ?_) | refine AWPD.condN rfl (fun h0 => ?_) (fun h0 => ?_) | refine AWPD.condAP rfl (fun h0 => ?_) (fun h0 => ?_) | refine AWPD.condOP rfl (fun h0 => ?_) (fun h0 => ?_) | refine AWPD.condONN rfl (fun h0 => ?_) (fun h0 => ?_) | refine AWPD.condOPN rfl (fun h0 => ?_) (fun h0 => ?_) | refine AWPD.condA rfl (fun h0 => ?_) (fun h0 => ?_) | refine AWPD.condO rfl (fun h0 => ?_) (fun h0 => ?_) | refine AWPD.cond rfl (fun h0 => ?_) (fun h0 => ?_)
  · try dsimp only [Ty.T] at h0
    try simp only [castL_self] at h0
    try simp only [Int.toNat_natCast] at h0
    try simp only [Int.toNat_zero] at h0
    have hj : j < 12 := by omega
    have hix : (11 - (j : Int)).toNat = 11 - j := by omega
    have hbg := basL_get (B := B) (k := 11 - j) (by omega)
    have hba := h.all (11 - j)
    refine AWPD.skip ?_
    refine hK4 _ _ ?_
    clear hK4
    refine AWPD.seq fun K6 hK6 => ?_
    refine AWPD.block ?_
    refine AWPD.seq fun K7 hK7 => ?_
    -- region 4
    refine AWPD.keep [0, 1, 5] rfl ?_
    refine AWPD.region tabOK rfl ?_
    refine Exists.intro _ (Exists.intro _ (And.intro (StepD.call (has_fn _ _ (by omega) (by omega)) rfl rfl rfl) (And.intro rfl (And.intro trivial ?_))))
    repeat refine And.intro (by first | exact fun h => h | exact fun _ => rfl | (intro h; rw [h]; rfl) | omega | (intros; (try dsimp only [Ty.T, Ty.size]); (try simp only [castL_self, Int.toNat_natCast, Int.toNat_zero, Int.toNat_one, true_and, List.length_append, List.length_set, List.length_drop, List.length_take, List.length_replicate, List.length_cons, List.length_nil, Nat.zero_add, Nat.mul_one]); omega) | decide | (intros; simp_all; done) | (intros; simp_all; omega)) ?_
    refine hK7 _ _ ?_
    clear hK7
    first | refine AWPD.cond rfl (fun h1 => ?_) (fun h1 => ?_)
    · try dsimp only [Ty.T] at h1
      try simp only [castL_self] at h1
      try simp only [Int.toNat_natCast] at h1
      try simp only [Int.toNat_zero] at h1
      simp only [hix, hbg, Bool.cond_false_right, Bool.and_eq_true, decide_eq_true_eq] at h1
      have hc : (cutS B s.toNat j).testBit (11 - j) = true ∧ B (11 - j) ≠ 0 := ⟨h1.1, by omega⟩
      have hx : bitsI .xor ((cutS B s.toNat j : Nat) : Int) ((basL B).getD (11 - (j : Int)).toNat 0) = ((cutS B s.toNat (j + 1) : Nat) : Int) := by
        rw [hix, hbg, bits_xor (by omega) (by omega), Int.toNat_natCast, Int.toNat_natCast, cutS_yes hc]
      -- region 5
      refine AWPD.keep [0, 1, 5] rfl ?_
      refine AWPD.region tabOK rfl ?_
      repeat refine And.intro (by first | exact fun h => h | exact fun _ => rfl | (intro h; rw [h]; rfl) | omega | (intros; (try dsimp only [Ty.T, Ty.size]); (try simp only [castL_self, Int.toNat_natCast, Int.toNat_zero, Int.toNat_one, true_and, List.length_append, List.length_set, List.length_drop, List.length_take, List.length_replicate, List.length_cons, List.length_nil, Nat.zero_add, Nat.mul_one]); omega) | decide | (intros; simp_all; done) | (intros; simp_all; omega)) ?_
      refine hK6 _ _ ?_
      clear hK6
      -- region 3
      refine AWPD.keep [0, 1, 5] rfl ?_
      refine AWPD.region tabOK rfl ?_
      repeat refine And.intro (by first | exact fun h => h | exact fun _ => rfl | (intro h; rw [h]; rfl) | omega | (intros; (try dsimp only [Ty.T, Ty.size]); (try simp only [castL_self, Int.toNat_natCast, Int.toNat_zero, Int.toNat_one, true_and, List.length_append, List.length_set, List.length_drop, List.length_take, List.length_replicate, List.length_cons, List.length_nil, Nat.zero_add, Nat.mul_one]); omega) | decide | (intros; simp_all; done) | (intros; simp_all; omega)) ?_
      refine ⟨n0 - 1, j + 1, [0], by omega, by omega, ⟨by decide, rfl⟩, ⟨⟨rfl, rfl, rfl⟩, trivial⟩, ?_⟩
      repeat' first | exact hx | exact congrArg Int.ofNat (cutS_no hc) | (show (11 : Int) - (j : Int) - 1 = 11 - ((j + 1 : Nat) : Int); omega) | exact True.intro | exact rfl | exact ⟨rfl, rfl⟩ | refine And.intro ?_ ?_
    · try dsimp only [Ty.T] at h1
      try simp only [castL_self] at h1
      try simp only [Int.toNat_natCast] at h1
      try simp only [Int.toNat_zero] at h1
      simp only [hix, hbg, Bool.cond_false_right, Bool.and_eq_false_iff, decide_eq_false_iff_not] at h1
      have hc : ¬((cutS B s.toNat j).testBit (11 - j) = true ∧ B (11 - j) ≠ 0) := by
        rintro ⟨ha, hb⟩
        rcases h1 with h1 | h1
        · rw [h1] at ha; cases ha
        · omega
      refine AWPD.skip ?_
      refine hK6 _ _ ?_
      clear hK6
      -- region 3
      refine AWPD.keep [0, 1, 5] rfl ?_
      refine AWPD.region tabOK rfl ?_
      repeat refine And.intro (by first | exact fun h => h | exact fun _ => rfl | (intro h; rw [h]; rfl) | omega | (intros; (try dsimp only [Ty.T, Ty.size]); (try simp only [castL_self, Int.toNat_natCast, Int.toNat_zero, Int.toNat_one, true_and, List.length_append, List.length_set, List.length_drop, List.length_take, List.length_replicate, List.length_cons, List.length_nil, Nat.zero_add, Nat.mul_one]); omega) | decide | (intros; simp_all; done) | (intros; simp_all; omega)) ?_
      refine ⟨n0 - 1, j + 1, [0], by omega, by omega, ⟨by decide, rfl⟩, ⟨⟨rfl, rfl, rfl⟩, trivial⟩, ?_⟩
      repeat' first | exact hx | exact congrArg Int.ofNat (cutS_no hc) | (show (11 : Int) - (j : Int) - 1 = 11 - ((j + 1 : Nat) : Int); omega) | exact True.intro | exact rfl | exact ⟨rfl, rfl⟩ | refine And.intro ?_ ?_
  · try dsimp only [Ty.T] at h0
    try simp only [castL_self] at h0
    try simp only [Int.toNat_natCast] at h0
    try simp only [Int.toNat_zero] at h0
    have hj : j = 12 := by omega
    refine AWPD.exit ?_
    refine hK2 _ _ ?_
    clear hK2
    refine AWPD.seq fun K8 hK8 => ?_
    -- region 6
    refine AWPD.keep [1] rfl ?_
    refine AWPD.region tabOK rfl ?_
    refine hK8 _ _ ?_
    clear hK8
    refine AWPD.ret (And.intro (.inl rfl) ?_)
    -- result 0
    exact ⟨⟨rfl, by rw [hj]; rfl, rfl⟩, FoldO.at0 rfl (arr_free _ _)⟩
end Go.Proofs.YtmeacgkhabnjlaaDoor
