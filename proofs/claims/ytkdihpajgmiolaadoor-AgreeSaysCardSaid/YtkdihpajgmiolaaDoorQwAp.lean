/-
  The plain law of how sure one is: on the whole, where both are as sure everywhere, and cut down.
-/
import Derived.Test.YtkdihpajgmiolaaDoorQwAg
namespace Go.Proofs.YtkdihpajgmiolaaDoor
open Go Go.Qw
set_option maxRecDepth 10000
set_option linter.unusedSimpArgs false
set_option linter.unusedVariables false
set_option linter.unusedSectionVars false


/-! ### Sums -/

def sumN (f : Nat → Int) : Nat → Int
  | 0 => 0
  | n + 1 => sumN f n + f n
theorem sumN_congr {f g : Nat → Int} : ∀ {n : Nat}, (∀ i, i < n → f i = g i) → sumN f n = sumN g n
  | 0, _ => rfl
  | n + 1, h => by rw [sumN, sumN, sumN_congr fun i hi => h i (by omega), h n (by omega)]
theorem sumN_zero {f : Nat → Int} : ∀ {n : Nat}, (∀ i, i < n → f i = 0) → sumN f n = 0
  | 0, _ => rfl
  | n + 1, h => by rw [sumN, sumN_zero fun i hi => h i (by omega), h n (by omega)]; rfl
theorem sumN_add (f g : Nat → Int) : ∀ n, sumN (fun i => f i + g i) n = sumN f n + sumN g n
  | 0 => rfl
  | n + 1 => by rw [sumN, sumN, sumN, sumN_add f g n]; omega
theorem sumN_mul (f : Nat → Int) (c : Int) : ∀ n, sumN (fun i => f i * c) n = sumN f n * c
  | 0 => by simp [sumN]
  | n + 1 => by rw [sumN, sumN, sumN_mul f c n, Int.add_mul]
theorem sumN_sub (f g : Nat → Int) : ∀ n, sumN (fun i => f i - g i) n = sumN f n - sumN g n
  | 0 => rfl
  | n + 1 => by rw [sumN, sumN, sumN, sumN_sub f g n]; omega
theorem sumN_cut {f : Nat → Int} {m : Nat} (h : ∀ i, m ≤ i → f i = 0) : ∀ {n : Nat}, m ≤ n → sumN f n = sumN f m
  | 0, hm => by rw [show m = 0 by omega]
  | n + 1, hm => by
    by_cases he : m = n + 1
    · rw [he]
    · rw [sumN, h n (by omega), sumN_cut h (n := n) (by omega), Int.add_zero]
theorem sumN_nonneg {f : Nat → Int} : ∀ {n : Nat}, (∀ i, i < n → 0 ≤ f i) → 0 ≤ sumN f n
  | 0, _ => Int.le_refl _
  | n + 1, h => by have := sumN_nonneg fun i (hi : i < n) => h i (by omega); have := h n (by omega); rw [sumN]; omega
theorem sumN_le {f : Nat → Int} {b : Int} : ∀ {n : Nat}, (∀ i, i < n → f i ≤ b) → sumN f n ≤ b * n
  | 0, _ => by simp [sumN]
  | n + 1, h => by
    have h1 := sumN_le fun i (hi : i < n) => h i (by omega)
    have h2 := h n (by omega)
    rw [sumN, show b * ((n + 1 : Nat) : Int) = b * (n : Int) + b by rw [Int.natCast_succ, Int.mul_add, Int.mul_one]]
    omega
theorem sumN_mono {f g : Nat → Int} : ∀ {n : Nat}, (∀ i, i < n → f i ≤ g i) → sumN f n ≤ sumN g n
  | 0, _ => Int.le_refl _
  | n + 1, h => by have := sumN_mono fun i (hi : i < n) => h i (by omega); have := h n (by omega); rw [sumN, sumN]; omega
theorem sumN_ge {f : Nat → Int} {n j : Nat} (h : ∀ i, i < n → 0 ≤ f i) (hj : j < n) : f j ≤ sumN f n := by
  induction n with
  | zero => omega
  | succ n ih =>
    rw [sumN]
    by_cases he : j = n
    · subst he
      have := sumN_nonneg fun i (hi : i < j) => h i (by omega)
      omega
    · have := ih (fun i hi => h i (by omega)) (by omega)
      have := h n (by omega)
      omega
/-- Two sums, the other way round. -/
theorem sumN_one (K k : Nat) (c : Int) (hk : k < K) : sumN (fun a => if k = a then c else 0) K = c := by
  induction K with
  | zero => omega
  | succ K ih =>
    rw [sumN]
    by_cases he : k = K
    · subst he
      rw [if_pos rfl, sumN_zero fun i hi => if_neg (by omega)]; omega
    · rw [if_neg he, ih (by omega)]; omega
theorem sumN_class {f : Nat → Int} {cls : Nat → Nat} {K : Nat} : ∀ {n : Nat}, (∀ i, i < n → cls i < K) → sumN f n = sumN (fun k => sumN (fun i => if cls i = k then f i else 0) n) K
  | 0, _ => (sumN_zero fun _ _ => rfl).symm
  | n + 1, h => by
    have ih := sumN_class (f := f) (n := n) fun i hi => h i (by omega)
    rw [sumN, ih]
    have e : sumN (fun k => sumN (fun i => if cls i = k then f i else 0) (n + 1)) K = sumN (fun k => sumN (fun i => if cls i = k then f i else 0) n + (if cls n = k then f n else 0)) K := sumN_congr fun k _ => rfl
    rw [e, sumN_add, sumN_one K (cls n) (f n) (h n (by omega))]

/-! ### Weights -/

theorem sumK_take {f : Nat → Int} {L : List Nat} : ∀ {k : Nat}, k ≤ L.length → sumK f L k = ((L.take k).map f).sum
  | 0, _ => by simp [sumK]
  | k + 1, h => by
    have e : L.take (k + 1) = L.take k ++ [L.getD k 0] := by
      rw [show L.getD k 0 = L[k] by simp only [List.getD, List.getElem?_eq_getElem (show k < L.length by omega), Option.getD_some]]
      exact (List.take_append_getElem (by omega)).symm
    rw [sumK, sumK_take (by omega), e, List.map_append, List.sum_append]
    simp only [List.map_cons, List.map_nil, List.sum_cons, List.sum_nil, Int.add_zero]
theorem filter_sum (f : Nat → Int) (P : Nat → Bool) : ∀ n, (((List.range n).filter P).map f).sum = sumN (fun i => if P i = true then f i else 0) n
  | 0 => by simp [sumN]
  | n + 1 => by
    rw [List.range_succ, List.filter_append, List.map_append, List.sum_append, filter_sum f P n, sumN]
    by_cases h : P n = true
    · simp [h]
    · simp [h]
theorem weighN_sum {ws : List Int} {x n : Nat} (hx : x < 2 ^ n) (hn : n ≤ 63) : weighN ws x = sumN (fun i => if x.testBit i = true then ws.getD i 0 else 0) n := by
  unfold weighN
  rw [sumK_take (Nat.le_refl _), List.take_length]
  unfold bitsL
  rw [filter_sum]
  exact sumN_cut (fun i hi => if_neg (fun h => by have := bit_lt hx h; omega)) hn
/-- The weight of a class; of what of it is in the event. -/
def inB (ws : List Int) (P : Nat → Prop) [DecidablePred P] (n : Nat) : Int := sumN (fun i => if P i then ws.getD i 0 else 0) n
theorem class_w {p ws : List Int} {k : Int} (hl : p.length ≤ 63) : weighN ws (maskP p k p.length) = inB ws (fun i => p.getD i 0 = k) p.length := by
  rw [weighN_sum (maskP_lt _ _ _) hl]
  refine sumN_congr fun i hi => ?_
  rw [maskP_bit, decide_eq_true hi, Bool.true_and]
  simp only [decide_eq_true_eq]
theorem class_e {p ws : List Int} {k : Int} {e : Nat} (hl : p.length ≤ 63) : weighN ws (maskP p k p.length &&& e) = inB ws (fun i => p.getD i 0 = k ∧ e.testBit i = true) p.length := by
  rw [weighN_sum (Nat.lt_of_le_of_lt Nat.and_le_left (maskP_lt _ _ _)) hl]
  refine sumN_congr fun i hi => ?_
  rw [Nat.testBit_and, maskP_bit, decide_eq_true hi, Bool.true_and]
  simp only [Bool.and_eq_true, decide_eq_true_eq]
/-- So much of so much, cut down. -/
structure Cut (A B : Int) (x : Int × Int) : Prop where
  fac : ∃ g : Int, 1 ≤ g ∧ A = x.1 * g ∧ B = x.2 * g
  one : Int.gcd x.1 x.2 = 1
  lo : 0 ≤ x.1
  pos : 1 ≤ x.2
theorem cut_of {A B : Int} (hA : 0 ≤ A) (hB : 1 ≤ B) : Cut A B (A / (Int.gcd A B : Nat), B / (Int.gcd A B : Nat)) := by
  obtain ⟨a, rfl⟩ : ∃ m : Nat, A = (m : Int) := ⟨A.toNat, by omega⟩
  obtain ⟨b, rfl⟩ : ∃ m : Nat, B = (m : Int) := ⟨B.toNat, by omega⟩
  rw [Int.gcd_natCast_natCast]
  have hg : 0 < Nat.gcd a b := Nat.gcd_pos_of_pos_right _ (by omega)
  have da := Nat.gcd_dvd_left a b
  have db := Nat.gcd_dvd_right a b
  have ea := Nat.div_mul_cancel da
  have eb := Nat.div_mul_cancel db
  rw [← Int.natCast_ediv, ← Int.natCast_ediv]
  refine ⟨⟨(Nat.gcd a b : Nat), by omega, ?_, ?_⟩, ?_, Int.natCast_nonneg _, ?_⟩
  · show (a : Int) = ((a / Nat.gcd a b : Nat) : Int) * _
    rw [← Int.natCast_mul, ea]
  · show (b : Int) = ((b / Nat.gcd a b : Nat) : Int) * _
    rw [← Int.natCast_mul, eb]
  · show Int.gcd ((a / Nat.gcd a b : Nat) : Int) ((b / Nat.gcd a b : Nat) : Int) = 1
    rw [Int.gcd_natCast_natCast]
    exact Nat.coprime_div_gcd_div_gcd hg
  · show (1 : Int) ≤ ((b / Nat.gcd a b : Nat) : Int)
    have : 0 < b / Nat.gcd a b := Nat.div_pos (Nat.le_of_dvd (by omega) db) hg
    omega
theorem Cut.cross {A B : Int} {x : Int × Int} (h : Cut A B x) : A * x.2 = B * x.1 := by
  obtain ⟨g, _, h1, h2⟩ := h.fac
  rw [h1, h2, Int.mul_assoc, Int.mul_assoc, Int.mul_comm g, Int.mul_comm g, ← Int.mul_assoc, ← Int.mul_assoc, Int.mul_comm x.1]
/-- Cut down, they are the same if they are so much of so much alike. -/
theorem cut_eq {A B C D : Int} {x y : Int × Int} (hx : Cut A B x) (hy : Cut C D y) (h : x.1 * y.2 = y.1 * x.2) : x = y := by
  obtain ⟨a, ha⟩ : ∃ m : Nat, x.1 = (m : Int) := ⟨x.1.toNat, by have := hx.lo; omega⟩
  obtain ⟨b, hb⟩ : ∃ m : Nat, x.2 = (m : Int) := ⟨x.2.toNat, by have := hx.pos; omega⟩
  obtain ⟨c, hc⟩ : ∃ m : Nat, y.1 = (m : Int) := ⟨y.1.toNat, by have := hy.lo; omega⟩
  obtain ⟨d, hd⟩ : ∃ m : Nat, y.2 = (m : Int) := ⟨y.2.toNat, by have := hy.pos; omega⟩
  have h1 := hx.one
  have h2 := hy.one
  rw [ha, hb, Int.gcd_natCast_natCast] at h1
  rw [hc, hd, Int.gcd_natCast_natCast] at h2
  rw [ha, hb, hc, hd, ← Int.natCast_mul, ← Int.natCast_mul] at h
  have h3 : a * d = c * b := by omega
  have hbd : b ∣ d := Nat.Coprime.dvd_of_dvd_mul_left (k := b) (m := a) (n := d) (by rw [Nat.coprime_comm]; exact h1) ⟨c, by rw [h3, Nat.mul_comm]⟩
  have hdb : d ∣ b := Nat.Coprime.dvd_of_dvd_mul_left (k := d) (m := c) (n := b) (by rw [Nat.coprime_comm]; exact h2) ⟨a, by rw [← h3, Nat.mul_comm]⟩
  have e : b = d := Nat.dvd_antisymm hbd hdb
  have hp := hx.pos
  subst e
  have e2 : a = c := Nat.eq_of_mul_eq_mul_right (show 0 < b by omega) h3
  exact Prod.ext (by omega) (by omega)

/-! ### How sure one is, world by world -/

def xAt (p ws : List Int) (e i : Nat) : Int × Int := sureV ws (maskP p (p.getD i 0) p.length) e
structure Bel (p ws : List Int) : Prop where
  hp : partE p = 0
  wl : ws.length = p.length
  wt : Wts ws
theorem Bel.len {p ws : List Int} (b : Bel p ws) : p.length ≤ 12 := by have := b.wt.1; have := b.wl; omega
theorem Bel.cut {p ws : List Int} (b : Bel p ws) (e : Nat) {i : Nat} (hi : i < p.length) : Cut (inB ws (fun j => p.getD j 0 = p.getD i 0 ∧ e.testBit j = true) p.length) (inB ws (fun j => p.getD j 0 = p.getD i 0) p.length) (xAt p ws e i) := by
  have h12 := b.len
  have hm1 := mask_at b.hp hi
  have hm : 1 ≤ maskP p (p.getD i 0) p.length ∧ maskP p (p.getD i 0) p.length < 2 ^ ws.length := by rw [b.wl]; exact hm1
  rw [← class_w (by omega), ← class_e (by omega)]
  exact cut_of (weighN_in b.wt (Nat.lt_of_le_of_lt Nat.and_le_left hm.2)).1 (weighN_pos b.wt hm.2 (by omega))
theorem Bel.in_w {p ws : List Int} (b : Bel p ws) (P : Nat → Prop) [DecidablePred P] : 0 ≤ inB ws P p.length ∧ inB ws P p.length ≤ 600 := by
  have h12 := b.len
  have h : ∀ i, i < p.length → 0 ≤ (if P i then ws.getD i 0 else 0) ∧ (if P i then ws.getD i 0 else 0) ≤ 50 := fun i hi => by
    have := b.wt.2 i (by rw [b.wl]; exact hi)
    split <;> omega
  refine ⟨sumN_nonneg fun i hi => (h i hi).1, ?_⟩
  have := sumN_le (f := fun i => if P i then ws.getD i 0 else 0) fun i hi => (h i hi).2
  unfold inB
  omega
theorem Bel.cls {p ws : List Int} (b : Bel p ws) {i : Nat} (hi : i < p.length) : (p.getD i 0).toNat < (nextP p p.length).toNat := by have := class_lt b.hp hi; omega
theorem inB_sub {ws : List Int} {P Q : Nat → Prop} [DecidablePred P] [DecidablePred Q] {n : Nat} (hw : ∀ i, i < n → 0 ≤ ws.getD i 0) (h : ∀ i, i < n → P i → Q i) : inB ws P n ≤ inB ws Q n :=
  sumN_mono fun i hi => by
    have := hw i hi
    by_cases hp : P i
    · rw [if_pos hp, if_pos (h i hi hp)]; exact Int.le_refl _
    · rw [if_neg hp]; split <;> omega
theorem Bel.xin {p ws : List Int} (b : Bel p ws) (e : Nat) {i : Nat} (hi : i < p.length) : 0 ≤ (xAt p ws e i).1 ∧ (xAt p ws e i).1 ≤ (xAt p ws e i).2 ∧ 1 ≤ (xAt p ws e i).2 ∧ (xAt p ws e i).2 ≤ 600 := by
  have c := b.cut e hi
  obtain ⟨g, hg, h1, h2⟩ := c.fac
  have hB := (b.in_w fun j => p.getD j 0 = p.getD i 0).2
  have hsub := inB_sub (ws := ws) (P := fun j => p.getD j 0 = p.getD i 0 ∧ e.testBit j = true) (Q := fun j => p.getD j 0 = p.getD i 0) (n := p.length) (fun j hj => by have := b.wt.2 j (by rw [b.wl]; exact hj); omega) fun j _ h => h.1
  rw [h1, h2] at hsub
  rw [h2] at hB
  have hpos := c.pos
  refine ⟨c.lo, Int.le_of_mul_le_mul_right hsub (by omega), hpos, ?_⟩
  have : (xAt p ws e i).2 * 1 ≤ (xAt p ws e i).2 * g := Int.mul_le_mul_of_nonneg_left hg (by omega)
  omega
/-- Where one is as sure everywhere, one is so on the whole. -/
theorem Bel.whole {p ws : List Int} (b : Bel p ws) (e : Nat) (M : Nat → Prop) [DecidablePred M] (hM : ∀ i j, i < p.length → j < p.length → p.getD i 0 = p.getD j 0 → M i → M j) (x : Int × Int) (hx : ∀ i, i < p.length → M i → xAt p ws e i = x) :
    inB ws (fun i => M i ∧ e.testBit i = true) p.length * x.2 = inB ws M p.length * x.1 := by
  have key : sumN (fun i => if M i then (if e.testBit i = true then ws.getD i 0 else 0) * x.2 - ws.getD i 0 * x.1 else 0) p.length = 0 := by
    rw [sumN_class (cls := fun i => (p.getD i 0).toNat) (K := (nextP p p.length).toNat) fun i hi => b.cls hi]
    refine sumN_zero fun k hk => ?_
    by_cases hex : ∃ j, j < p.length ∧ (p.getD j 0).toNat = k ∧ M j
    · obtain ⟨j, hj, hk2, hMj⟩ := hex
      have c := (b.cut e hj).cross
      rw [hx j hj hMj] at c
      have e1 : sumN (fun i => if (p.getD i 0).toNat = k then (if M i then (if e.testBit i = true then ws.getD i 0 else 0) * x.2 - ws.getD i 0 * x.1 else 0) else 0) p.length
          = sumN (fun i => (if p.getD i 0 = p.getD j 0 ∧ e.testBit i = true then ws.getD i 0 else 0) * x.2 - (if p.getD i 0 = p.getD j 0 then ws.getD i 0 else 0) * x.1) p.length := sumN_congr fun i hi => by
        have a1 := class_lt b.hp hi
        have a2 := class_lt b.hp hj
        by_cases h : p.getD i 0 = p.getD j 0
        · rw [if_pos (by rw [h]; exact hk2), if_pos (hM j i hj hi h.symm hMj), if_pos h]
          by_cases he : e.testBit i = true
          · rw [if_pos he, if_pos ⟨h, he⟩]
          · rw [if_neg he, if_neg fun hh => he hh.2]
        · rw [if_neg (by omega), if_neg fun hh => h hh.1, if_neg h]; simp
      rw [e1, sumN_sub, sumN_mul, sumN_mul]
      exact Int.sub_eq_zero.2 c
    · refine sumN_zero fun i hi => ?_
      by_cases h : (p.getD i 0).toNat = k
      · rw [if_pos h, if_neg fun hm => hex ⟨i, hi, h, hm⟩]
      · rw [if_neg h]
  have e2 : sumN (fun i => if M i then (if e.testBit i = true then ws.getD i 0 else 0) * x.2 - ws.getD i 0 * x.1 else 0) p.length
      = sumN (fun i => (if M i ∧ e.testBit i = true then ws.getD i 0 else 0) * x.2 - (if M i then ws.getD i 0 else 0) * x.1) p.length := sumN_congr fun i hi => by
    by_cases h : M i
    · rw [if_pos h, if_pos h]
      by_cases he : e.testBit i = true
      · rw [if_pos he, if_pos ⟨h, he⟩]
      · rw [if_neg he, if_neg fun hh => he hh.2]
    · rw [if_neg h, if_neg fun hh => h hh.1, if_neg h]; simp
  rw [e2, sumN_sub, sumN_mul, sumN_mul] at key
  exact Int.sub_eq_zero.1 key
/-- AUMANN: where both are as sure everywhere in what goes round, they are as sure as each other. -/
theorem aumann {p q ws : List Int} (bp : Bel p ws) (bq : Bel q ws) (e : Nat) (M : Nat → Prop) [DecidablePred M] {w : Nat} (hw : w < p.length) (hMw : M w) (hMp : ∀ i j, i < p.length → j < p.length → p.getD i 0 = p.getD j 0 → M i → M j) (hMq : ∀ i j, i < p.length → j < p.length → q.getD i 0 = q.getD j 0 → M i → M j)
    (hx : ∀ i, i < p.length → M i → xAt p ws e i = xAt p ws e w) (hy : ∀ i, i < p.length → M i → xAt q ws e i = xAt q ws e w) : xAt p ws e w = xAt q ws e w := by
  have hl : q.length = p.length := by rw [← bp.wl, bq.wl]
  have h1 := bp.whole e M hMp _ hx
  have h2 := bq.whole e M (by rw [hl]; exact hMq) _ (by rw [hl]; exact hy)
  rw [hl] at h2
  have hT : 1 ≤ inB ws M p.length := by
    have hge := sumN_ge (f := fun i => if M i then ws.getD i 0 else 0) (n := p.length) (j := w) (fun i hi => by have := bp.wt.2 i (by rw [bp.wl]; exact hi); split <;> omega) hw
    have := bp.wt.2 w (by rw [bp.wl]; exact hw)
    simp only [hMw, if_true] at hge
    unfold inB
    omega
  refine cut_eq (bp.cut e hw) (bq.cut e (by omega)) ?_
  -- T x1 y2 = Te x2 y2 = T y1 x2
  have h3 : inB ws M p.length * ((xAt p ws e w).1 * (xAt q ws e w).2) = inB ws M p.length * ((xAt q ws e w).1 * (xAt p ws e w).2) := by
    rw [← Int.mul_assoc, ← h1, ← Int.mul_assoc, ← h2, Int.mul_assoc, Int.mul_assoc, Int.mul_comm (xAt p ws e w).2]
  exact Int.eq_of_mul_eq_mul_left (by omega) h3

end Go.Proofs.YtkdihpajgmiolaaDoor
