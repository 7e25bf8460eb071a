/-
  The bits of a number as a list, rising; what stays if the least is struck. No program is named here.
-/
import Derived.Test.YtndoigkmdcgjfaaDoorQwZ
import Derived.Test.YtndoigkmdcgjfaaDoorQwP
import Derived.Lib.TrailingZeros
import Derived.Laws.Bits64b
set_option linter.unusedSimpArgs false
set_option linter.unusedVariables false
set_option linter.unusedSectionVars false
namespace Go.Qw
open Go.RowKit

/-- Which bits of x are 1, rising. -/
def bitsL (x : Nat) : List Nat := (List.range 63).filter fun i => x.testBit i
theorem mem_bitsL {x i : Nat} : i ∈ bitsL x ↔ i < 63 ∧ x.testBit i = true := by simp [bitsL]
theorem bitsL_nodup (x : Nat) : (bitsL x).Nodup := List.nodup_range.sublist List.filter_sublist
theorem bitsL_sorted (x : Nat) : (bitsL x).Pairwise (· < ·) := List.pairwise_lt_range.sublist List.filter_sublist
theorem bitsL_len (x : Nat) : (bitsL x).length ≤ 63 := by
  have := List.length_filter_le (fun i => x.testBit i) (List.range 63)
  simpa [bitsL] using this
theorem bitsL_zero : bitsL 0 = [] := by simp [bitsL]
theorem low_cut {c m i : Nat} : ((2 ^ c * (2 * m + 1)) &&& (2 ^ c * (2 * m + 1) - 1)).testBit i = ((2 ^ c * (2 * m + 1)).testBit i && !decide (i = c)) := by
  have e : 2 ^ c * (2 * m + 1) - 1 = 2 ^ c * (2 * m) + (2 ^ c - 1) := by
    have := Nat.two_pow_pos c
    rw [Nat.mul_add, Nat.mul_one]; omega
  have hlt : 2 ^ c - 1 < 2 ^ c := by have := Nat.two_pow_pos c; omega
  rw [Nat.testBit_and, e, Nat.testBit_two_pow_mul_add _ hlt, Nat.mul_comm (2 ^ c) (2 * m + 1), Nat.testBit_mul_two_pow]
  by_cases h : i < c
  · simp [h, Nat.not_le.2 h]
  · obtain ⟨d, rfl⟩ : ∃ d, i = c + d := ⟨i - c, by omega⟩
    cases d with
    | zero => simp [Nat.testBit_zero]
    | succ d =>
      have e1 : c + (d + 1) - c = d + 1 := by omega
      have h1 : (2 * m + 1) / 2 = m := by omega
      have h2 : 2 * m / 2 = m := by omega
      simp [h, e1, Nat.testBit_succ, h1, h2]
theorem filter_cut {n c : Nat} {p : Nat → Bool} (hc : c < n) (hp : p c = true) (hlow : ∀ i, i < c → p i = false) :
    (List.range n).filter p = c :: (List.range n).filter fun i => p i && !decide (i = c) := by
  have e : List.range n = List.range c ++ c :: List.range' (c + 1) (n - c - 1) := by
    rw [List.range_eq_range', List.range_eq_range']
    have h1 : List.range' 0 n = List.range' 0 c ++ List.range' (0 + 1 * c) (n - c) := by
      rw [List.range'_append]; congr 1; omega
    rw [h1]
    have h2 : n - c = (n - c - 1) + 1 := by omega
    rw [h2, List.range'_succ]
    simp
  rw [e, List.filter_append, List.filter_append, List.filter_cons, List.filter_cons]
  have a1 : (List.range c).filter p = [] := List.filter_eq_nil_iff.2 fun i hi => by rw [hlow i (List.mem_range.1 hi)]; simp
  have a2 : ((List.range c).filter fun i => p i && !decide (i = c)) = [] := List.filter_eq_nil_iff.2 fun i hi => by rw [hlow i (List.mem_range.1 hi)]; simp
  have a3 : ((List.range' (c + 1) (n - c - 1)).filter fun i => p i && !decide (i = c)) = (List.range' (c + 1) (n - c - 1)).filter p := List.filter_congr fun i hi => by
    have := List.mem_range'_1.1 hi
    have hne : i ≠ c := by omega
    simp [hne]
  rw [a1, a2, a3]
  simp [hp]
/-- One bit is handed out; the rest. -/
theorem bitsL_step {x : Nat} (hx : x < 2 ^ 63) (h0 : x ≠ 0) : bitsL x = Lib.ctz 64 x :: bitsL (x &&& (x - 1)) := by
  obtain ⟨m, hm, hf⟩ := Lib.ctzFrom_spec 64 x (by omega) (by omega)
  have ec : Lib.ctz 64 x = Lib.ctzFrom 64 x := by simp [Lib.ctz, h0]
  rw [ec]
  generalize hc : Lib.ctzFrom 64 x = c at *
  have hx' : x.testBit c = true := by rw [hm, Nat.mul_comm, Nat.testBit_mul_two_pow]; simp [Nat.testBit_zero]
  have hlow : ∀ i, i < c → x.testBit i = false := fun i hi => by rw [hm, Nat.mul_comm, Nat.testBit_mul_two_pow]; simp; omega
  have hcn : c < 63 := by
    apply Nat.lt_of_not_le
    intro hle
    have := Nat.ge_two_pow_of_testBit hx'
    have h2 : (2 : Nat) ^ 63 ≤ 2 ^ c := Nat.pow_le_pow_right (by decide) hle
    omega
  unfold bitsL
  rw [filter_cut (p := fun i => x.testBit i) hcn hx' hlow]
  congr 1
  refine List.filter_congr fun i _ => ?_
  conv => rhs; rw [hm]
  rw [low_cut, ← hm]
theorem ctz_lt {x : Nat} (hx : x < 2 ^ 63) (h0 : x ≠ 0) : Lib.ctz 64 x < 63 := by
  have : Lib.ctz 64 x ∈ bitsL x := by rw [bitsL_step hx h0]; simp
  exact (mem_bitsL.1 this).1
theorem bitsL_drop_step {x r k : Nat} (hr : r < 2 ^ 63) (h0 : r ≠ 0) (h : (bitsL x).drop k = bitsL r) : k < (bitsL x).length ∧ (bitsL x).getD k 0 = Lib.ctz 64 r ∧ (bitsL x).drop (k + 1) = bitsL (r &&& (r - 1)) := by
  rw [bitsL_step hr h0] at h
  have hk : k < (bitsL x).length := by
    apply Nat.lt_of_not_le
    intro hle
    rw [List.drop_eq_nil_of_le hle] at h
    cases h
  rw [List.drop_eq_getElem_cons hk] at h
  injection h with h1 h2
  exact ⟨hk, by simp [hk, h1], h2⟩
theorem bitsL_drop_end {x k : Nat} (hk : k ≤ (bitsL x).length) (h : (bitsL x).drop k = bitsL 0) : k = (bitsL x).length := by
  rw [bitsL_zero] at h
  have := List.drop_eq_nil_iff.1 h
  omega
theorem bits_and_u64 {r : Nat} (hr : r < 2 ^ 63) : bits .and .u64 (r : Int) ((r - 1 : Nat) : Int) = ((r &&& (r - 1) : Nat) : Int) := _root_.Go.bits_and_u64_nat r (r - 1) (by omega) (by omega)
end Go.Qw
