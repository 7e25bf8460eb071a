/-
  The walk of 'PartClasses', and the law behind it: each world is in just its class, and numbers of its own make a partition itself.
-/
import Derived.Test.YtkdihpajgmiolaaDoorQwPa
namespace Go.Proofs.YtkdihpajgmiolaaDoor
open Go Go.Qw
set_option maxRecDepth 10000
set_option linter.unusedSimpArgs false
set_option linter.unusedVariables false
set_option linter.unusedSectionVars false


theorem mask_pos {p : List Int} (hp : partE p = 0) {k : Nat} (hk : k < (nextP p p.length).toNat) : 1 ≤ maskP p (k : Int) p.length ∧ maskP p (k : Int) p.length ≤ 4095 := by
  obtain ⟨hl, hok⟩ := partE_good hp
  have h1 := maskP_small (p := p) (k := (k : Int)) hl
  obtain ⟨j, hj, he⟩ := seen_before hok p.length (Nat.le_refl _) (k : Int) (by omega) (by omega)
  have hb : (maskP p (k : Int) p.length).testBit j = true := by rw [maskP_bit, decide_eq_true hj, decide_eq_true he]; rfl
  refine ⟨?_, by omega⟩
  rcases Nat.eq_zero_or_pos (maskP p (k : Int) p.length) with h0 | h0
  · rw [h0, Nat.zero_testBit] at hb; cases hb
  · exact h0
theorem many_yes {x : Int} {k : Nat} (h : x = (k : Int)) : (if x < (k : Int) then (1 : Int) else 0) + 1 = if x < ((k + 1 : Nat) : Int) then 1 else 0 := by
  rw [if_neg (by omega), if_pos (by omega)]; rfl
theorem many_no {x : Int} {k : Nat} (h : x ≠ (k : Int)) : (if x < (k : Int) then (1 : Int) else 0) = if x < ((k + 1 : Nat) : Int) then 1 else 0 := by
  by_cases h2 : x < (k : Int)
  · rw [if_pos h2, if_pos (by omega)]
  · rw [if_neg h2, if_neg (by omega)]
theorem many_in (x : Int) (k : Nat) : 0 ≤ (if x < (k : Int) then (1 : Int) else 0) ∧ (if x < (k : Int) then (1 : Int) else 0) ≤ 1 := by split <;> omega

end Go.Proofs.YtkdihpajgmiolaaDoor
