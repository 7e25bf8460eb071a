/-
  WHO STANDS FOR WHOM, and how it turns when two are joined; the steps of a machine.
-/
import Derived.Test.YtndoigkmdcgjfaaDoorQwBf
import Derived.Test.YtndoigkmdcgjfaaDoorQwGp
import Derived.Test.YtndoigkmdcgjfaaDoorQwX
namespace Go.Proofs.YtndoigkmdcgjfaaDoor
open Go Go.Qw
set_option maxRecDepth 10000
set_option linter.unusedSimpArgs false
set_option linter.unusedVariables false
set_option linter.unusedSectionVars false

theorem bit_lt {x n i : Nat} (hx : x < 2 ^ n) (h : x.testBit i = true) : i < n := by
  apply Nat.lt_of_not_le
  intro hle
  have h1 := Nat.ge_two_pow_of_testBit h
  have h2 : (2 : Nat) ^ n ≤ 2 ^ i := Nat.pow_le_pow_right (by decide) hle
  omega
theorem bitsL_mem {x k : Nat} (hk : k < (bitsL x).length) : x.testBit ((bitsL x).getD k 0) = true := by
  have hm : (bitsL x).getD k 0 ∈ bitsL x := by simp only [List.getD, List.getElem?_eq_getElem hk, Option.getD_some]; exact List.getElem_mem hk
  exact (mem_bitsL.1 hm).2
theorem bitsL_lt {x n k : Nat} (hx : x < 2 ^ n) (hk : k < (bitsL x).length) : (bitsL x).getD k 0 < n := bit_lt hx (bitsL_mem hk)
/-! ### Who stands for whom: the ways it turns -/

structure RepP (n : Nat) (ρ : Nat → Nat) : Prop where
  le : ∀ k, k < n → ρ k ≤ k
  own : ∀ k, k < n → ρ (ρ k) = ρ k
theorem rep_id (n : Nat) : RepP n id := ⟨fun _ _ => Nat.le_refl _, fun _ _ => rfl⟩
def repN (ρ : Nat → Nat) : Nat → Nat
  | 0 => 0
  | k + 1 => repN ρ k + if ρ k = k then 1 else 0
theorem repN_le (ρ : Nat → Nat) : ∀ n, repN ρ n ≤ n
  | 0 => Nat.le_refl _
  | n + 1 => by have := repN_le ρ n; unfold repN; split <;> omega
theorem repN_sub {ρ τ : Nat → Nat} : ∀ {n : Nat}, (∀ k, k < n → τ k = k → ρ k = k) → repN τ n ≤ repN ρ n
  | 0, _ => Nat.le_refl _
  | n + 1, h => by
    have ih := repN_sub fun k (hk : k < n) => h k (by omega)
    have h1 := h n (by omega)
    unfold repN
    by_cases ht : τ n = n
    · rw [if_pos ht, if_pos (h1 ht)]; omega
    · rw [if_neg ht]; split <;> omega
theorem repN_lt {ρ τ : Nat → Nat} {a : Nat} : ∀ {n : Nat}, (∀ k, k < n → τ k = k → ρ k = k) → a < n → ρ a = a → τ a ≠ a → repN τ n < repN ρ n
  | 0, _, ha, _, _ => by omega
  | n + 1, h, ha, h1, h2 => by
    have hs := repN_sub fun k (hk : k < n) => h k (by omega)
    have h3 := h n (by omega)
    unfold repN
    by_cases he : a = n
    · subst he
      rw [if_neg h2, if_pos h1]; omega
    · have ih := repN_lt (fun k (hk : k < n) => h k (by omega)) (show a < n by omega) h1 h2
      by_cases ht : τ n = n
      · rw [if_pos ht, if_pos (h3 ht)]; omega
      · rw [if_neg ht]; split <;> omega
set_option linter.unusedSectionVars false
section
variable {n : Nat} {ρ : Nat → Nat} (r : RepP n ρ) {i j : Nat} (hi : i < n) (hj : j < n)
include r hi hj
theorem RepP.join : RepP n (joinR ρ i j) := by
  have l1 := r.le i hi
  have l2 := r.le j hj
  have o1 := r.own i hi
  have o2 := r.own j hj
  refine ⟨fun k hk => ?_, fun k hk => ?_⟩
  · have := r.le k hk
    unfold joinR
    split <;> omega
  · have hk2 := r.own k hk
    unfold joinR
    by_cases h : ρ k = max (ρ i) (ρ j)
    · rw [if_pos h]
      rcases Nat.le_total (ρ i) (ρ j) with hle | hle
      · rw [Nat.min_eq_left hle, Nat.max_eq_right hle, o1]
        split <;> omega
      · rw [Nat.min_eq_right hle, Nat.max_eq_left hle, o2]
        split <;> omega
    · rw [if_neg h, hk2, if_neg h]
theorem RepP.own_of {k : Nat} (hk : k < n) (h : joinR ρ i j k = k) : ρ k = k := by
  have o1 := r.own i hi
  have o2 := r.own j hj
  unfold joinR at h
  split at h
  · rename_i he
    rcases Nat.le_total (ρ i) (ρ j) with hle | hle
    · rw [Nat.min_eq_left hle] at h; rw [← h]; exact o1
    · rw [Nat.min_eq_right hle] at h; rw [← h]; exact o2
  · exact h
theorem RepP.join_le : repN (joinR ρ i j) n ≤ repN ρ n := repN_sub fun _ hk h => r.own_of hi hj hk h
theorem RepP.join_lt (h : ρ i ≠ ρ j) : repN (joinR ρ i j) n < repN ρ n := by
  have l1 := r.le i hi
  have l2 := r.le j hj
  have o1 := r.own i hi
  have o2 := r.own j hj
  rcases Nat.lt_or_gt_of_ne h with hlt | hlt
  · refine repN_lt (a := ρ j) (fun k hk hh => r.own_of hi hj hk hh) (by omega) o2 ?_
    unfold joinR
    rw [o2, if_pos (by omega)]; omega
  · refine repN_lt (a := ρ i) (fun k hk hh => r.own_of hi hj hk hh) (by omega) o1 ?_
    unfold joinR
    rw [o1, if_pos (by omega)]; omega
theorem RepP.join_same (h : ρ i = ρ j) : joinR ρ i j = ρ := by
  funext k
  unfold joinR
  rw [h]
  split <;> omega
end

/-! ### A machine's steps -/

def qaF (A f : List Int) (part : Int) (a : Nat) : Bool := !((f.getD (A.getD a 0).toNat 0).toNat.testBit part.toNat)
def nx (N : List (List Int)) (s a : Nat) : Nat := ((N.getD s []).getD a 0).toNat
theorem GoodM.nx_lt {P : Int} {A : List Int} {N S : List (List Int)} (g : GoodM P A N S) {s a : Nat} (hs : s < N.length) (ha : a < A.length) : 0 ≤ (N.getD s []).getD a 0 ∧ (N.getD s []).getD a 0 ≤ (N.length : Int) - 1 ∧ nx N s a < N.length := by
  have h := g.next s hs a (by rw [g.rowN s hs]; exact ha)
  unfold nx
  omega
theorem grp_same {n : Nat} {ρ τ : Nat → Nat} (h : ρ = τ) : matchO (some (grpO n ρ)) (grpO n τ) := by subst h; exact rfl

end Go.Proofs.YtndoigkmdcgjfaaDoor
