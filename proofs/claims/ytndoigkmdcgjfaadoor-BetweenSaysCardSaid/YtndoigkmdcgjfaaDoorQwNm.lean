/-
  The plain law of numberings: equal numbers, equal things.
-/
import Derived.Test.YtndoigkmdcgjfaaDoorQwGr
namespace Go.Proofs.YtndoigkmdcgjfaaDoor
open Go Go.Qw
set_option maxRecDepth 10000
set_option linter.unusedSimpArgs false
set_option linter.unusedVariables false
set_option linter.unusedSectionVars false


theorem idxK_some {τ : Ty} {x : τ.T} : ∀ {ys : List τ.T} {k m : Nat}, idxK τ x ys k = some m → k ≤ m ∧ m < k + ys.length ∧ keyL τ x = keyL τ (List.getD ys (m - k) (dT τ))
  | [], k, m, h => by cases h
  | y :: ys, k, m, h => by
    unfold idxK at h
    split at h
    · rename_i he
      cases h
      refine ⟨Nat.le_refl _, by simp, ?_⟩
      rw [Nat.sub_self]
      exact he
    · obtain ⟨h1, h2, h3⟩ := idxK_some h
      refine ⟨by omega, by rw [List.length_cons]; omega, ?_⟩
      rw [show m - k = (m - (k + 1)) + 1 by omega]
      exact h3
theorem idxK_none {τ : Ty} {x : τ.T} : ∀ {ys : List τ.T} {k : Nat}, idxK τ x ys k = none → ∀ a, a < ys.length → keyL τ x ≠ keyL τ (List.getD ys a (dT τ))
  | [], k, h, a, ha => by simp at ha
  | y :: ys, k, h, a, ha => by
    unfold idxK at h
    split at h
    · cases h
    · rename_i hne
      cases a with
      | zero => exact hne
      | succ a => exact idxK_none h a (by simpa using ha)
theorem getD_app_l {α : Type} {xs : List α} {x d : α} {a : Nat} (h : a < xs.length) : (xs ++ [x]).getD a d = xs.getD a d := by
  simp only [List.getD, List.getElem?_append_left h]
theorem getD_app_n {α : Type} {xs : List α} {x d : α} : (xs ++ [x]).getD xs.length d = x := by simp [List.getD]
/-- What one step does: the key stands at its number. -/
structure QStep (τ : Ty) (x : τ.T) (q : List τ.T) : Prop where
  lt : (qIdx τ x q).toNat < (qAdd τ x q).length
  nn : 0 ≤ qIdx τ x q ∧ qIdx τ x q ≤ (q.length : Int)
  at_ : keyL τ (List.getD (qAdd τ x q) (qIdx τ x q).toNat (dT τ)) = keyL τ x
  old : ∀ a, a < q.length → List.getD (qAdd τ x q) a (dT τ) = List.getD q a (dT τ)
  len : ((qAdd τ x q).length : Int) = if qIdx τ x q = (q.length : Int) then (q.length : Int) + 1 else (q.length : Int)
  new : qIdx τ x q = (q.length : Int) → ∀ a, a < q.length → keyL τ x ≠ keyL τ (List.getD q a (dT τ))
theorem qstep (τ : Ty) (x : τ.T) (q : List τ.T) : QStep τ x q := by
  cases h : idxK τ x q 0 with
  | some m =>
    obtain ⟨h1, h2, h3⟩ := idxK_some h
    have ei : qIdx τ x q = (m : Int) := by unfold qIdx; rw [h]; rfl
    have ea : qAdd τ x q = q := by unfold qAdd; rw [h]; rfl
    refine ⟨by rw [ei, ea]; omega, by rw [ei]; omega, ?_, fun a ha => by rw [ea], by rw [ea, ei, if_neg (by omega)], fun he => by rw [ei] at he; omega⟩
    rw [ei, ea, Int.toNat_natCast, h3]; rfl
  | none =>
    have ei : qIdx τ x q = (q.length : Int) := by unfold qIdx; rw [h]; rfl
    have ea : qAdd τ x q = q ++ [x] := by unfold qAdd; rw [h]; rfl
    refine ⟨by rw [ei, ea, List.length_append]; simp, by rw [ei]; omega, ?_, fun a ha => by rw [ea]; exact getD_app_l ha, by rw [ea, ei, if_pos rfl, List.length_append]; simp, fun _ => idxK_none h⟩
    rw [ei, ea, Int.toNat_natCast, getD_app_n]
theorem qAt_le {τ : Ty} (l : List τ.T) : ∀ {i j : Nat}, i ≤ j → (qAt τ l i).length ≤ (qAt τ l j).length ∧ ∀ a, a < (qAt τ l i).length → List.getD (qAt τ l j) a (dT τ) = List.getD (qAt τ l i) a (dT τ)
  | i, j, h => by
    induction h with
    | refl => exact ⟨Nat.le_refl _, fun _ _ => rfl⟩
    | step _ ih =>
      rename_i j _
      have s := qstep τ (List.getD l j (dT τ)) (qAt τ l j)
      have hl := s.len
      refine ⟨?_, fun a ha => ?_⟩
      · rw [qAt]; split at hl <;> omega
      · rw [qAt, s.old a (by omega), ih.2 a ha]
theorem qAt_apart {τ : Ty} (l : List τ.T) : ∀ (i a b : Nat), a < (qAt τ l i).length → b < (qAt τ l i).length → keyL τ (List.getD (qAt τ l i) a (dT τ)) = keyL τ (List.getD (qAt τ l i) b (dT τ)) → a = b
  | 0, a, b, ha, _, _ => by simp [qAt] at ha
  | i + 1, a, b, ha, hb, he => by
    have s := qstep τ (List.getD l i (dT τ)) (qAt τ l i)
    have hl := s.len
    rw [qAt] at ha hb he
    by_cases hn : qIdx τ (List.getD l i (dT τ)) (qAt τ l i) = ((qAt τ l i).length : Int)
    · rw [if_pos hn] at hl
      have hat := s.at_
      rw [hn, Int.toNat_natCast] at hat
      rcases Nat.lt_or_ge a (qAt τ l i).length with h1 | h1
      · rcases Nat.lt_or_ge b (qAt τ l i).length with h2 | h2
        · rw [s.old a h1, s.old b h2] at he
          exact qAt_apart l i a b h1 h2 he
        · exfalso
          rw [show b = (qAt τ l i).length by omega, hat, s.old a h1] at he
          exact s.new hn a h1 he.symm
      · rcases Nat.lt_or_ge b (qAt τ l i).length with h2 | h2
        · exfalso
          rw [show a = (qAt τ l i).length by omega, hat, s.old b h2] at he
          exact s.new hn b h2 he
        · omega
    · rw [if_neg hn] at hl
      rw [s.old a (by omega), s.old b (by omega)] at he
      exact qAt_apart l i a b (by omega) (by omega) he
/-- THE NUMBERING OF A ROW: what is the same has one number, what is not has two; and the numbers come in order. -/
theorem num_eq {τ : Ty} (l : List τ.T) {n i j : Nat} (hi : i < n) (hj : j < n) : ((numQ τ l n).getD i 0 = (numQ τ l n).getD j 0 ↔ keyL τ (List.getD l i (dT τ)) = keyL τ (List.getD l j (dT τ))) := by
  have place : ∀ k, k < n → (qIdx τ (List.getD l k (dT τ)) (qAt τ l k)).toNat < (qAt τ l n).length ∧ keyL τ (List.getD (qAt τ l n) (qIdx τ (List.getD l k (dT τ)) (qAt τ l k)).toNat (dT τ)) = keyL τ (List.getD l k (dT τ)) ∧ 0 ≤ qIdx τ (List.getD l k (dT τ)) (qAt τ l k) := fun k hk => by
    have s := qstep τ (List.getD l k (dT τ)) (qAt τ l k)
    obtain ⟨h1, h2⟩ := qAt_le (τ := τ) l (show k + 1 ≤ n by omega)
    have hlt := s.lt
    have hat := s.at_
    rw [show qAdd τ (List.getD l k (dT τ)) (qAt τ l k) = qAt τ l (k + 1) from rfl] at hlt hat
    exact ⟨by omega, by rw [h2 _ hlt]; exact hat, s.nn.1⟩
  obtain ⟨a1, a2, a3⟩ := place i hi
  obtain ⟨b1, b2, b3⟩ := place j hj
  rw [numQ_get τ l hi, numQ_get τ l hj]
  constructor
  · intro h
    rw [← a2, ← b2, h]
  · intro h
    have := qAt_apart l n _ _ a1 b1 (by rw [a2, b2, h])
    omega

end Go.Proofs.YtndoigkmdcgjfaaDoor
