/-
  An abstract machine over the model's own code, part Y: how long a row's slices of ints are, as their reading tells. No program is named here.
-/
import Derived.Test.YtmeacgkhabnjlaaDoorQwV
import Derived.SizedLaws
set_option linter.unusedSimpArgs false
set_option linter.unusedVariables false
set_option linter.unusedSectionVars false
namespace Go.Qw
open Go.RowKit Go.ChangeShapes Go.WideShapes Go.ChangeAt
section
variable {H : Type} {enc : TypeId × Value → H} {P : Program} {W : World}
theorem rep_ints_s {b0 : Nat} {t e : TypeId} {v : Value} {d : DataW H} {ps : List MemPlace} (ht : P.underlying t = some (.slice e)) (he : P.underlying e = some (.int .i64)) (hc : P.cellsOf e = 1) (hval : Value.okWide P W .any b0 t v)
    (h : DataW.Trod enc P W 0 (fun _ => true) true t v d ps) : ∃ xs : List Int, VRep (okR W) W [] (DV.sl .int xs).av v ∧ (xs = [] ∨ ∃ E S, d = .slice E S ∧ E.length = xs.length) := by
  obtain ⟨a0, len, cap, rfl⟩ := okWide_slice ht hval
  obtain ⟨fuel, hf⟩ := h
  rcases open_ints ht he hc hf with ⟨hcs, _⟩ | ⟨a, len', cap', zs, hcs, _, hl, hm, hz, hd, hcell, hwz⟩
  · simp [Value.cells] at hcs
    obtain ⟨rfl, rfl, rfl⟩ := hcs
    exact ⟨[], rep_row (Z := []) (Nat.le_refl _) (Nat.zero_le _) rfl (fun _ => rfl) (fun a' h => by cases h), .inl rfl⟩
  · simp [Value.cells] at hcs
    obtain ⟨rfl, rfl, rfl⟩ := hcs
    simp only [if_true] at hz
    refine ⟨zs.take len, rep_row hl hm hz (fun h => by cases h) (fun a' h c hc => by cases h; exact hcell c (by omega)), .inr ⟨_, _, (Prod.ext_iff.1 hd).1, by simp [lits]⟩⟩
/-- A slice of ints is no longer than the form allows. -/
theorem ints_few {ts : List TypeId} {ds : List (DataW H)} {j : Nat} {t e : TypeId} {d : DataW H} {xs : List Int} (h : (DataW.weightsEach P ts ds).all (· ≤ reachBytes) = true) (ht : ts[j]? = some t) (hd : ds[j]? = some d) (hu : P.underlying t = some (.slice e)) (hb : P.bytesOf e = 8)
    (hx : xs = [] ∨ ∃ E S, d = .slice E S ∧ E.length = xs.length) : xs.length ≤ 17592186043904 := by
  rcases hx with rfl | ⟨E, S, rfl, hl⟩
  · simp
  · have := sized_slice h ht hd hu
    rw [hb] at this
    have hr : reachBytes = 140737488351232 := by decide
    omega
end
end Go.Qw
