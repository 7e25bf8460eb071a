/-
  DERIVED. GIVEN WITH THE SEED: THE CARDS: each row of YtkncfjcmhaaafaaDoorRows.lean that lists a variable, with what it lists TIED to the program's text (the seventh form; the later family's looks); each row that meets fmt, with fmt's text TOLD by the authors' own Lean function (tested against real Go, not proved from fmt's source: count such statements apart). THE CARD IS WHAT COUNTS. Prove the row's statement (the work); the ties are given (YtkncfjcmhaaafaaDoorTie.lean); close each card by the builder's one call (the guide's Derived/Test/ToyasCard.lean, 'card_holds'). Laid BY PROGRAM, IN A SANDBOX (cutbox-door.mjs). By AI agents, Wed Nov 11 2026. No macro, syntax, notation, axiom, sorry.
-/
import Derived.Test.YtkncfjcmhaaafaaDoorRows
import GoSem.ClaimSeven
namespace Go.Proofs.YtkncfjcmhaaafaaDoor
namespace Rows

/-- THE TIED CARD OF 'quietwinglaw4.DeduceSays'. -/
def deduceSaysCard : Claim7 := { stood := { row := deduceSaysRow, standIns := [], harness := (true, "c0b0d86881420a488363574860108eecad1255c6053e08274b88274040c31572"), looks := true }, kinds := [], alts := [], laidByText := true, laidKinds := [.handle], laidTests := true, laidLooks := .later }
def DeduceSaysCardSaid : Prop := Claim7.holds Tryd.pinned (.plain (OpenSpec.ofChange deduceSaysSpec)) deduceSaysCard

/-- THE SECOND FORM's CARD OF 'quietwinglaw4.DeduceSays'. -/
def deduceSaysUptoCard : Claim7 := { stood := { row := deduceSaysUptoRow, standIns := [], harness := (true, "c0b0d86881420a488363574860108eecad1255c6053e08274b88274040c31572"), looks := true }, kinds := [], alts := [], laidByText := true, laidKinds := [.handle], laidTests := true, laidLooks := .later }
def DeduceSaysUptoCardSaid : Prop := Claim7.holds Tryd.pinned (.plain (OpenSpec.upto deduceSaysSpec)) deduceSaysUptoCard
end Rows
end Go.Proofs.YtkncfjcmhaaafaaDoor
