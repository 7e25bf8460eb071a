/-
  DERIVED. GIVEN WITH THE SEED: THE CARDS: each row of YtndoigkmdcgjfaaDoorRows.lean that lists a variable, with what it lists TIED to the program's text (the seventh form; the later family's looks); each row that meets fmt, with fmt's text TOLD by the authors' own Lean function (tested against real Go, not proved from fmt's source: count such statements apart). THE CARD IS WHAT COUNTS. Prove the row's statement (the work); the ties are given (YtndoigkmdcgjfaaDoorTie.lean); close each card by the builder's one call (the guide's Derived/Test/ToyasCard.lean, 'card_holds'). Laid BY PROGRAM, IN A SANDBOX (cutbox-door.mjs). By AI agents, Wed Nov 11 2026. No macro, syntax, notation, axiom, sorry.
-/
import Derived.Test.YtndoigkmdcgjfaaDoorRows
import GoSem.ClaimSeven
namespace Go.Proofs.YtndoigkmdcgjfaaDoor
namespace Rows

/-- THE TIED CARD OF 'quietwingtop.TopViews'. -/
def topViewsCard : Claim7 := { stood := { row := topViewsRow, standIns := [], harness := (true, "e103c9a93491a3bf9fe185c59bb649a1635dab66aaa99c43c4fca0c65cb7be7a"), looks := true }, kinds := [], alts := [], laidByText := true, laidKinds := [.data, .data], laidTests := true, laidLooks := .later }
def TopViewsCardSaid : Prop := Claim7.holds Tryd.pinned (.plain (OpenSpec.ofChange topViewsSpec)) topViewsCard

/-- THE TIED CARD OF 'quietwinglaw4.UnwindLeast'. -/
def unwindLeastCard : Claim7 := { stood := { row := unwindLeastRow, standIns := [], harness := (true, "e103c9a93491a3bf9fe185c59bb649a1635dab66aaa99c43c4fca0c65cb7be7a"), looks := true }, kinds := [], alts := [], laidByText := true, laidKinds := [.data, .data], laidTests := true, laidLooks := .later }
def UnwindLeastCardSaid : Prop := Claim7.holds Tryd.pinned (.plain (OpenSpec.ofChange unwindLeastSpec)) unwindLeastCard

/-- THE TIED CARD OF 'quietwinglaw4.UnwindTwo'. -/
def unwindTwoCard : Claim7 := { stood := { row := unwindTwoRow, standIns := [], harness := (true, "e103c9a93491a3bf9fe185c59bb649a1635dab66aaa99c43c4fca0c65cb7be7a"), looks := true }, kinds := [], alts := [], laidByText := true, laidKinds := [.data, .data], laidTests := true, laidLooks := .later }
def UnwindTwoCardSaid : Prop := Claim7.holds Tryd.pinned (.plain (OpenSpec.ofChange unwindTwoSpec)) unwindTwoCard

/-- THE TIED CARD OF 'quietwinglaw4.PurgeTwice'. -/
def purgeTwiceCard : Claim7 := { stood := { row := purgeTwiceRow, standIns := [], harness := (true, "e103c9a93491a3bf9fe185c59bb649a1635dab66aaa99c43c4fca0c65cb7be7a"), looks := true }, kinds := [], alts := [], laidByText := true, laidKinds := [.handle], laidTests := true, laidLooks := .later }
def PurgeTwiceCardSaid : Prop := Claim7.holds Tryd.pinned (.plain (OpenSpec.ofChange purgeTwiceSpec)) purgeTwiceCard

/-- THE TIED CARD OF 'quietwinglaw4.UnwindJust'. -/
def unwindJustCard : Claim7 := { stood := { row := unwindJustRow, standIns := [], harness := (true, "e103c9a93491a3bf9fe185c59bb649a1635dab66aaa99c43c4fca0c65cb7be7a"), looks := true }, kinds := [], alts := [], laidByText := true, laidKinds := [.data, .data], laidTests := true, laidLooks := .later }
def UnwindJustCardSaid : Prop := Claim7.holds Tryd.pinned (.plain (OpenSpec.ofChange unwindJustSpec)) unwindJustCard

/-- THE TIED CARD OF 'quietwinglaw4.MachSays'. -/
def machSaysCard : Claim7 := { stood := { row := machSaysRow, standIns := [], harness := (true, "e103c9a93491a3bf9fe185c59bb649a1635dab66aaa99c43c4fca0c65cb7be7a"), looks := true }, kinds := [], alts := [], laidByText := true, laidKinds := [.handle], laidTests := true, laidLooks := .later }
def MachSaysCardSaid : Prop := Claim7.holds Tryd.pinned (.plain (OpenSpec.ofChange machSaysSpec)) machSaysCard

/-- THE TIED CARD OF 'quietwinglaw4.PurgeSays'. -/
def purgeSaysCard : Claim7 := { stood := { row := purgeSaysRow, standIns := [], harness := (true, "e103c9a93491a3bf9fe185c59bb649a1635dab66aaa99c43c4fca0c65cb7be7a"), looks := true }, kinds := [], alts := [], laidByText := true, laidKinds := [.handle], laidTests := true, laidLooks := .later }
def PurgeSaysCardSaid : Prop := Claim7.holds Tryd.pinned (.plain (OpenSpec.ofChange purgeSaysSpec)) purgeSaysCard

/-- THE TIED CARD OF 'quietwinglaw4.UnwindSays'. -/
def unwindSaysCard : Claim7 := { stood := { row := unwindSaysRow, standIns := [], harness := (true, "e103c9a93491a3bf9fe185c59bb649a1635dab66aaa99c43c4fca0c65cb7be7a"), looks := true }, kinds := [], alts := [], laidByText := true, laidKinds := [.data, .data, .handle], laidTests := true, laidLooks := .later }
def UnwindSaysCardSaid : Prop := Claim7.holds Tryd.pinned (.plain (OpenSpec.ofChange unwindSaysSpec)) unwindSaysCard

/-- THE TIED CARD OF 'quietwinglaw4.BetweenSays'. -/
def betweenSaysCard : Claim7 := { stood := { row := betweenSaysRow, standIns := [], harness := (true, "e103c9a93491a3bf9fe185c59bb649a1635dab66aaa99c43c4fca0c65cb7be7a"), looks := true }, kinds := [], alts := [], laidByText := true, laidKinds := [.handle], laidTests := true, laidLooks := .later }
def BetweenSaysCardSaid : Prop := Claim7.holds Tryd.pinned (.plain (OpenSpec.ofChange betweenSaysSpec)) betweenSaysCard

/-- THE TIED CARD OF 'quietwingtop.TopMach'. -/
def topMachCard : Claim7 := { stood := { row := topMachRow, standIns := [], harness := (true, "e103c9a93491a3bf9fe185c59bb649a1635dab66aaa99c43c4fca0c65cb7be7a"), looks := true }, kinds := [], alts := [], laidByText := true, laidKinds := [.data, .data], laidTests := true, laidLooks := .later }
def TopMachCardSaid : Prop := Claim7.holds Tryd.pinned (.plain (OpenSpec.ofChange topMachSpec)) topMachCard

/-- THE SECOND FORM's CARD OF 'quietwingtop.TopViews'. -/
def topViewsUptoCard : Claim7 := { stood := { row := topViewsUptoRow, standIns := [], harness := (true, "e103c9a93491a3bf9fe185c59bb649a1635dab66aaa99c43c4fca0c65cb7be7a"), looks := true }, kinds := [], alts := [], laidByText := true, laidKinds := [.data, .data], laidTests := true, laidLooks := .later }
def TopViewsUptoCardSaid : Prop := Claim7.holds Tryd.pinned (.plain (OpenSpec.upto topViewsSpec)) topViewsUptoCard

/-- THE SECOND FORM's CARD OF 'quietwinglaw4.UnwindLeast'. -/
def unwindLeastUptoCard : Claim7 := { stood := { row := unwindLeastUptoRow, standIns := [], harness := (true, "e103c9a93491a3bf9fe185c59bb649a1635dab66aaa99c43c4fca0c65cb7be7a"), looks := true }, kinds := [], alts := [], laidByText := true, laidKinds := [.data, .data], laidTests := true, laidLooks := .later }
def UnwindLeastUptoCardSaid : Prop := Claim7.holds Tryd.pinned (.plain (OpenSpec.upto unwindLeastSpec)) unwindLeastUptoCard

/-- THE SECOND FORM's CARD OF 'quietwinglaw4.UnwindTwo'. -/
def unwindTwoUptoCard : Claim7 := { stood := { row := unwindTwoUptoRow, standIns := [], harness := (true, "e103c9a93491a3bf9fe185c59bb649a1635dab66aaa99c43c4fca0c65cb7be7a"), looks := true }, kinds := [], alts := [], laidByText := true, laidKinds := [.data, .data], laidTests := true, laidLooks := .later }
def UnwindTwoUptoCardSaid : Prop := Claim7.holds Tryd.pinned (.plain (OpenSpec.upto unwindTwoSpec)) unwindTwoUptoCard

/-- THE SECOND FORM's CARD OF 'quietwinglaw4.PurgeTwice'. -/
def purgeTwiceUptoCard : Claim7 := { stood := { row := purgeTwiceUptoRow, standIns := [], harness := (true, "e103c9a93491a3bf9fe185c59bb649a1635dab66aaa99c43c4fca0c65cb7be7a"), looks := true }, kinds := [], alts := [], laidByText := true, laidKinds := [.handle], laidTests := true, laidLooks := .later }
def PurgeTwiceUptoCardSaid : Prop := Claim7.holds Tryd.pinned (.plain (OpenSpec.upto purgeTwiceSpec)) purgeTwiceUptoCard

/-- THE SECOND FORM's CARD OF 'quietwinglaw4.UnwindJust'. -/
def unwindJustUptoCard : Claim7 := { stood := { row := unwindJustUptoRow, standIns := [], harness := (true, "e103c9a93491a3bf9fe185c59bb649a1635dab66aaa99c43c4fca0c65cb7be7a"), looks := true }, kinds := [], alts := [], laidByText := true, laidKinds := [.data, .data], laidTests := true, laidLooks := .later }
def UnwindJustUptoCardSaid : Prop := Claim7.holds Tryd.pinned (.plain (OpenSpec.upto unwindJustSpec)) unwindJustUptoCard

/-- THE SECOND FORM's CARD OF 'quietwinglaw4.MachSays'. -/
def machSaysUptoCard : Claim7 := { stood := { row := machSaysUptoRow, standIns := [], harness := (true, "e103c9a93491a3bf9fe185c59bb649a1635dab66aaa99c43c4fca0c65cb7be7a"), looks := true }, kinds := [], alts := [], laidByText := true, laidKinds := [.handle], laidTests := true, laidLooks := .later }
def MachSaysUptoCardSaid : Prop := Claim7.holds Tryd.pinned (.plain (OpenSpec.upto machSaysSpec)) machSaysUptoCard

/-- THE SECOND FORM's CARD OF 'quietwinglaw4.PurgeSays'. -/
def purgeSaysUptoCard : Claim7 := { stood := { row := purgeSaysUptoRow, standIns := [], harness := (true, "e103c9a93491a3bf9fe185c59bb649a1635dab66aaa99c43c4fca0c65cb7be7a"), looks := true }, kinds := [], alts := [], laidByText := true, laidKinds := [.handle], laidTests := true, laidLooks := .later }
def PurgeSaysUptoCardSaid : Prop := Claim7.holds Tryd.pinned (.plain (OpenSpec.upto purgeSaysSpec)) purgeSaysUptoCard

/-- THE SECOND FORM's CARD OF 'quietwinglaw4.UnwindSays'. -/
def unwindSaysUptoCard : Claim7 := { stood := { row := unwindSaysUptoRow, standIns := [], harness := (true, "e103c9a93491a3bf9fe185c59bb649a1635dab66aaa99c43c4fca0c65cb7be7a"), looks := true }, kinds := [], alts := [], laidByText := true, laidKinds := [.data, .data, .handle], laidTests := true, laidLooks := .later }
def UnwindSaysUptoCardSaid : Prop := Claim7.holds Tryd.pinned (.plain (OpenSpec.upto unwindSaysSpec)) unwindSaysUptoCard

/-- THE SECOND FORM's CARD OF 'quietwinglaw4.BetweenSays'. -/
def betweenSaysUptoCard : Claim7 := { stood := { row := betweenSaysUptoRow, standIns := [], harness := (true, "e103c9a93491a3bf9fe185c59bb649a1635dab66aaa99c43c4fca0c65cb7be7a"), looks := true }, kinds := [], alts := [], laidByText := true, laidKinds := [.handle], laidTests := true, laidLooks := .later }
def BetweenSaysUptoCardSaid : Prop := Claim7.holds Tryd.pinned (.plain (OpenSpec.upto betweenSaysSpec)) betweenSaysUptoCard

/-- THE SECOND FORM's CARD OF 'quietwingtop.TopMach'. -/
def topMachUptoCard : Claim7 := { stood := { row := topMachUptoRow, standIns := [], harness := (true, "e103c9a93491a3bf9fe185c59bb649a1635dab66aaa99c43c4fca0c65cb7be7a"), looks := true }, kinds := [], alts := [], laidByText := true, laidKinds := [.data, .data], laidTests := true, laidLooks := .later }
def TopMachUptoCardSaid : Prop := Claim7.holds Tryd.pinned (.plain (OpenSpec.upto topMachSpec)) topMachUptoCard
end Rows
end Go.Proofs.YtndoigkmdcgjfaaDoor
