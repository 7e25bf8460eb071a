/-
  DERIVED. GIVEN WITH THE SEED: THE CARDS: each row of YtdikoipldcjcpaaDoorRows.lean that lists a variable, with what it lists TIED to the program's text (the seventh form; the later family's looks); each row that meets fmt, with fmt's text TOLD by the authors' own Lean function (tested against real Go, not proved from fmt's source: count such statements apart). THE CARD IS WHAT COUNTS. Prove the row's statement (the work); the ties are given (YtdikoipldcjcpaaDoorTie.lean); close each card by the builder's one call (the guide's Derived/Test/ToyasCard.lean, 'card_holds'). Laid BY PROGRAM, IN A SANDBOX (cutbox-door.mjs). By AI agents, Wed Nov 11 2026. No macro, syntax, notation, axiom, sorry.
-/
import Derived.Test.YtdikoipldcjcpaaDoorRows
import GoSem.ClaimSeven
namespace Go.Proofs.YtdikoipldcjcpaaDoor
namespace Rows

/-- THE TIED CARD OF 'quietwinglaw5.CipherSays'. -/
def cipherSaysCard : Claim7 := { stood := { row := cipherSaysRow, standIns := [], harness := (true, "c685a4299154151d66e19abb387181347695cf45dc04c3566f4961e6c358559f"), looks := true }, kinds := [], alts := [], laidByText := true, laidKinds := [.handle], laidTests := true, laidLooks := .later }
def CipherSaysCardSaid : Prop := Claim7.holds Tryd.pinned (.plain (OpenSpec.ofChange cipherSaysSpec)) cipherSaysCard

/-- THE TIED CARD OF 'quietwinglaw5.SplitSays'. -/
def splitSaysCard : Claim7 := { stood := { row := splitSaysRow, standIns := [], harness := (true, "c685a4299154151d66e19abb387181347695cf45dc04c3566f4961e6c358559f"), looks := true }, kinds := [], alts := [], laidByText := true, laidKinds := [.handle], laidTests := true, laidLooks := .later }
def SplitSaysCardSaid : Prop := Claim7.holds Tryd.pinned (.plain (OpenSpec.ofChange splitSaysSpec)) splitSaysCard

/-- THE TIED CARD OF 'quietwinglaw5.SplitHides'. -/
def splitHidesCard : Claim7 := { stood := { row := splitHidesRow, standIns := [], harness := (true, "c685a4299154151d66e19abb387181347695cf45dc04c3566f4961e6c358559f"), looks := true }, kinds := [], alts := [], laidByText := true, laidKinds := [.handle], laidTests := true, laidLooks := .later }
def SplitHidesCardSaid : Prop := Claim7.holds Tryd.pinned (.plain (OpenSpec.ofChange splitHidesSpec)) splitHidesCard

/-- THE SECOND FORM's CARD OF 'quietwinglaw5.CipherSays'. -/
def cipherSaysUptoCard : Claim7 := { stood := { row := cipherSaysUptoRow, standIns := [], harness := (true, "c685a4299154151d66e19abb387181347695cf45dc04c3566f4961e6c358559f"), looks := true }, kinds := [], alts := [], laidByText := true, laidKinds := [.handle], laidTests := true, laidLooks := .later }
def CipherSaysUptoCardSaid : Prop := Claim7.holds Tryd.pinned (.plain (OpenSpec.upto cipherSaysSpec)) cipherSaysUptoCard

/-- THE SECOND FORM's CARD OF 'quietwinglaw5.SplitSays'. -/
def splitSaysUptoCard : Claim7 := { stood := { row := splitSaysUptoRow, standIns := [], harness := (true, "c685a4299154151d66e19abb387181347695cf45dc04c3566f4961e6c358559f"), looks := true }, kinds := [], alts := [], laidByText := true, laidKinds := [.handle], laidTests := true, laidLooks := .later }
def SplitSaysUptoCardSaid : Prop := Claim7.holds Tryd.pinned (.plain (OpenSpec.upto splitSaysSpec)) splitSaysUptoCard

/-- THE SECOND FORM's CARD OF 'quietwinglaw5.SplitHides'. -/
def splitHidesUptoCard : Claim7 := { stood := { row := splitHidesUptoRow, standIns := [], harness := (true, "c685a4299154151d66e19abb387181347695cf45dc04c3566f4961e6c358559f"), looks := true }, kinds := [], alts := [], laidByText := true, laidKinds := [.handle], laidTests := true, laidLooks := .later }
def SplitHidesUptoCardSaid : Prop := Claim7.holds Tryd.pinned (.plain (OpenSpec.upto splitHidesSpec)) splitHidesUptoCard
end Rows
end Go.Proofs.YtdikoipldcjcpaaDoor
