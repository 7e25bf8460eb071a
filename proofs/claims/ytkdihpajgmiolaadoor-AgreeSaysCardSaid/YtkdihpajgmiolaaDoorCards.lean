/-
  DERIVED. GIVEN WITH THE SEED: THE CARDS: each row of YtkdihpajgmiolaaDoorRows.lean that lists a variable, with what it lists TIED to the program's text (the seventh form; the later family's looks); each row that meets fmt, with fmt's text TOLD by the authors' own Lean function (tested against real Go, not proved from fmt's source: count such statements apart). THE CARD IS WHAT COUNTS. Prove the row's statement (the work); the ties are given (YtkdihpajgmiolaaDoorTie.lean); close each card by the builder's one call (the guide's Derived/Test/ToyasCard.lean, 'card_holds'). Laid BY PROGRAM, IN A SANDBOX (cutbox-door.mjs). By AI agents, Wed Nov 11 2026. No macro, syntax, notation, axiom, sorry.
-/
import Derived.Test.YtkdihpajgmiolaaDoorRows
import GoSem.ClaimSeven
namespace Go.Proofs.YtkdihpajgmiolaaDoor
namespace Rows

/-- THE TIED CARD OF 'quietwinglaw5.AgreeSum'. -/
def agreeSumCard : Claim7 := { stood := { row := agreeSumRow, standIns := [], harness := (true, "f6e9a1c9cfda5fb8d0893ee3be6ddf9f0a74ad35e284cd3d77471c4eee6cea43"), looks := true }, kinds := [], alts := [], laidByText := true, laidKinds := [.data, .data], laidTests := true, laidLooks := .later }
def AgreeSumCardSaid : Prop := Claim7.holds Tryd.pinned (.plain (OpenSpec.ofChange agreeSumSpec)) agreeSumCard

/-- THE TIED CARD OF 'quietwingtop.TopSure'. -/
def topSureCard : Claim7 := { stood := { row := topSureRow, standIns := [], harness := (true, "f6e9a1c9cfda5fb8d0893ee3be6ddf9f0a74ad35e284cd3d77471c4eee6cea43"), looks := true }, kinds := [], alts := [], laidByText := true, laidKinds := [.data, .data], laidTests := true, laidLooks := .later }
def TopSureCardSaid : Prop := Claim7.holds Tryd.pinned (.plain (OpenSpec.ofChange topSureSpec)) topSureCard

/-- THE TIED CARD OF 'quietwinglaw5.AgreeTalk'. -/
def agreeTalkCard : Claim7 := { stood := { row := agreeTalkRow, standIns := [], harness := (true, "f6e9a1c9cfda5fb8d0893ee3be6ddf9f0a74ad35e284cd3d77471c4eee6cea43"), looks := true }, kinds := [], alts := [], laidByText := true, laidKinds := [.data, .data], laidTests := true, laidLooks := .later }
def AgreeTalkCardSaid : Prop := Claim7.holds Tryd.pinned (.plain (OpenSpec.ofChange agreeTalkSpec)) agreeTalkCard

/-- THE TIED CARD OF 'quietwinglaw5.AgreeNot'. -/
def agreeNotCard : Claim7 := { stood := { row := agreeNotRow, standIns := [], harness := (true, "f6e9a1c9cfda5fb8d0893ee3be6ddf9f0a74ad35e284cd3d77471c4eee6cea43"), looks := true }, kinds := [], alts := [], laidByText := true, laidKinds := [.data, .data], laidTests := true, laidLooks := .later }
def AgreeNotCardSaid : Prop := Claim7.holds Tryd.pinned (.plain (OpenSpec.ofChange agreeNotSpec)) agreeNotCard

/-- THE TIED CARD OF 'quietwinglaw5.PartSays'. -/
def partSaysCard : Claim7 := { stood := { row := partSaysRow, standIns := [], harness := (true, "f6e9a1c9cfda5fb8d0893ee3be6ddf9f0a74ad35e284cd3d77471c4eee6cea43"), looks := true }, kinds := [], alts := [], laidByText := true, laidKinds := [.handle], laidTests := true, laidLooks := .later }
def PartSaysCardSaid : Prop := Claim7.holds Tryd.pinned (.plain (OpenSpec.ofChange partSaysSpec)) partSaysCard

/-- THE TIED CARD OF 'quietwinglaw5.KnowSays'. -/
def knowSaysCard : Claim7 := { stood := { row := knowSaysRow, standIns := [], harness := (true, "f6e9a1c9cfda5fb8d0893ee3be6ddf9f0a74ad35e284cd3d77471c4eee6cea43"), looks := true }, kinds := [], alts := [], laidByText := true, laidKinds := [.handle], laidTests := true, laidLooks := .later }
def KnowSaysCardSaid : Prop := Claim7.holds Tryd.pinned (.plain (OpenSpec.ofChange knowSaysSpec)) knowSaysCard

/-- THE TIED CARD OF 'quietwinglaw5.AgreeSays'. -/
def agreeSaysCard : Claim7 := { stood := { row := agreeSaysRow, standIns := [], harness := (true, "f6e9a1c9cfda5fb8d0893ee3be6ddf9f0a74ad35e284cd3d77471c4eee6cea43"), looks := true }, kinds := [], alts := [], laidByText := true, laidKinds := [.data, .data, .handle], laidTests := true, laidLooks := .later }
def AgreeSaysCardSaid : Prop := Claim7.holds Tryd.pinned (.plain (OpenSpec.ofChange agreeSaysSpec)) agreeSaysCard

/-- THE SECOND FORM's CARD OF 'quietwinglaw5.AgreeSum'. -/
def agreeSumUptoCard : Claim7 := { stood := { row := agreeSumUptoRow, standIns := [], harness := (true, "f6e9a1c9cfda5fb8d0893ee3be6ddf9f0a74ad35e284cd3d77471c4eee6cea43"), looks := true }, kinds := [], alts := [], laidByText := true, laidKinds := [.data, .data], laidTests := true, laidLooks := .later }
def AgreeSumUptoCardSaid : Prop := Claim7.holds Tryd.pinned (.plain (OpenSpec.upto agreeSumSpec)) agreeSumUptoCard

/-- THE SECOND FORM's CARD OF 'quietwingtop.TopSure'. -/
def topSureUptoCard : Claim7 := { stood := { row := topSureUptoRow, standIns := [], harness := (true, "f6e9a1c9cfda5fb8d0893ee3be6ddf9f0a74ad35e284cd3d77471c4eee6cea43"), looks := true }, kinds := [], alts := [], laidByText := true, laidKinds := [.data, .data], laidTests := true, laidLooks := .later }
def TopSureUptoCardSaid : Prop := Claim7.holds Tryd.pinned (.plain (OpenSpec.upto topSureSpec)) topSureUptoCard

/-- THE SECOND FORM's CARD OF 'quietwinglaw5.AgreeTalk'. -/
def agreeTalkUptoCard : Claim7 := { stood := { row := agreeTalkUptoRow, standIns := [], harness := (true, "f6e9a1c9cfda5fb8d0893ee3be6ddf9f0a74ad35e284cd3d77471c4eee6cea43"), looks := true }, kinds := [], alts := [], laidByText := true, laidKinds := [.data, .data], laidTests := true, laidLooks := .later }
def AgreeTalkUptoCardSaid : Prop := Claim7.holds Tryd.pinned (.plain (OpenSpec.upto agreeTalkSpec)) agreeTalkUptoCard

/-- THE SECOND FORM's CARD OF 'quietwinglaw5.AgreeNot'. -/
def agreeNotUptoCard : Claim7 := { stood := { row := agreeNotUptoRow, standIns := [], harness := (true, "f6e9a1c9cfda5fb8d0893ee3be6ddf9f0a74ad35e284cd3d77471c4eee6cea43"), looks := true }, kinds := [], alts := [], laidByText := true, laidKinds := [.data, .data], laidTests := true, laidLooks := .later }
def AgreeNotUptoCardSaid : Prop := Claim7.holds Tryd.pinned (.plain (OpenSpec.upto agreeNotSpec)) agreeNotUptoCard

/-- THE SECOND FORM's CARD OF 'quietwinglaw5.PartSays'. -/
def partSaysUptoCard : Claim7 := { stood := { row := partSaysUptoRow, standIns := [], harness := (true, "f6e9a1c9cfda5fb8d0893ee3be6ddf9f0a74ad35e284cd3d77471c4eee6cea43"), looks := true }, kinds := [], alts := [], laidByText := true, laidKinds := [.handle], laidTests := true, laidLooks := .later }
def PartSaysUptoCardSaid : Prop := Claim7.holds Tryd.pinned (.plain (OpenSpec.upto partSaysSpec)) partSaysUptoCard

/-- THE SECOND FORM's CARD OF 'quietwinglaw5.KnowSays'. -/
def knowSaysUptoCard : Claim7 := { stood := { row := knowSaysUptoRow, standIns := [], harness := (true, "f6e9a1c9cfda5fb8d0893ee3be6ddf9f0a74ad35e284cd3d77471c4eee6cea43"), looks := true }, kinds := [], alts := [], laidByText := true, laidKinds := [.handle], laidTests := true, laidLooks := .later }
def KnowSaysUptoCardSaid : Prop := Claim7.holds Tryd.pinned (.plain (OpenSpec.upto knowSaysSpec)) knowSaysUptoCard

/-- THE SECOND FORM's CARD OF 'quietwinglaw5.AgreeSays'. -/
def agreeSaysUptoCard : Claim7 := { stood := { row := agreeSaysUptoRow, standIns := [], harness := (true, "f6e9a1c9cfda5fb8d0893ee3be6ddf9f0a74ad35e284cd3d77471c4eee6cea43"), looks := true }, kinds := [], alts := [], laidByText := true, laidKinds := [.data, .data, .handle], laidTests := true, laidLooks := .later }
def AgreeSaysUptoCardSaid : Prop := Claim7.holds Tryd.pinned (.plain (OpenSpec.upto agreeSaysSpec)) agreeSaysUptoCard
end Rows
end Go.Proofs.YtkdihpajgmiolaaDoor
