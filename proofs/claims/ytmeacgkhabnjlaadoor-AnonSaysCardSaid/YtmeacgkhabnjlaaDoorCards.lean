/-
  DERIVED. GIVEN WITH THE SEED: THE CARDS: each row of YtmeacgkhabnjlaaDoorRows.lean that lists a variable, with what it lists TIED to the program's text (the seventh form; the later family's looks); each row that meets fmt, with fmt's text TOLD by the authors' own Lean function (tested against real Go, not proved from fmt's source: count such statements apart). THE CARD IS WHAT COUNTS. Prove the row's statement (the work); the ties are given (YtmeacgkhabnjlaaDoorTie.lean); close each card by the builder's one call (the guide's Derived/Test/ToyasCard.lean, 'card_holds'). Laid BY PROGRAM, IN A SANDBOX (cutbox-door.mjs). By AI agents, Wed Nov 11 2026. No macro, syntax, notation, axiom, sorry.
-/
import Derived.Test.YtmeacgkhabnjlaaDoorRows
import GoSem.ClaimSeven
namespace Go.Proofs.YtmeacgkhabnjlaaDoor
namespace Rows

/-- THE TIED CARD OF 'quietwinglaw5.AuditGives'. -/
def auditGivesCard : Claim7 := { stood := { row := auditGivesRow, standIns := [], harness := (true, "2e7e09a78a157985db708bcc37fc0c404564793b6f5a0ba4cd7af3fde55746fa"), looks := true }, kinds := [], alts := [], laidByText := true, laidKinds := [.handle], laidTests := true, laidLooks := .later }
def AuditGivesCardSaid : Prop := Claim7.holds Tryd.pinned (.plain (OpenSpec.ofChange auditGivesSpec)) auditGivesCard

/-- THE TIED CARD OF 'quietwinglaw5.AuditSays'. -/
def auditSaysCard : Claim7 := { stood := { row := auditSaysRow, standIns := [], harness := (true, "2e7e09a78a157985db708bcc37fc0c404564793b6f5a0ba4cd7af3fde55746fa"), looks := true }, kinds := [], alts := [], laidByText := true, laidKinds := [.handle], laidTests := true, laidLooks := .later }
def AuditSaysCardSaid : Prop := Claim7.holds Tryd.pinned (.plain (OpenSpec.ofChange auditSaysSpec)) auditSaysCard

/-- THE TIED CARD OF 'quietwinglaw5.AnonSays'. -/
def anonSaysCard : Claim7 := { stood := { row := anonSaysRow, standIns := [], harness := (true, "2e7e09a78a157985db708bcc37fc0c404564793b6f5a0ba4cd7af3fde55746fa"), looks := true }, kinds := [], alts := [], laidByText := true, laidKinds := [.handle], laidTests := true, laidLooks := .later }
def AnonSaysCardSaid : Prop := Claim7.holds Tryd.pinned (.plain (OpenSpec.ofChange anonSaysSpec)) anonSaysCard

/-- THE SECOND FORM's CARD OF 'quietwinglaw5.AuditGives'. -/
def auditGivesUptoCard : Claim7 := { stood := { row := auditGivesUptoRow, standIns := [], harness := (true, "2e7e09a78a157985db708bcc37fc0c404564793b6f5a0ba4cd7af3fde55746fa"), looks := true }, kinds := [], alts := [], laidByText := true, laidKinds := [.handle], laidTests := true, laidLooks := .later }
def AuditGivesUptoCardSaid : Prop := Claim7.holds Tryd.pinned (.plain (OpenSpec.upto auditGivesSpec)) auditGivesUptoCard

/-- THE SECOND FORM's CARD OF 'quietwinglaw5.AuditSays'. -/
def auditSaysUptoCard : Claim7 := { stood := { row := auditSaysUptoRow, standIns := [], harness := (true, "2e7e09a78a157985db708bcc37fc0c404564793b6f5a0ba4cd7af3fde55746fa"), looks := true }, kinds := [], alts := [], laidByText := true, laidKinds := [.handle], laidTests := true, laidLooks := .later }
def AuditSaysUptoCardSaid : Prop := Claim7.holds Tryd.pinned (.plain (OpenSpec.upto auditSaysSpec)) auditSaysUptoCard

/-- THE SECOND FORM's CARD OF 'quietwinglaw5.AnonSays'. -/
def anonSaysUptoCard : Claim7 := { stood := { row := anonSaysUptoRow, standIns := [], harness := (true, "2e7e09a78a157985db708bcc37fc0c404564793b6f5a0ba4cd7af3fde55746fa"), looks := true }, kinds := [], alts := [], laidByText := true, laidKinds := [.handle], laidTests := true, laidLooks := .later }
def AnonSaysUptoCardSaid : Prop := Claim7.holds Tryd.pinned (.plain (OpenSpec.upto anonSaysSpec)) anonSaysUptoCard
end Rows
end Go.Proofs.YtmeacgkhabnjlaaDoor
