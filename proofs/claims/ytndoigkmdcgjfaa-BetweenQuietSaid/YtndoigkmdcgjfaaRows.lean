/-
  No cell of these rows narrows 'for every input' (looked for: loops, veiled, ifaces, maps, wideKeys, modest, calm, conditions, laid).
  DERIVED. THE GIVEN ROWS OF THIS SEAT. 7 by the template 'for every input the law returns true; each argument reads behind the call as it read before'; 0 by the template 'total and deterministic' (their statements: YtndoigkmdcgjfaaTotals.lean).
  GIVEN WITH THE SEED: the statements are not yours to turn. If you find one false, say at which input.
  Laid BY PROGRAM, IN A SANDBOX (cutbox-rows.mjs): the forced cells as the released guide's own fill.sh prints them over the translation 12bc902187fa46e7… (all of the seat's roots in one cut). By AI agents, Wed Nov 11 2026. No macro, syntax, notation, axiom, sorry.
-/
import Derived.Test.YtndoigkmdcgjfaaChecked
import GoSem.Claim
import GoSem.ClaimJoined
import GoSem.ClaimMapViews
import Derived.JoinedTies
import Derived.KernelRfl
namespace Go.Proofs.Ytndoigkmdcgjfaa
/- THE CELL 'sum', in the pinned program and in every row, IS THE sha256 OF THE DUMP (.gsa) THAT YtndoigkmdcgjfaaProg.lean LOADS. Nothing in Lean hashes anything: it is a label: what it is worth is what the hold of that sum in a sandbox is worth. -/
noncomputable def Try.pinned : Pinned := { name := "ytndoigkmdcgjfaa", sum := "12bc902187fa46e7e87b5e37f747269d147d74a9a1120e7e4d849e4e0f463735", checked := Try.checked }
namespace Rows
def none {H : Type} : Left H := { results := [], args := [] }

/-- 'quietwinglaw4.MachRuns': WHATEVER THE INPUT: true; the input reads as it did. -/
def machRunsSpec : ChangeSpec := { name := "machRuns", fn := fun _ => fun
  | [d1, d2, d3, d4] => { results := [.lit (.bool true)], args := [d1, d2, d3, d4] }
  | _ => none }
def machRunsRow : OpenClaim := { program := "ytndoigkmdcgjfaa", sum := "12bc902187fa46e7e87b5e37f747269d147d74a9a1120e7e4d849e4e0f463735", func := "quietwing/quietwinglaw4.MachRuns", spec := "machRuns", plainKeys := false, apart := false }
def MachRunsSaid : Prop := machRunsRow.holds Try.pinned (OpenSpec.ofChange machRunsSpec)

/-- ITS FALSE NEIGHBOUR: 'it returns false'. Refute it at one input. -/
def machRunsWrong : ChangeSpec := { name := "machRuns", fn := fun _ => fun
  | [d1, d2, d3, d4] => { results := [.lit (.bool false)], args := [d1, d2, d3, d4] }
  | _ => none }
def MachRunsWrongFalsely : Prop := machRunsRow.holds Try.pinned (OpenSpec.ofChange machRunsWrong)

/-- 'quietwinglaw4.PurgeMore': WHATEVER THE INPUT: true; the input reads as it did. -/
def purgeMoreSpec : ChangeSpec := { name := "purgeMore", fn := fun _ => fun
  | [d1, d2, d3] => { results := [.lit (.bool true)], args := [d1, d2, d3] }
  | _ => none }
def purgeMoreRow : OpenClaim := { program := "ytndoigkmdcgjfaa", sum := "12bc902187fa46e7e87b5e37f747269d147d74a9a1120e7e4d849e4e0f463735", func := "quietwing/quietwinglaw4.PurgeMore", spec := "purgeMore", plainKeys := false, apart := false }
def PurgeMoreSaid : Prop := purgeMoreRow.holds Try.pinned (OpenSpec.ofChange purgeMoreSpec)

/-- ITS FALSE NEIGHBOUR: 'it returns false'. Refute it at one input. -/
def purgeMoreWrong : ChangeSpec := { name := "purgeMore", fn := fun _ => fun
  | [d1, d2, d3] => { results := [.lit (.bool false)], args := [d1, d2, d3] }
  | _ => none }
def PurgeMoreWrongFalsely : Prop := purgeMoreRow.holds Try.pinned (OpenSpec.ofChange purgeMoreWrong)

/-- 'quietwinglaw4.BetweenAgain': WHATEVER THE INPUT: true; the input reads as it did. -/
def betweenAgainSpec : ChangeSpec := { name := "betweenAgain", fn := fun _ => fun
  | [d1, d2, d3, d4, d5] => { results := [.lit (.bool true)], args := [d1, d2, d3, d4, d5] }
  | _ => none }
def betweenAgainRow : OpenClaim := { program := "ytndoigkmdcgjfaa", sum := "12bc902187fa46e7e87b5e37f747269d147d74a9a1120e7e4d849e4e0f463735", func := "quietwing/quietwinglaw4.BetweenAgain", spec := "betweenAgain", plainKeys := false, apart := false }
def BetweenAgainSaid : Prop := betweenAgainRow.holds Try.pinned (OpenSpec.ofChange betweenAgainSpec)

/-- ITS FALSE NEIGHBOUR: 'it returns false'. Refute it at one input. -/
def betweenAgainWrong : ChangeSpec := { name := "betweenAgain", fn := fun _ => fun
  | [d1, d2, d3, d4, d5] => { results := [.lit (.bool false)], args := [d1, d2, d3, d4, d5] }
  | _ => none }
def BetweenAgainWrongFalsely : Prop := betweenAgainRow.holds Try.pinned (OpenSpec.ofChange betweenAgainWrong)

/-- 'quietwinglaw4.BetweenPlain': WHATEVER THE INPUT: true; the input reads as it did. -/
def betweenPlainSpec : ChangeSpec := { name := "betweenPlain", fn := fun _ => fun
  | [d1, d2, d3, d4] => { results := [.lit (.bool true)], args := [d1, d2, d3, d4] }
  | _ => none }
def betweenPlainRow : OpenClaim := { program := "ytndoigkmdcgjfaa", sum := "12bc902187fa46e7e87b5e37f747269d147d74a9a1120e7e4d849e4e0f463735", func := "quietwing/quietwinglaw4.BetweenPlain", spec := "betweenPlain", plainKeys := false, apart := false }
def BetweenPlainSaid : Prop := betweenPlainRow.holds Try.pinned (OpenSpec.ofChange betweenPlainSpec)

/-- ITS FALSE NEIGHBOUR: 'it returns false'. Refute it at one input. -/
def betweenPlainWrong : ChangeSpec := { name := "betweenPlain", fn := fun _ => fun
  | [d1, d2, d3, d4] => { results := [.lit (.bool false)], args := [d1, d2, d3, d4] }
  | _ => none }
def BetweenPlainWrongFalsely : Prop := betweenPlainRow.holds Try.pinned (OpenSpec.ofChange betweenPlainWrong)

/-- 'quietwinglaw4.PurgeQuiet': WHATEVER THE INPUT: true; the input reads as it did. -/
def purgeQuietSpec : ChangeSpec := { name := "purgeQuiet", fn := fun _ => fun
  | [d1, d2, d3, d4] => { results := [.lit (.bool true)], args := [d1, d2, d3, d4] }
  | _ => none }
def purgeQuietRow : OpenClaim := { program := "ytndoigkmdcgjfaa", sum := "12bc902187fa46e7e87b5e37f747269d147d74a9a1120e7e4d849e4e0f463735", func := "quietwing/quietwinglaw4.PurgeQuiet", spec := "purgeQuiet", plainKeys := false, apart := false }
def PurgeQuietSaid : Prop := purgeQuietRow.holds Try.pinned (OpenSpec.ofChange purgeQuietSpec)

/-- ITS FALSE NEIGHBOUR: 'it returns false'. Refute it at one input. -/
def purgeQuietWrong : ChangeSpec := { name := "purgeQuiet", fn := fun _ => fun
  | [d1, d2, d3, d4] => { results := [.lit (.bool false)], args := [d1, d2, d3, d4] }
  | _ => none }
def PurgeQuietWrongFalsely : Prop := purgeQuietRow.holds Try.pinned (OpenSpec.ofChange purgeQuietWrong)

/-- 'quietwinglaw4.PurgeLoud': WHATEVER THE INPUT: true; the input reads as it did. -/
def purgeLoudSpec : ChangeSpec := { name := "purgeLoud", fn := fun _ => fun
  | [d1, d2, d3, d4] => { results := [.lit (.bool true)], args := [d1, d2, d3, d4] }
  | _ => none }
def purgeLoudRow : OpenClaim := { program := "ytndoigkmdcgjfaa", sum := "12bc902187fa46e7e87b5e37f747269d147d74a9a1120e7e4d849e4e0f463735", func := "quietwing/quietwinglaw4.PurgeLoud", spec := "purgeLoud", plainKeys := false, apart := false }
def PurgeLoudSaid : Prop := purgeLoudRow.holds Try.pinned (OpenSpec.ofChange purgeLoudSpec)

/-- ITS FALSE NEIGHBOUR: 'it returns false'. Refute it at one input. -/
def purgeLoudWrong : ChangeSpec := { name := "purgeLoud", fn := fun _ => fun
  | [d1, d2, d3, d4] => { results := [.lit (.bool false)], args := [d1, d2, d3, d4] }
  | _ => none }
def PurgeLoudWrongFalsely : Prop := purgeLoudRow.holds Try.pinned (OpenSpec.ofChange purgeLoudWrong)

/-- 'quietwinglaw4.BetweenQuiet': WHATEVER THE INPUT: true; the input reads as it did. -/
def betweenQuietSpec : ChangeSpec := { name := "betweenQuiet", fn := fun _ => fun
  | [d1, d2, d3, d4] => { results := [.lit (.bool true)], args := [d1, d2, d3, d4] }
  | _ => none }
def betweenQuietRow : OpenClaim := { program := "ytndoigkmdcgjfaa", sum := "12bc902187fa46e7e87b5e37f747269d147d74a9a1120e7e4d849e4e0f463735", func := "quietwing/quietwinglaw4.BetweenQuiet", spec := "betweenQuiet", plainKeys := false, apart := false }
def BetweenQuietSaid : Prop := betweenQuietRow.holds Try.pinned (OpenSpec.ofChange betweenQuietSpec)

/-- ITS FALSE NEIGHBOUR: 'it returns false'. Refute it at one input. -/
def betweenQuietWrong : ChangeSpec := { name := "betweenQuiet", fn := fun _ => fun
  | [d1, d2, d3, d4] => { results := [.lit (.bool false)], args := [d1, d2, d3, d4] }
  | _ => none }
def BetweenQuietWrongFalsely : Prop := betweenQuietRow.holds Try.pinned (OpenSpec.ofChange betweenQuietWrong)

/- THE SECOND FORM. 'bulk': how many values and letters a reading holds, each counted each time it is reached (what is shared counts as often as it is met; a slice's spare places count too). A statement '..UptoSaid' is the law's where the arguments, and the package variables that the reading takes, are together of bulk at most 1048576: NARROWER than '..Said'. Prove '..Said' where nothing that the law and all that it calls make is longer than what came in: it says more and counts as full. Else prove '..UptoSaid'. A law counts once. -/
mutual
def uptoBulk {H : Type} : DataW H → Nat
  | .lit (.string bytes) => bytes.length + 1
  | .lit _ => 1
  | .nil => 1
  | .ptr d => uptoBulk d + 1
  | .slice elems spare => uptoBulkAll elems + uptoBulkAll spare + 1
  | .agg parts => uptoBulkAll parts + 1
  | .iface _ d => uptoBulk d + 1
  | .map entries => uptoBulkEntries entries + 1
  | .held _ => 1
def uptoBulkAll {H : Type} : List (DataW H) → Nat
  | [] => 0
  | d :: r => uptoBulk d + uptoBulkAll r
def uptoBulkEntries {H : Type} : List (Lit × DataW H) → Nat
  | [] => 0
  | x :: r => uptoBulkEntry x + uptoBulkEntries r
def uptoBulkEntry {H : Type} : Lit × DataW H → Nat
  | (.string bytes, d) => bytes.length + uptoBulk d + 1
  | (_, d) => uptoBulk d + 1
 end
def uptoSmall : (H : Type) → List (DataW H) → Bool := fun _ ds => decide (uptoBulkAll ds ≤ 1048576)
def OpenSpec.upto (s : _root_.Go.ChangeSpec) : _root_.Go.OpenSpec := { _root_.Go.OpenSpec.ofChange s with cond := some uptoSmall }

/-- 'quietwinglaw4.MachRuns', WHERE WHAT IT READS IS OF BULK AT MOST 1048576: true; the input reads as it did. -/
def machRunsUptoRow : OpenClaim := { program := "ytndoigkmdcgjfaa", sum := "12bc902187fa46e7e87b5e37f747269d147d74a9a1120e7e4d849e4e0f463735", func := "quietwing/quietwinglaw4.MachRuns", spec := "machRuns", plainKeys := false, apart := false, narrowed := true }
def MachRunsUptoSaid : Prop := machRunsUptoRow.holds Try.pinned (OpenSpec.upto machRunsSpec)

/-- 'quietwinglaw4.PurgeMore', WHERE WHAT IT READS IS OF BULK AT MOST 1048576: true; the input reads as it did. -/
def purgeMoreUptoRow : OpenClaim := { program := "ytndoigkmdcgjfaa", sum := "12bc902187fa46e7e87b5e37f747269d147d74a9a1120e7e4d849e4e0f463735", func := "quietwing/quietwinglaw4.PurgeMore", spec := "purgeMore", plainKeys := false, apart := false, narrowed := true }
def PurgeMoreUptoSaid : Prop := purgeMoreUptoRow.holds Try.pinned (OpenSpec.upto purgeMoreSpec)

/-- 'quietwinglaw4.BetweenAgain', WHERE WHAT IT READS IS OF BULK AT MOST 1048576: true; the input reads as it did. -/
def betweenAgainUptoRow : OpenClaim := { program := "ytndoigkmdcgjfaa", sum := "12bc902187fa46e7e87b5e37f747269d147d74a9a1120e7e4d849e4e0f463735", func := "quietwing/quietwinglaw4.BetweenAgain", spec := "betweenAgain", plainKeys := false, apart := false, narrowed := true }
def BetweenAgainUptoSaid : Prop := betweenAgainUptoRow.holds Try.pinned (OpenSpec.upto betweenAgainSpec)

/-- 'quietwinglaw4.BetweenPlain', WHERE WHAT IT READS IS OF BULK AT MOST 1048576: true; the input reads as it did. -/
def betweenPlainUptoRow : OpenClaim := { program := "ytndoigkmdcgjfaa", sum := "12bc902187fa46e7e87b5e37f747269d147d74a9a1120e7e4d849e4e0f463735", func := "quietwing/quietwinglaw4.BetweenPlain", spec := "betweenPlain", plainKeys := false, apart := false, narrowed := true }
def BetweenPlainUptoSaid : Prop := betweenPlainUptoRow.holds Try.pinned (OpenSpec.upto betweenPlainSpec)

/-- 'quietwinglaw4.PurgeQuiet', WHERE WHAT IT READS IS OF BULK AT MOST 1048576: true; the input reads as it did. -/
def purgeQuietUptoRow : OpenClaim := { program := "ytndoigkmdcgjfaa", sum := "12bc902187fa46e7e87b5e37f747269d147d74a9a1120e7e4d849e4e0f463735", func := "quietwing/quietwinglaw4.PurgeQuiet", spec := "purgeQuiet", plainKeys := false, apart := false, narrowed := true }
def PurgeQuietUptoSaid : Prop := purgeQuietUptoRow.holds Try.pinned (OpenSpec.upto purgeQuietSpec)

/-- 'quietwinglaw4.PurgeLoud', WHERE WHAT IT READS IS OF BULK AT MOST 1048576: true; the input reads as it did. -/
def purgeLoudUptoRow : OpenClaim := { program := "ytndoigkmdcgjfaa", sum := "12bc902187fa46e7e87b5e37f747269d147d74a9a1120e7e4d849e4e0f463735", func := "quietwing/quietwinglaw4.PurgeLoud", spec := "purgeLoud", plainKeys := false, apart := false, narrowed := true }
def PurgeLoudUptoSaid : Prop := purgeLoudUptoRow.holds Try.pinned (OpenSpec.upto purgeLoudSpec)

/-- 'quietwinglaw4.BetweenQuiet', WHERE WHAT IT READS IS OF BULK AT MOST 1048576: true; the input reads as it did. -/
def betweenQuietUptoRow : OpenClaim := { program := "ytndoigkmdcgjfaa", sum := "12bc902187fa46e7e87b5e37f747269d147d74a9a1120e7e4d849e4e0f463735", func := "quietwing/quietwinglaw4.BetweenQuiet", spec := "betweenQuiet", plainKeys := false, apart := false, narrowed := true }
def BetweenQuietUptoSaid : Prop := betweenQuietUptoRow.holds Try.pinned (OpenSpec.upto betweenQuietSpec)

end Rows
end Go.Proofs.Ytndoigkmdcgjfaa
