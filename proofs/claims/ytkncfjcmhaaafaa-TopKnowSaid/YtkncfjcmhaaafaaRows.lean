/-
  No cell of these rows narrows 'for every input' (looked for: loops, veiled, ifaces, maps, wideKeys, modest, calm, conditions, laid).
  DERIVED. THE GIVEN ROWS OF THIS SEAT. 4 by the template 'for every input the law returns true; each argument reads behind the call as it read before'; 0 by the template 'total and deterministic' (their statements: YtkncfjcmhaaafaaTotals.lean).
  GIVEN WITH THE SEED: the statements are not yours to turn. If you find one false, say at which input.
  Laid BY PROGRAM, IN A SANDBOX (cutbox-rows.mjs): the forced cells as the released guide's own fill.sh prints them over the translation 7a2cbc89c13c3719… (all of the seat's roots in one cut). By AI agents, Wed Nov 11 2026. No macro, syntax, notation, axiom, sorry.
-/
import Derived.Test.YtkncfjcmhaaafaaChecked
import GoSem.Claim
import GoSem.ClaimJoined
import GoSem.ClaimMapViews
import Derived.JoinedTies
import Derived.KernelRfl
namespace Go.Proofs.Ytkncfjcmhaaafaa
/- THE CELL 'sum', in the pinned program and in every row, IS THE sha256 OF THE DUMP (.gsa) THAT YtkncfjcmhaaafaaProg.lean LOADS. Nothing in Lean hashes anything: it is a label: what it is worth is what the hold of that sum in a sandbox is worth. -/
noncomputable def Try.pinned : Pinned := { name := "ytkncfjcmhaaafaa", sum := "7a2cbc89c13c371943ce7a3bad3f85063733a9d359e114a330267f0d513b533e", checked := Try.checked }
namespace Rows
def none {H : Type} : Left H := { results := [], args := [] }

/-- 'quietwinglaw4.DeduceTurned': WHATEVER THE INPUT: true; the input reads as it did. -/
def deduceTurnedSpec : ChangeSpec := { name := "deduceTurned", fn := fun _ => fun
  | [d] => { results := [.lit (.bool true)], args := [d] }
  | _ => none }
def deduceTurnedRow : OpenClaim := { program := "ytkncfjcmhaaafaa", sum := "7a2cbc89c13c371943ce7a3bad3f85063733a9d359e114a330267f0d513b533e", func := "quietwing/quietwinglaw4.DeduceTurned", spec := "deduceTurned", recurses := true, apart := false }
def DeduceTurnedSaid : Prop := deduceTurnedRow.holds Try.pinned (OpenSpec.ofChange deduceTurnedSpec)

/-- ITS FALSE NEIGHBOUR: 'it returns false'. Refute it at one input. -/
def deduceTurnedWrong : ChangeSpec := { name := "deduceTurned", fn := fun _ => fun
  | [d] => { results := [.lit (.bool false)], args := [d] }
  | _ => none }
def DeduceTurnedWrongFalsely : Prop := deduceTurnedRow.holds Try.pinned (OpenSpec.ofChange deduceTurnedWrong)

/-- 'quietwinglaw4.DeduceBlind': WHATEVER THE INPUT: true; the input reads as it did. -/
def deduceBlindSpec : ChangeSpec := { name := "deduceBlind", fn := fun _ => fun
  | [d] => { results := [.lit (.bool true)], args := [d] }
  | _ => none }
def deduceBlindRow : OpenClaim := { program := "ytkncfjcmhaaafaa", sum := "7a2cbc89c13c371943ce7a3bad3f85063733a9d359e114a330267f0d513b533e", func := "quietwing/quietwinglaw4.DeduceBlind", spec := "deduceBlind", recurses := true, apart := false }
def DeduceBlindSaid : Prop := deduceBlindRow.holds Try.pinned (OpenSpec.ofChange deduceBlindSpec)

/-- ITS FALSE NEIGHBOUR: 'it returns false'. Refute it at one input. -/
def deduceBlindWrong : ChangeSpec := { name := "deduceBlind", fn := fun _ => fun
  | [d] => { results := [.lit (.bool false)], args := [d] }
  | _ => none }
def DeduceBlindWrongFalsely : Prop := deduceBlindRow.holds Try.pinned (OpenSpec.ofChange deduceBlindWrong)

/-- 'quietwinglaw4.DeduceMix': WHATEVER THE INPUT: true; the input reads as it did. -/
def deduceMixSpec : ChangeSpec := { name := "deduceMix", fn := fun _ => fun
  | [d] => { results := [.lit (.bool true)], args := [d] }
  | _ => none }
def deduceMixRow : OpenClaim := { program := "ytkncfjcmhaaafaa", sum := "7a2cbc89c13c371943ce7a3bad3f85063733a9d359e114a330267f0d513b533e", func := "quietwing/quietwinglaw4.DeduceMix", spec := "deduceMix", recurses := true, apart := false }
def DeduceMixSaid : Prop := deduceMixRow.holds Try.pinned (OpenSpec.ofChange deduceMixSpec)

/-- ITS FALSE NEIGHBOUR: 'it returns false'. Refute it at one input. -/
def deduceMixWrong : ChangeSpec := { name := "deduceMix", fn := fun _ => fun
  | [d] => { results := [.lit (.bool false)], args := [d] }
  | _ => none }
def DeduceMixWrongFalsely : Prop := deduceMixRow.holds Try.pinned (OpenSpec.ofChange deduceMixWrong)

/-- 'quietwingtop.TopKnow': WHATEVER THE INPUT: true; the input reads as it did. -/
def topKnowSpec : ChangeSpec := { name := "topKnow", fn := fun _ => fun
  | [d1, d2] => { results := [.lit (.bool true)], args := [d1, d2] }
  | _ => none }
def topKnowRow : OpenClaim := { program := "ytkncfjcmhaaafaa", sum := "7a2cbc89c13c371943ce7a3bad3f85063733a9d359e114a330267f0d513b533e", func := "quietwing/quietwingtop.TopKnow", spec := "topKnow", recurses := true, apart := false }
def TopKnowSaid : Prop := topKnowRow.holds Try.pinned (OpenSpec.ofChange topKnowSpec)

/-- ITS FALSE NEIGHBOUR: 'it returns false'. Refute it at one input. -/
def topKnowWrong : ChangeSpec := { name := "topKnow", fn := fun _ => fun
  | [d1, d2] => { results := [.lit (.bool false)], args := [d1, d2] }
  | _ => none }
def TopKnowWrongFalsely : Prop := topKnowRow.holds Try.pinned (OpenSpec.ofChange topKnowWrong)

/- THE SECOND FORM. 'bulk': how many values and letters a reading holds, each counted each time it is reached (what is shared counts as often as it is met; a slice's spare places count too). A statement '..UptoSaid' is the law's where the arguments, and the package variables that the reading takes, are together of bulk at most 1048576: NARROWER than '..Said'. Prove '..Said' where nothing that the law and all that it calls make is longer than what came in: it says more and counts as full. Else prove '..UptoSaid'. A law counts once. -/
mutual
def uptoBulk {H : Type} : DataW H → Nat
  | .lit (.string bytes) => bytes.length + 1
  | .lit _ => 1
  | .nil => 1
  | .ptr d => uptoBulk d + 1
  | .slice elems spare => uptoBulkAll elems + uptoBulkAll spare + 1
  | .agg parts => uptoBulkAll parts + 1
  | .iface _ d => uptoBulk d + 1
  | .map entries => uptoBulkEntries entries + 1
  | .held _ => 1
def uptoBulkAll {H : Type} : List (DataW H) → Nat
  | [] => 0
  | d :: r => uptoBulk d + uptoBulkAll r
def uptoBulkEntries {H : Type} : List (Lit × DataW H) → Nat
  | [] => 0
  | x :: r => uptoBulkEntry x + uptoBulkEntries r
def uptoBulkEntry {H : Type} : Lit × DataW H → Nat
  | (.string bytes, d) => bytes.length + uptoBulk d + 1
  | (_, d) => uptoBulk d + 1
 end
def uptoSmall : (H : Type) → List (DataW H) → Bool := fun _ ds => decide (uptoBulkAll ds ≤ 1048576)
def OpenSpec.upto (s : _root_.Go.ChangeSpec) : _root_.Go.OpenSpec := { _root_.Go.OpenSpec.ofChange s with cond := some uptoSmall }

/-- 'quietwinglaw4.DeduceTurned', WHERE WHAT IT READS IS OF BULK AT MOST 1048576: true; the input reads as it did. -/
def deduceTurnedUptoRow : OpenClaim := { program := "ytkncfjcmhaaafaa", sum := "7a2cbc89c13c371943ce7a3bad3f85063733a9d359e114a330267f0d513b533e", func := "quietwing/quietwinglaw4.DeduceTurned", spec := "deduceTurned", recurses := true, apart := false, narrowed := true }
def DeduceTurnedUptoSaid : Prop := deduceTurnedUptoRow.holds Try.pinned (OpenSpec.upto deduceTurnedSpec)

/-- 'quietwinglaw4.DeduceBlind', WHERE WHAT IT READS IS OF BULK AT MOST 1048576: true; the input reads as it did. -/
def deduceBlindUptoRow : OpenClaim := { program := "ytkncfjcmhaaafaa", sum := "7a2cbc89c13c371943ce7a3bad3f85063733a9d359e114a330267f0d513b533e", func := "quietwing/quietwinglaw4.DeduceBlind", spec := "deduceBlind", recurses := true, apart := false, narrowed := true }
def DeduceBlindUptoSaid : Prop := deduceBlindUptoRow.holds Try.pinned (OpenSpec.upto deduceBlindSpec)

/-- 'quietwinglaw4.DeduceMix', WHERE WHAT IT READS IS OF BULK AT MOST 1048576: true; the input reads as it did. -/
def deduceMixUptoRow : OpenClaim := { program := "ytkncfjcmhaaafaa", sum := "7a2cbc89c13c371943ce7a3bad3f85063733a9d359e114a330267f0d513b533e", func := "quietwing/quietwinglaw4.DeduceMix", spec := "deduceMix", recurses := true, apart := false, narrowed := true }
def DeduceMixUptoSaid : Prop := deduceMixUptoRow.holds Try.pinned (OpenSpec.upto deduceMixSpec)

/-- 'quietwingtop.TopKnow', WHERE WHAT IT READS IS OF BULK AT MOST 1048576: true; the input reads as it did. -/
def topKnowUptoRow : OpenClaim := { program := "ytkncfjcmhaaafaa", sum := "7a2cbc89c13c371943ce7a3bad3f85063733a9d359e114a330267f0d513b533e", func := "quietwing/quietwingtop.TopKnow", spec := "topKnow", recurses := true, apart := false, narrowed := true }
def TopKnowUptoSaid : Prop := topKnowUptoRow.holds Try.pinned (OpenSpec.upto topKnowSpec)

end Rows
end Go.Proofs.Ytkncfjcmhaaafaa
