/-
  No cell of these rows narrows 'for every input' (looked for: loops, veiled, ifaces, maps, wideKeys, modest, calm, conditions, laid).
  DERIVED. THE GIVEN ROWS OF THIS SEAT. 6 by the template 'for every input the law returns true; each argument reads behind the call as it read before'; 0 by the template 'total and deterministic' (their statements: YtkdihpajgmiolaaTotals.lean).
  GIVEN WITH THE SEED: the statements are not yours to turn. If you find one false, say at which input.
  Laid BY PROGRAM, IN A SANDBOX (cutbox-rows.mjs): the forced cells as the released guide's own fill.sh prints them over the translation f6433f75c8b1fab2… (all of the seat's roots in one cut). By AI agents, Wed Nov 11 2026. No macro, syntax, notation, axiom, sorry.
-/
import Derived.Test.YtkdihpajgmiolaaChecked
import GoSem.Claim
import GoSem.ClaimJoined
import GoSem.ClaimMapViews
import Derived.JoinedTies
import Derived.KernelRfl
namespace Go.Proofs.Ytkdihpajgmiolaa
/- THE CELL 'sum', in the pinned program and in every row, IS THE sha256 OF THE DUMP (.gsa) THAT YtkdihpajgmiolaaProg.lean LOADS. Nothing in Lean hashes anything: it is a label: what it is worth is what the hold of that sum in a sandbox is worth. -/
noncomputable def Try.pinned : Pinned := { name := "ytkdihpajgmiolaa", sum := "f6433f75c8b1fab288cb9b6d1283863befedc7dd615e6e2b060f6c1adaa887b0", checked := Try.checked }
namespace Rows
def none {H : Type} : Left H := { results := [], args := [] }

/-- 'quietwinglaw5.KnowRules': WHATEVER THE INPUT: true; the input reads as it did. -/
def knowRulesSpec : ChangeSpec := { name := "knowRules", fn := fun _ => fun
  | [d1, d2, d3] => { results := [.lit (.bool true)], args := [d1, d2, d3] }
  | _ => none }
def knowRulesRow : OpenClaim := { program := "ytkdihpajgmiolaa", sum := "f6433f75c8b1fab288cb9b6d1283863befedc7dd615e6e2b060f6c1adaa887b0", func := "quietwing/quietwinglaw5.KnowRules", spec := "knowRules", plainKeys := false, apart := false }
def KnowRulesSaid : Prop := knowRulesRow.holds Try.pinned (OpenSpec.ofChange knowRulesSpec)

/-- ITS FALSE NEIGHBOUR: 'it returns false'. Refute it at one input. -/
def knowRulesWrong : ChangeSpec := { name := "knowRules", fn := fun _ => fun
  | [d1, d2, d3] => { results := [.lit (.bool false)], args := [d1, d2, d3] }
  | _ => none }
def KnowRulesWrongFalsely : Prop := knowRulesRow.holds Try.pinned (OpenSpec.ofChange knowRulesWrong)

/-- 'quietwinglaw5.PartRules': WHATEVER THE INPUT: true; the input reads as it did. -/
def partRulesSpec : ChangeSpec := { name := "partRules", fn := fun _ => fun
  | [d1, d2, d3] => { results := [.lit (.bool true)], args := [d1, d2, d3] }
  | _ => none }
def partRulesRow : OpenClaim := { program := "ytkdihpajgmiolaa", sum := "f6433f75c8b1fab288cb9b6d1283863befedc7dd615e6e2b060f6c1adaa887b0", func := "quietwing/quietwinglaw5.PartRules", spec := "partRules", plainKeys := false, apart := false }
def PartRulesSaid : Prop := partRulesRow.holds Try.pinned (OpenSpec.ofChange partRulesSpec)

/-- ITS FALSE NEIGHBOUR: 'it returns false'. Refute it at one input. -/
def partRulesWrong : ChangeSpec := { name := "partRules", fn := fun _ => fun
  | [d1, d2, d3] => { results := [.lit (.bool false)], args := [d1, d2, d3] }
  | _ => none }
def PartRulesWrongFalsely : Prop := partRulesRow.holds Try.pinned (OpenSpec.ofChange partRulesWrong)

/-- 'quietwinglaw5.PartBounds': WHATEVER THE INPUT: true; the input reads as it did. -/
def partBoundsSpec : ChangeSpec := { name := "partBounds", fn := fun _ => fun
  | [d1, d2, d3] => { results := [.lit (.bool true)], args := [d1, d2, d3] }
  | _ => none }
def partBoundsRow : OpenClaim := { program := "ytkdihpajgmiolaa", sum := "f6433f75c8b1fab288cb9b6d1283863befedc7dd615e6e2b060f6c1adaa887b0", func := "quietwing/quietwinglaw5.PartBounds", spec := "partBounds", plainKeys := false, apart := false }
def PartBoundsSaid : Prop := partBoundsRow.holds Try.pinned (OpenSpec.ofChange partBoundsSpec)

/-- ITS FALSE NEIGHBOUR: 'it returns false'. Refute it at one input. -/
def partBoundsWrong : ChangeSpec := { name := "partBounds", fn := fun _ => fun
  | [d1, d2, d3] => { results := [.lit (.bool false)], args := [d1, d2, d3] }
  | _ => none }
def PartBoundsWrongFalsely : Prop := partBoundsRow.holds Try.pinned (OpenSpec.ofChange partBoundsWrong)

/-- 'quietwinglaw5.PartClasses': WHATEVER THE INPUT: true; the input reads as it did. -/
def partClassesSpec : ChangeSpec := { name := "partClasses", fn := fun _ => fun
  | [d] => { results := [.lit (.bool true)], args := [d] }
  | _ => none }
def partClassesRow : OpenClaim := { program := "ytkdihpajgmiolaa", sum := "f6433f75c8b1fab288cb9b6d1283863befedc7dd615e6e2b060f6c1adaa887b0", func := "quietwing/quietwinglaw5.PartClasses", spec := "partClasses", plainKeys := false, apart := false }
def PartClassesSaid : Prop := partClassesRow.holds Try.pinned (OpenSpec.ofChange partClassesSpec)

/-- ITS FALSE NEIGHBOUR: 'it returns false'. Refute it at one input. -/
def partClassesWrong : ChangeSpec := { name := "partClasses", fn := fun _ => fun
  | [d] => { results := [.lit (.bool false)], args := [d] }
  | _ => none }
def PartClassesWrongFalsely : Prop := partClassesRow.holds Try.pinned (OpenSpec.ofChange partClassesWrong)

/-- 'quietwinglaw5.KnowCommon': WHATEVER THE INPUT: true; the input reads as it did. -/
def knowCommonSpec : ChangeSpec := { name := "knowCommon", fn := fun _ => fun
  | [d1, d2, d3] => { results := [.lit (.bool true)], args := [d1, d2, d3] }
  | _ => none }
def knowCommonRow : OpenClaim := { program := "ytkdihpajgmiolaa", sum := "f6433f75c8b1fab288cb9b6d1283863befedc7dd615e6e2b060f6c1adaa887b0", func := "quietwing/quietwinglaw5.KnowCommon", spec := "knowCommon", plainKeys := false, apart := false }
def KnowCommonSaid : Prop := knowCommonRow.holds Try.pinned (OpenSpec.ofChange knowCommonSpec)

/-- ITS FALSE NEIGHBOUR: 'it returns false'. Refute it at one input. -/
def knowCommonWrong : ChangeSpec := { name := "knowCommon", fn := fun _ => fun
  | [d1, d2, d3] => { results := [.lit (.bool false)], args := [d1, d2, d3] }
  | _ => none }
def KnowCommonWrongFalsely : Prop := knowCommonRow.holds Try.pinned (OpenSpec.ofChange knowCommonWrong)

/-- 'quietwinglaw5.KnowTogether': WHATEVER THE INPUT: true; the input reads as it did. -/
def knowTogetherSpec : ChangeSpec := { name := "knowTogether", fn := fun _ => fun
  | [d1, d2, d3] => { results := [.lit (.bool true)], args := [d1, d2, d3] }
  | _ => none }
def knowTogetherRow : OpenClaim := { program := "ytkdihpajgmiolaa", sum := "f6433f75c8b1fab288cb9b6d1283863befedc7dd615e6e2b060f6c1adaa887b0", func := "quietwing/quietwinglaw5.KnowTogether", spec := "knowTogether", plainKeys := false, apart := false }
def KnowTogetherSaid : Prop := knowTogetherRow.holds Try.pinned (OpenSpec.ofChange knowTogetherSpec)

/-- ITS FALSE NEIGHBOUR: 'it returns false'. Refute it at one input. -/
def knowTogetherWrong : ChangeSpec := { name := "knowTogether", fn := fun _ => fun
  | [d1, d2, d3] => { results := [.lit (.bool false)], args := [d1, d2, d3] }
  | _ => none }
def KnowTogetherWrongFalsely : Prop := knowTogetherRow.holds Try.pinned (OpenSpec.ofChange knowTogetherWrong)

/- THE SECOND FORM. 'bulk': how many values and letters a reading holds, each counted each time it is reached (what is shared counts as often as it is met; a slice's spare places count too). A statement '..UptoSaid' is the law's where the arguments, and the package variables that the reading takes, are together of bulk at most 1048576: NARROWER than '..Said'. Prove '..Said' where nothing that the law and all that it calls make is longer than what came in: it says more and counts as full. Else prove '..UptoSaid'. A law counts once. -/
mutual
def uptoBulk {H : Type} : DataW H → Nat
  | .lit (.string bytes) => bytes.length + 1
  | .lit _ => 1
  | .nil => 1
  | .ptr d => uptoBulk d + 1
  | .slice elems spare => uptoBulkAll elems + uptoBulkAll spare + 1
  | .agg parts => uptoBulkAll parts + 1
  | .iface _ d => uptoBulk d + 1
  | .map entries => uptoBulkEntries entries + 1
  | .held _ => 1
def uptoBulkAll {H : Type} : List (DataW H) → Nat
  | [] => 0
  | d :: r => uptoBulk d + uptoBulkAll r
def uptoBulkEntries {H : Type} : List (Lit × DataW H) → Nat
  | [] => 0
  | x :: r => uptoBulkEntry x + uptoBulkEntries r
def uptoBulkEntry {H : Type} : Lit × DataW H → Nat
  | (.string bytes, d) => bytes.length + uptoBulk d + 1
  | (_, d) => uptoBulk d + 1
 end
def uptoSmall : (H : Type) → List (DataW H) → Bool := fun _ ds => decide (uptoBulkAll ds ≤ 1048576)
def OpenSpec.upto (s : _root_.Go.ChangeSpec) : _root_.Go.OpenSpec := { _root_.Go.OpenSpec.ofChange s with cond := some uptoSmall }

/-- 'quietwinglaw5.KnowRules', WHERE WHAT IT READS IS OF BULK AT MOST 1048576: true; the input reads as it did. -/
def knowRulesUptoRow : OpenClaim := { program := "ytkdihpajgmiolaa", sum := "f6433f75c8b1fab288cb9b6d1283863befedc7dd615e6e2b060f6c1adaa887b0", func := "quietwing/quietwinglaw5.KnowRules", spec := "knowRules", plainKeys := false, apart := false, narrowed := true }
def KnowRulesUptoSaid : Prop := knowRulesUptoRow.holds Try.pinned (OpenSpec.upto knowRulesSpec)

/-- 'quietwinglaw5.PartRules', WHERE WHAT IT READS IS OF BULK AT MOST 1048576: true; the input reads as it did. -/
def partRulesUptoRow : OpenClaim := { program := "ytkdihpajgmiolaa", sum := "f6433f75c8b1fab288cb9b6d1283863befedc7dd615e6e2b060f6c1adaa887b0", func := "quietwing/quietwinglaw5.PartRules", spec := "partRules", plainKeys := false, apart := false, narrowed := true }
def PartRulesUptoSaid : Prop := partRulesUptoRow.holds Try.pinned (OpenSpec.upto partRulesSpec)

/-- 'quietwinglaw5.PartBounds', WHERE WHAT IT READS IS OF BULK AT MOST 1048576: true; the input reads as it did. -/
def partBoundsUptoRow : OpenClaim := { program := "ytkdihpajgmiolaa", sum := "f6433f75c8b1fab288cb9b6d1283863befedc7dd615e6e2b060f6c1adaa887b0", func := "quietwing/quietwinglaw5.PartBounds", spec := "partBounds", plainKeys := false, apart := false, narrowed := true }
def PartBoundsUptoSaid : Prop := partBoundsUptoRow.holds Try.pinned (OpenSpec.upto partBoundsSpec)

/-- 'quietwinglaw5.PartClasses', WHERE WHAT IT READS IS OF BULK AT MOST 1048576: true; the input reads as it did. -/
def partClassesUptoRow : OpenClaim := { program := "ytkdihpajgmiolaa", sum := "f6433f75c8b1fab288cb9b6d1283863befedc7dd615e6e2b060f6c1adaa887b0", func := "quietwing/quietwinglaw5.PartClasses", spec := "partClasses", plainKeys := false, apart := false, narrowed := true }
def PartClassesUptoSaid : Prop := partClassesUptoRow.holds Try.pinned (OpenSpec.upto partClassesSpec)

/-- 'quietwinglaw5.KnowCommon', WHERE WHAT IT READS IS OF BULK AT MOST 1048576: true; the input reads as it did. -/
def knowCommonUptoRow : OpenClaim := { program := "ytkdihpajgmiolaa", sum := "f6433f75c8b1fab288cb9b6d1283863befedc7dd615e6e2b060f6c1adaa887b0", func := "quietwing/quietwinglaw5.KnowCommon", spec := "knowCommon", plainKeys := false, apart := false, narrowed := true }
def KnowCommonUptoSaid : Prop := knowCommonUptoRow.holds Try.pinned (OpenSpec.upto knowCommonSpec)

/-- 'quietwinglaw5.KnowTogether', WHERE WHAT IT READS IS OF BULK AT MOST 1048576: true; the input reads as it did. -/
def knowTogetherUptoRow : OpenClaim := { program := "ytkdihpajgmiolaa", sum := "f6433f75c8b1fab288cb9b6d1283863befedc7dd615e6e2b060f6c1adaa887b0", func := "quietwing/quietwinglaw5.KnowTogether", spec := "knowTogether", plainKeys := false, apart := false, narrowed := true }
def KnowTogetherUptoSaid : Prop := knowTogetherUptoRow.holds Try.pinned (OpenSpec.upto knowTogetherSpec)

end Rows
end Go.Proofs.Ytkdihpajgmiolaa
