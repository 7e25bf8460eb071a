/-
  No cell of these rows narrows 'for every input' (looked for: loops, veiled, ifaces, maps, wideKeys, modest, calm, conditions, laid).
  DERIVED. THE GIVEN ROWS OF THIS SEAT. 5 by the template 'for every input the law returns true; each argument reads behind the call as it read before'; 0 by the template 'total and deterministic' (their statements: YtmeacgkhabnjlaaTotals.lean).
  GIVEN WITH THE SEED: the statements are not yours to turn. If you find one false, say at which input.
  Laid BY PROGRAM, IN A SANDBOX (cutbox-rows.mjs): the forced cells as the released guide's own fill.sh prints them over the translation 5d0ad28eae30cb79… (all of the seat's roots in one cut). By AI agents, Wed Nov 11 2026. No macro, syntax, notation, axiom, sorry.
-/
import Derived.Test.YtmeacgkhabnjlaaChecked
import GoSem.Claim
import GoSem.ClaimJoined
import GoSem.ClaimMapViews
import Derived.JoinedTies
import Derived.KernelRfl
namespace Go.Proofs.Ytmeacgkhabnjlaa
/- THE CELL 'sum', in the pinned program and in every row, IS THE sha256 OF THE DUMP (.gsa) THAT YtmeacgkhabnjlaaProg.lean LOADS. Nothing in Lean hashes anything: it is a label: what it is worth is what the hold of that sum in a sandbox is worth. -/
noncomputable def Try.pinned : Pinned := { name := "ytmeacgkhabnjlaa", sum := "5d0ad28eae30cb79cca303700e51f3a8587f21e39eeedb588c970d93ff10b21c", checked := Try.checked }
namespace Rows
def none {H : Type} : Left H := { results := [], args := [] }

/-- 'quietwinglaw5.AuditRank': WHATEVER THE INPUT: true; the input reads as it did. -/
def auditRankSpec : ChangeSpec := { name := "auditRank", fn := fun _ => fun
  | [d1, d2, d3] => { results := [.lit (.bool true)], args := [d1, d2, d3] }
  | _ => none }
def auditRankRow : OpenClaim := { program := "ytmeacgkhabnjlaa", sum := "5d0ad28eae30cb79cca303700e51f3a8587f21e39eeedb588c970d93ff10b21c", func := "quietwing/quietwinglaw5.AuditRank", spec := "auditRank", plainKeys := false, apart := false }
def AuditRankSaid : Prop := auditRankRow.holds Try.pinned (OpenSpec.ofChange auditRankSpec)

/-- ITS FALSE NEIGHBOUR: 'it returns false'. Refute it at one input. -/
def auditRankWrong : ChangeSpec := { name := "auditRank", fn := fun _ => fun
  | [d1, d2, d3] => { results := [.lit (.bool false)], args := [d1, d2, d3] }
  | _ => none }
def AuditRankWrongFalsely : Prop := auditRankRow.holds Try.pinned (OpenSpec.ofChange auditRankWrong)

/-- 'quietwinglaw5.AuditSame': WHATEVER THE INPUT: true; the input reads as it did. -/
def auditSameSpec : ChangeSpec := { name := "auditSame", fn := fun _ => fun
  | [d1, d2, d3, d4, d5] => { results := [.lit (.bool true)], args := [d1, d2, d3, d4, d5] }
  | _ => none }
def auditSameRow : OpenClaim := { program := "ytmeacgkhabnjlaa", sum := "5d0ad28eae30cb79cca303700e51f3a8587f21e39eeedb588c970d93ff10b21c", func := "quietwing/quietwinglaw5.AuditSame", spec := "auditSame", plainKeys := false, apart := false }
def AuditSameSaid : Prop := auditSameRow.holds Try.pinned (OpenSpec.ofChange auditSameSpec)

/-- ITS FALSE NEIGHBOUR: 'it returns false'. Refute it at one input. -/
def auditSameWrong : ChangeSpec := { name := "auditSame", fn := fun _ => fun
  | [d1, d2, d3, d4, d5] => { results := [.lit (.bool false)], args := [d1, d2, d3, d4, d5] }
  | _ => none }
def AuditSameWrongFalsely : Prop := auditSameRow.holds Try.pinned (OpenSpec.ofChange auditSameWrong)

/-- 'quietwingtop.TopSplit': WHATEVER THE INPUT: true; the input reads as it did. -/
def topSplitSpec : ChangeSpec := { name := "topSplit", fn := fun _ => fun
  | [d1, d2, d3, d4] => { results := [.lit (.bool true)], args := [d1, d2, d3, d4] }
  | _ => none }
def topSplitRow : OpenClaim := { program := "ytmeacgkhabnjlaa", sum := "5d0ad28eae30cb79cca303700e51f3a8587f21e39eeedb588c970d93ff10b21c", func := "quietwing/quietwingtop.TopSplit", spec := "topSplit", plainKeys := false, apart := false }
def TopSplitSaid : Prop := topSplitRow.holds Try.pinned (OpenSpec.ofChange topSplitSpec)

/-- ITS FALSE NEIGHBOUR: 'it returns false'. Refute it at one input. -/
def topSplitWrong : ChangeSpec := { name := "topSplit", fn := fun _ => fun
  | [d1, d2, d3, d4] => { results := [.lit (.bool false)], args := [d1, d2, d3, d4] }
  | _ => none }
def TopSplitWrongFalsely : Prop := topSplitRow.holds Try.pinned (OpenSpec.ofChange topSplitWrong)

/-- 'quietwinglaw5.AnonGrows': WHATEVER THE INPUT: true; the input reads as it did. -/
def anonGrowsSpec : ChangeSpec := { name := "anonGrows", fn := fun _ => fun
  | [d1, d2, d3] => { results := [.lit (.bool true)], args := [d1, d2, d3] }
  | _ => none }
def anonGrowsRow : OpenClaim := { program := "ytmeacgkhabnjlaa", sum := "5d0ad28eae30cb79cca303700e51f3a8587f21e39eeedb588c970d93ff10b21c", func := "quietwing/quietwinglaw5.AnonGrows", spec := "anonGrows", plainKeys := false, apart := false }
def AnonGrowsSaid : Prop := anonGrowsRow.holds Try.pinned (OpenSpec.ofChange anonGrowsSpec)

/-- ITS FALSE NEIGHBOUR: 'it returns false'. Refute it at one input. -/
def anonGrowsWrong : ChangeSpec := { name := "anonGrows", fn := fun _ => fun
  | [d1, d2, d3] => { results := [.lit (.bool false)], args := [d1, d2, d3] }
  | _ => none }
def AnonGrowsWrongFalsely : Prop := anonGrowsRow.holds Try.pinned (OpenSpec.ofChange anonGrowsWrong)

/-- 'quietwinglaw5.AnonLowest': WHATEVER THE INPUT: true; the input reads as it did. -/
def anonLowestSpec : ChangeSpec := { name := "anonLowest", fn := fun _ => fun
  | [d1, d2, d3] => { results := [.lit (.bool true)], args := [d1, d2, d3] }
  | _ => none }
def anonLowestRow : OpenClaim := { program := "ytmeacgkhabnjlaa", sum := "5d0ad28eae30cb79cca303700e51f3a8587f21e39eeedb588c970d93ff10b21c", func := "quietwing/quietwinglaw5.AnonLowest", spec := "anonLowest", unfollowed := true, recurses := true, plainKeys := false, apart := false }
def AnonLowestSaid : Prop := anonLowestRow.holds Try.pinned (OpenSpec.ofChange anonLowestSpec)

/-- ITS FALSE NEIGHBOUR: 'it returns false'. Refute it at one input. -/
def anonLowestWrong : ChangeSpec := { name := "anonLowest", fn := fun _ => fun
  | [d1, d2, d3] => { results := [.lit (.bool false)], args := [d1, d2, d3] }
  | _ => none }
def AnonLowestWrongFalsely : Prop := anonLowestRow.holds Try.pinned (OpenSpec.ofChange anonLowestWrong)

/- THE SECOND FORM. 'bulk': how many values and letters a reading holds, each counted each time it is reached (what is shared counts as often as it is met; a slice's spare places count too). A statement '..UptoSaid' is the law's where the arguments, and the package variables that the reading takes, are together of bulk at most 1048576: NARROWER than '..Said'. Prove '..Said' where nothing that the law and all that it calls make is longer than what came in: it says more and counts as full. Else prove '..UptoSaid'. A law counts once. -/
mutual
def uptoBulk {H : Type} : DataW H → Nat
  | .lit (.string bytes) => bytes.length + 1
  | .lit _ => 1
  | .nil => 1
  | .ptr d => uptoBulk d + 1
  | .slice elems spare => uptoBulkAll elems + uptoBulkAll spare + 1
  | .agg parts => uptoBulkAll parts + 1
  | .iface _ d => uptoBulk d + 1
  | .map entries => uptoBulkEntries entries + 1
  | .held _ => 1
def uptoBulkAll {H : Type} : List (DataW H) → Nat
  | [] => 0
  | d :: r => uptoBulk d + uptoBulkAll r
def uptoBulkEntries {H : Type} : List (Lit × DataW H) → Nat
  | [] => 0
  | x :: r => uptoBulkEntry x + uptoBulkEntries r
def uptoBulkEntry {H : Type} : Lit × DataW H → Nat
  | (.string bytes, d) => bytes.length + uptoBulk d + 1
  | (_, d) => uptoBulk d + 1
 end
def uptoSmall : (H : Type) → List (DataW H) → Bool := fun _ ds => decide (uptoBulkAll ds ≤ 1048576)
def OpenSpec.upto (s : _root_.Go.ChangeSpec) : _root_.Go.OpenSpec := { _root_.Go.OpenSpec.ofChange s with cond := some uptoSmall }

/-- 'quietwinglaw5.AuditRank', WHERE WHAT IT READS IS OF BULK AT MOST 1048576: true; the input reads as it did. -/
def auditRankUptoRow : OpenClaim := { program := "ytmeacgkhabnjlaa", sum := "5d0ad28eae30cb79cca303700e51f3a8587f21e39eeedb588c970d93ff10b21c", func := "quietwing/quietwinglaw5.AuditRank", spec := "auditRank", plainKeys := false, apart := false, narrowed := true }
def AuditRankUptoSaid : Prop := auditRankUptoRow.holds Try.pinned (OpenSpec.upto auditRankSpec)

/-- 'quietwinglaw5.AuditSame', WHERE WHAT IT READS IS OF BULK AT MOST 1048576: true; the input reads as it did. -/
def auditSameUptoRow : OpenClaim := { program := "ytmeacgkhabnjlaa", sum := "5d0ad28eae30cb79cca303700e51f3a8587f21e39eeedb588c970d93ff10b21c", func := "quietwing/quietwinglaw5.AuditSame", spec := "auditSame", plainKeys := false, apart := false, narrowed := true }
def AuditSameUptoSaid : Prop := auditSameUptoRow.holds Try.pinned (OpenSpec.upto auditSameSpec)

/-- 'quietwingtop.TopSplit', WHERE WHAT IT READS IS OF BULK AT MOST 1048576: true; the input reads as it did. -/
def topSplitUptoRow : OpenClaim := { program := "ytmeacgkhabnjlaa", sum := "5d0ad28eae30cb79cca303700e51f3a8587f21e39eeedb588c970d93ff10b21c", func := "quietwing/quietwingtop.TopSplit", spec := "topSplit", plainKeys := false, apart := false, narrowed := true }
def TopSplitUptoSaid : Prop := topSplitUptoRow.holds Try.pinned (OpenSpec.upto topSplitSpec)

/-- 'quietwinglaw5.AnonGrows', WHERE WHAT IT READS IS OF BULK AT MOST 1048576: true; the input reads as it did. -/
def anonGrowsUptoRow : OpenClaim := { program := "ytmeacgkhabnjlaa", sum := "5d0ad28eae30cb79cca303700e51f3a8587f21e39eeedb588c970d93ff10b21c", func := "quietwing/quietwinglaw5.AnonGrows", spec := "anonGrows", plainKeys := false, apart := false, narrowed := true }
def AnonGrowsUptoSaid : Prop := anonGrowsUptoRow.holds Try.pinned (OpenSpec.upto anonGrowsSpec)

/-- 'quietwinglaw5.AnonLowest', WHERE WHAT IT READS IS OF BULK AT MOST 1048576: true; the input reads as it did. -/
def anonLowestUptoRow : OpenClaim := { program := "ytmeacgkhabnjlaa", sum := "5d0ad28eae30cb79cca303700e51f3a8587f21e39eeedb588c970d93ff10b21c", func := "quietwing/quietwinglaw5.AnonLowest", spec := "anonLowest", unfollowed := true, recurses := true, plainKeys := false, apart := false, narrowed := true }
def AnonLowestUptoSaid : Prop := anonLowestUptoRow.holds Try.pinned (OpenSpec.upto anonLowestSpec)

end Rows
end Go.Proofs.Ytmeacgkhabnjlaa
