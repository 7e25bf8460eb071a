/-
  No cell of these rows narrows 'for every input' (looked for: loops, veiled, ifaces, maps, wideKeys, modest, calm, conditions, laid).
  DERIVED. THE GIVEN ROWS OF THIS SEAT. 6 by the template 'for every input the law returns true; each argument reads behind the call as it read before'; 0 by the template 'total and deterministic' (their statements: YtdikoipldcjcpaaTotals.lean).
  GIVEN WITH THE SEED: the statements are not yours to turn. If you find one false, say at which input.
  Laid BY PROGRAM, IN A SANDBOX (cutbox-rows.mjs): the forced cells as the released guide's own fill.sh prints them over the translation 237bc03c3b6e1e2a… (all of the seat's roots in one cut). By AI agents, Wed Nov 11 2026. No macro, syntax, notation, axiom, sorry.
-/
import Derived.Test.YtdikoipldcjcpaaChecked
import GoSem.Claim
import GoSem.ClaimJoined
import GoSem.ClaimMapViews
import Derived.JoinedTies
import Derived.KernelRfl
namespace Go.Proofs.Ytdikoipldcjcpaa
/- THE CELL 'sum', in the pinned program and in every row, IS THE sha256 OF THE DUMP (.gsa) THAT YtdikoipldcjcpaaProg.lean LOADS. Nothing in Lean hashes anything: it is a label: what it is worth is what the hold of that sum in a sandbox is worth. -/
noncomputable def Try.pinned : Pinned := { name := "ytdikoipldcjcpaa", sum := "237bc03c3b6e1e2afbfcb03df2d6d1651907cd932f7f494dea0340ae00871666", checked := Try.checked }
namespace Rows
def none {H : Type} : Left H := { results := [], args := [] }

/-- 'quietwinglaw5.CipherKeys': WHATEVER THE INPUT: true; the input reads as it did. -/
def cipherKeysSpec : ChangeSpec := { name := "cipherKeys", fn := fun _ => fun
  | [d1, d2] => { results := [.lit (.bool true)], args := [d1, d2] }
  | _ => none }
def cipherKeysRow : OpenClaim := { program := "ytdikoipldcjcpaa", sum := "237bc03c3b6e1e2afbfcb03df2d6d1651907cd932f7f494dea0340ae00871666", func := "quietwing/quietwinglaw5.CipherKeys", spec := "cipherKeys", apart := false }
def CipherKeysSaid : Prop := cipherKeysRow.holds Try.pinned (OpenSpec.ofChange cipherKeysSpec)

/-- ITS FALSE NEIGHBOUR: 'it returns false'. Refute it at one input. -/
def cipherKeysWrong : ChangeSpec := { name := "cipherKeys", fn := fun _ => fun
  | [d1, d2] => { results := [.lit (.bool false)], args := [d1, d2] }
  | _ => none }
def CipherKeysWrongFalsely : Prop := cipherKeysRow.holds Try.pinned (OpenSpec.ofChange cipherKeysWrong)

/-- 'quietwinglaw5.CipherTold': WHATEVER THE INPUT: true; the input reads as it did. -/
def cipherToldSpec : ChangeSpec := { name := "cipherTold", fn := fun _ => fun
  | [d] => { results := [.lit (.bool true)], args := [d] }
  | _ => none }
def cipherToldRow : OpenClaim := { program := "ytdikoipldcjcpaa", sum := "237bc03c3b6e1e2afbfcb03df2d6d1651907cd932f7f494dea0340ae00871666", func := "quietwing/quietwinglaw5.CipherTold", spec := "cipherTold", apart := false }
def CipherToldSaid : Prop := cipherToldRow.holds Try.pinned (OpenSpec.ofChange cipherToldSpec)

/-- ITS FALSE NEIGHBOUR: 'it returns false'. Refute it at one input. -/
def cipherToldWrong : ChangeSpec := { name := "cipherTold", fn := fun _ => fun
  | [d] => { results := [.lit (.bool false)], args := [d] }
  | _ => none }
def CipherToldWrongFalsely : Prop := cipherToldRow.holds Try.pinned (OpenSpec.ofChange cipherToldWrong)

/-- 'quietwinglaw5.CipherBack': WHATEVER THE INPUT: true; the input reads as it did. -/
def cipherBackSpec : ChangeSpec := { name := "cipherBack", fn := fun _ => fun
  | [d1, d2, d3] => { results := [.lit (.bool true)], args := [d1, d2, d3] }
  | _ => none }
def cipherBackRow : OpenClaim := { program := "ytdikoipldcjcpaa", sum := "237bc03c3b6e1e2afbfcb03df2d6d1651907cd932f7f494dea0340ae00871666", func := "quietwing/quietwinglaw5.CipherBack", spec := "cipherBack", apart := false }
def CipherBackSaid : Prop := cipherBackRow.holds Try.pinned (OpenSpec.ofChange cipherBackSpec)

/-- ITS FALSE NEIGHBOUR: 'it returns false'. Refute it at one input. -/
def cipherBackWrong : ChangeSpec := { name := "cipherBack", fn := fun _ => fun
  | [d1, d2, d3] => { results := [.lit (.bool false)], args := [d1, d2, d3] }
  | _ => none }
def CipherBackWrongFalsely : Prop := cipherBackRow.holds Try.pinned (OpenSpec.ofChange cipherBackWrong)

/-- 'quietwinglaw5.SplitJoins': WHATEVER THE INPUT: true; the input reads as it did. -/
def splitJoinsSpec : ChangeSpec := { name := "splitJoins", fn := fun _ => fun
  | [d1, d2, d3, d4, d5] => { results := [.lit (.bool true)], args := [d1, d2, d3, d4, d5] }
  | _ => none }
def splitJoinsRow : OpenClaim := { program := "ytdikoipldcjcpaa", sum := "237bc03c3b6e1e2afbfcb03df2d6d1651907cd932f7f494dea0340ae00871666", func := "quietwing/quietwinglaw5.SplitJoins", spec := "splitJoins", apart := false }
def SplitJoinsSaid : Prop := splitJoinsRow.holds Try.pinned (OpenSpec.ofChange splitJoinsSpec)

/-- ITS FALSE NEIGHBOUR: 'it returns false'. Refute it at one input. -/
def splitJoinsWrong : ChangeSpec := { name := "splitJoins", fn := fun _ => fun
  | [d1, d2, d3, d4, d5] => { results := [.lit (.bool false)], args := [d1, d2, d3, d4, d5] }
  | _ => none }
def SplitJoinsWrongFalsely : Prop := splitJoinsRow.holds Try.pinned (OpenSpec.ofChange splitJoinsWrong)

/-- 'quietwinglaw5.SplitAdds': WHATEVER THE INPUT: true; the input reads as it did. -/
def splitAddsSpec : ChangeSpec := { name := "splitAdds", fn := fun _ => fun
  | [d1, d2, d3, d4, d5, d6] => { results := [.lit (.bool true)], args := [d1, d2, d3, d4, d5, d6] }
  | _ => none }
def splitAddsRow : OpenClaim := { program := "ytdikoipldcjcpaa", sum := "237bc03c3b6e1e2afbfcb03df2d6d1651907cd932f7f494dea0340ae00871666", func := "quietwing/quietwinglaw5.SplitAdds", spec := "splitAdds", apart := false }
def SplitAddsSaid : Prop := splitAddsRow.holds Try.pinned (OpenSpec.ofChange splitAddsSpec)

/-- ITS FALSE NEIGHBOUR: 'it returns false'. Refute it at one input. -/
def splitAddsWrong : ChangeSpec := { name := "splitAdds", fn := fun _ => fun
  | [d1, d2, d3, d4, d5, d6] => { results := [.lit (.bool false)], args := [d1, d2, d3, d4, d5, d6] }
  | _ => none }
def SplitAddsWrongFalsely : Prop := splitAddsRow.holds Try.pinned (OpenSpec.ofChange splitAddsWrong)

/-- 'quietwinglaw5.SplitFits': WHATEVER THE INPUT: true; the input reads as it did. -/
def splitFitsSpec : ChangeSpec := { name := "splitFits", fn := fun _ => fun
  | [d1, d2, d3, d4] => { results := [.lit (.bool true)], args := [d1, d2, d3, d4] }
  | _ => none }
def splitFitsRow : OpenClaim := { program := "ytdikoipldcjcpaa", sum := "237bc03c3b6e1e2afbfcb03df2d6d1651907cd932f7f494dea0340ae00871666", func := "quietwing/quietwinglaw5.SplitFits", spec := "splitFits", apart := false }
def SplitFitsSaid : Prop := splitFitsRow.holds Try.pinned (OpenSpec.ofChange splitFitsSpec)

/-- ITS FALSE NEIGHBOUR: 'it returns false'. Refute it at one input. -/
def splitFitsWrong : ChangeSpec := { name := "splitFits", fn := fun _ => fun
  | [d1, d2, d3, d4] => { results := [.lit (.bool false)], args := [d1, d2, d3, d4] }
  | _ => none }
def SplitFitsWrongFalsely : Prop := splitFitsRow.holds Try.pinned (OpenSpec.ofChange splitFitsWrong)

/- THE SECOND FORM. 'bulk': how many values and letters a reading holds, each counted each time it is reached (what is shared counts as often as it is met; a slice's spare places count too). A statement '..UptoSaid' is the law's where the arguments, and the package variables that the reading takes, are together of bulk at most 1048576: NARROWER than '..Said'. Prove '..Said' where nothing that the law and all that it calls make is longer than what came in: it says more and counts as full. Else prove '..UptoSaid'. A law counts once. -/
mutual
def uptoBulk {H : Type} : DataW H → Nat
  | .lit (.string bytes) => bytes.length + 1
  | .lit _ => 1
  | .nil => 1
  | .ptr d => uptoBulk d + 1
  | .slice elems spare => uptoBulkAll elems + uptoBulkAll spare + 1
  | .agg parts => uptoBulkAll parts + 1
  | .iface _ d => uptoBulk d + 1
  | .map entries => uptoBulkEntries entries + 1
  | .held _ => 1
def uptoBulkAll {H : Type} : List (DataW H) → Nat
  | [] => 0
  | d :: r => uptoBulk d + uptoBulkAll r
def uptoBulkEntries {H : Type} : List (Lit × DataW H) → Nat
  | [] => 0
  | x :: r => uptoBulkEntry x + uptoBulkEntries r
def uptoBulkEntry {H : Type} : Lit × DataW H → Nat
  | (.string bytes, d) => bytes.length + uptoBulk d + 1
  | (_, d) => uptoBulk d + 1
 end
def uptoSmall : (H : Type) → List (DataW H) → Bool := fun _ ds => decide (uptoBulkAll ds ≤ 1048576)
def OpenSpec.upto (s : _root_.Go.ChangeSpec) : _root_.Go.OpenSpec := { _root_.Go.OpenSpec.ofChange s with cond := some uptoSmall }

/-- 'quietwinglaw5.CipherKeys', WHERE WHAT IT READS IS OF BULK AT MOST 1048576: true; the input reads as it did. -/
def cipherKeysUptoRow : OpenClaim := { program := "ytdikoipldcjcpaa", sum := "237bc03c3b6e1e2afbfcb03df2d6d1651907cd932f7f494dea0340ae00871666", func := "quietwing/quietwinglaw5.CipherKeys", spec := "cipherKeys", apart := false, narrowed := true }
def CipherKeysUptoSaid : Prop := cipherKeysUptoRow.holds Try.pinned (OpenSpec.upto cipherKeysSpec)

/-- 'quietwinglaw5.CipherTold', WHERE WHAT IT READS IS OF BULK AT MOST 1048576: true; the input reads as it did. -/
def cipherToldUptoRow : OpenClaim := { program := "ytdikoipldcjcpaa", sum := "237bc03c3b6e1e2afbfcb03df2d6d1651907cd932f7f494dea0340ae00871666", func := "quietwing/quietwinglaw5.CipherTold", spec := "cipherTold", apart := false, narrowed := true }
def CipherToldUptoSaid : Prop := cipherToldUptoRow.holds Try.pinned (OpenSpec.upto cipherToldSpec)

/-- 'quietwinglaw5.CipherBack', WHERE WHAT IT READS IS OF BULK AT MOST 1048576: true; the input reads as it did. -/
def cipherBackUptoRow : OpenClaim := { program := "ytdikoipldcjcpaa", sum := "237bc03c3b6e1e2afbfcb03df2d6d1651907cd932f7f494dea0340ae00871666", func := "quietwing/quietwinglaw5.CipherBack", spec := "cipherBack", apart := false, narrowed := true }
def CipherBackUptoSaid : Prop := cipherBackUptoRow.holds Try.pinned (OpenSpec.upto cipherBackSpec)

/-- 'quietwinglaw5.SplitJoins', WHERE WHAT IT READS IS OF BULK AT MOST 1048576: true; the input reads as it did. -/
def splitJoinsUptoRow : OpenClaim := { program := "ytdikoipldcjcpaa", sum := "237bc03c3b6e1e2afbfcb03df2d6d1651907cd932f7f494dea0340ae00871666", func := "quietwing/quietwinglaw5.SplitJoins", spec := "splitJoins", apart := false, narrowed := true }
def SplitJoinsUptoSaid : Prop := splitJoinsUptoRow.holds Try.pinned (OpenSpec.upto splitJoinsSpec)

/-- 'quietwinglaw5.SplitAdds', WHERE WHAT IT READS IS OF BULK AT MOST 1048576: true; the input reads as it did. -/
def splitAddsUptoRow : OpenClaim := { program := "ytdikoipldcjcpaa", sum := "237bc03c3b6e1e2afbfcb03df2d6d1651907cd932f7f494dea0340ae00871666", func := "quietwing/quietwinglaw5.SplitAdds", spec := "splitAdds", apart := false, narrowed := true }
def SplitAddsUptoSaid : Prop := splitAddsUptoRow.holds Try.pinned (OpenSpec.upto splitAddsSpec)

/-- 'quietwinglaw5.SplitFits', WHERE WHAT IT READS IS OF BULK AT MOST 1048576: true; the input reads as it did. -/
def splitFitsUptoRow : OpenClaim := { program := "ytdikoipldcjcpaa", sum := "237bc03c3b6e1e2afbfcb03df2d6d1651907cd932f7f494dea0340ae00871666", func := "quietwing/quietwinglaw5.SplitFits", spec := "splitFits", apart := false, narrowed := true }
def SplitFitsUptoSaid : Prop := splitFitsUptoRow.holds Try.pinned (OpenSpec.upto splitFitsSpec)

end Rows
end Go.Proofs.Ytdikoipldcjcpaa
