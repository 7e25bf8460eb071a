/-
  NARROWER THAN 'FOR EVERY INPUT', by the rows' own cells (each row's printed sentence says how): TopViews: laid · UnwindLeast: laid · UnwindTwo: laid · PurgeTwice: laid · UnwindJust: laid · MachSays: laid · PurgeSays: laid · UnwindSays: laid · BetweenSays: laid · TopMach: laid.
  DERIVED. THE GIVEN ROWS OF THIS SEAT. 10 by the template 'for every input the law returns true; each argument reads behind the call as it read before'; 0 by the template 'total and deterministic' (their statements: YtndoigkmdcgjfaaDoorTotals.lean).
  GIVEN WITH THE SEED: the statements are not yours to turn. If you find one false, say at which input.
  Laid BY PROGRAM, IN A SANDBOX (cutbox-rows.mjs): the forced cells as the released guide's own fill.sh prints them over the translation 3dd421aabfe76e69… (all of the seat's roots in one cut). By AI agents, Wed Nov 11 2026. No macro, syntax, notation, axiom, sorry.
-/
import Derived.Test.YtndoigkmdcgjfaaDoorChecked
import GoSem.Claim
import GoSem.ClaimJoined
import GoSem.ClaimMapViews
import Derived.JoinedTies
import Derived.KernelRfl
namespace Go.Proofs.YtndoigkmdcgjfaaDoor
/- THE CELL 'sum', in the pinned program and in every row, IS THE sha256 OF THE DUMP (.gsa) THAT YtndoigkmdcgjfaaDoorProg.lean LOADS. Nothing in Lean hashes anything: it is a label: what it is worth is what the hold of that sum in a sandbox is worth. -/
noncomputable def Tryd.pinned : Pinned := { name := "ytndoigkmdcgjfaadoor", sum := "3dd421aabfe76e69e2863be4f69250aef0d4cba8b3706f20e5ae0dba0c9cc821", checked := Tryd.checked }
namespace Rows
def none {H : Type} : Left H := { results := [], args := [] }

/- WHAT THE LISTED PACKAGE-LEVEL VARIABLES READ AS WHEN THE CALL BEGINS. Each datum BY PROGRAM (the guide's laid-datum.mjs) off the statement by which the dump's own 'gosem.cut.vars' lays the variable. In a bare row this is a premise. The card (YtndoigkmdcgjfaaDoorCards.lean) ties it to the program's text. -/
def laid_math_bits_deBruijn32tab {H : Type} : DataW H := .agg [.lit (.int .u8 0), .lit (.int .u8 1), .lit (.int .u8 28), .lit (.int .u8 2), .lit (.int .u8 29), .lit (.int .u8 14), .lit (.int .u8 24), .lit (.int .u8 3), .lit (.int .u8 30), .lit (.int .u8 22), .lit (.int .u8 20), .lit (.int .u8 15), .lit (.int .u8 25), .lit (.int .u8 17), .lit (.int .u8 4), .lit (.int .u8 8), .lit (.int .u8 31), .lit (.int .u8 27), .lit (.int .u8 13), .lit (.int .u8 23), .lit (.int .u8 21), .lit (.int .u8 19), .lit (.int .u8 16), .lit (.int .u8 7), .lit (.int .u8 26), .lit (.int .u8 12), .lit (.int .u8 18), .lit (.int .u8 6), .lit (.int .u8 11), .lit (.int .u8 5), .lit (.int .u8 10), .lit (.int .u8 9)]
def laid_math_bits_deBruijn64tab {H : Type} : DataW H := .agg [.lit (.int .u8 0), .lit (.int .u8 1), .lit (.int .u8 56), .lit (.int .u8 2), .lit (.int .u8 57), .lit (.int .u8 49), .lit (.int .u8 28), .lit (.int .u8 3), .lit (.int .u8 61), .lit (.int .u8 58), .lit (.int .u8 42), .lit (.int .u8 50), .lit (.int .u8 38), .lit (.int .u8 29), .lit (.int .u8 17), .lit (.int .u8 4), .lit (.int .u8 62), .lit (.int .u8 47), .lit (.int .u8 59), .lit (.int .u8 36), .lit (.int .u8 45), .lit (.int .u8 43), .lit (.int .u8 51), .lit (.int .u8 22), .lit (.int .u8 53), .lit (.int .u8 39), .lit (.int .u8 33), .lit (.int .u8 30), .lit (.int .u8 24), .lit (.int .u8 18), .lit (.int .u8 12), .lit (.int .u8 5), .lit (.int .u8 63), .lit (.int .u8 55), .lit (.int .u8 48), .lit (.int .u8 27), .lit (.int .u8 60), .lit (.int .u8 41), .lit (.int .u8 37), .lit (.int .u8 16), .lit (.int .u8 46), .lit (.int .u8 35), .lit (.int .u8 44), .lit (.int .u8 21), .lit (.int .u8 52), .lit (.int .u8 32), .lit (.int .u8 23), .lit (.int .u8 11), .lit (.int .u8 54), .lit (.int .u8 26), .lit (.int .u8 40), .lit (.int .u8 15), .lit (.int .u8 34), .lit (.int .u8 20), .lit (.int .u8 31), .lit (.int .u8 10), .lit (.int .u8 25), .lit (.int .u8 14), .lit (.int .u8 19), .lit (.int .u8 9), .lit (.int .u8 13), .lit (.int .u8 8), .lit (.int .u8 7), .lit (.int .u8 6)]
def laid_errors_errorType {H : Type} : DataW H := .iface "internal/reflectlite.rtype" (.agg [.ptr (.lit (.string [101, 114, 114, 111, 114]))])

/-- 'quietwingtop.TopViews': WHATEVER THE INPUT: true; the input reads as it did. -/
def topViewsSpec : ChangeSpec := { name := "topViews", fn := fun _ => fun
  | [d1, d2, d3] => { results := [.lit (.bool true)], args := [d1, d2, d3] }
  | _ => none }
def topViewsRow : OpenClaim := { program := "ytndoigkmdcgjfaadoor", sum := "3dd421aabfe76e69e2863be4f69250aef0d4cba8b3706f20e5ae0dba0c9cc821", func := "quietwing/quietwingtop.TopViews", spec := "topViews", unfollowed := true, recurses := true, named := ["math/bits.deBruijn32tab", "math/bits.deBruijn64tab"], plainKeys := false, apart := false, laid := [("math/bits.deBruijn32tab", laid_math_bits_deBruijn32tab), ("math/bits.deBruijn64tab", laid_math_bits_deBruijn64tab)] }
def TopViewsSaid : Prop := topViewsRow.holds Tryd.pinned (OpenSpec.ofChange topViewsSpec)

/-- ITS FALSE NEIGHBOUR: 'it returns false'. Refute it at one input. -/
def topViewsWrong : ChangeSpec := { name := "topViews", fn := fun _ => fun
  | [d1, d2, d3] => { results := [.lit (.bool false)], args := [d1, d2, d3] }
  | _ => none }
def TopViewsWrongFalsely : Prop := topViewsRow.holds Tryd.pinned (OpenSpec.ofChange topViewsWrong)

/-- 'quietwinglaw4.UnwindLeast': WHATEVER THE INPUT: true; the input reads as it did. -/
def unwindLeastSpec : ChangeSpec := { name := "unwindLeast", fn := fun _ => fun
  | [d1, d2, d3, d4] => { results := [.lit (.bool true)], args := [d1, d2, d3, d4] }
  | _ => none }
def unwindLeastRow : OpenClaim := { program := "ytndoigkmdcgjfaadoor", sum := "3dd421aabfe76e69e2863be4f69250aef0d4cba8b3706f20e5ae0dba0c9cc821", func := "quietwing/quietwinglaw4.UnwindLeast", spec := "unwindLeast", unfollowed := true, recurses := true, named := ["math/bits.deBruijn32tab", "math/bits.deBruijn64tab"], plainKeys := false, apart := false, laid := [("math/bits.deBruijn32tab", laid_math_bits_deBruijn32tab), ("math/bits.deBruijn64tab", laid_math_bits_deBruijn64tab)] }
def UnwindLeastSaid : Prop := unwindLeastRow.holds Tryd.pinned (OpenSpec.ofChange unwindLeastSpec)

/-- ITS FALSE NEIGHBOUR: 'it returns false'. Refute it at one input. -/
def unwindLeastWrong : ChangeSpec := { name := "unwindLeast", fn := fun _ => fun
  | [d1, d2, d3, d4] => { results := [.lit (.bool false)], args := [d1, d2, d3, d4] }
  | _ => none }
def UnwindLeastWrongFalsely : Prop := unwindLeastRow.holds Tryd.pinned (OpenSpec.ofChange unwindLeastWrong)

/-- 'quietwinglaw4.UnwindTwo': WHATEVER THE INPUT: true; the input reads as it did. -/
def unwindTwoSpec : ChangeSpec := { name := "unwindTwo", fn := fun _ => fun
  | [d1, d2, d3, d4, d5] => { results := [.lit (.bool true)], args := [d1, d2, d3, d4, d5] }
  | _ => none }
def unwindTwoRow : OpenClaim := { program := "ytndoigkmdcgjfaadoor", sum := "3dd421aabfe76e69e2863be4f69250aef0d4cba8b3706f20e5ae0dba0c9cc821", func := "quietwing/quietwinglaw4.UnwindTwo", spec := "unwindTwo", unfollowed := true, recurses := true, named := ["math/bits.deBruijn32tab", "math/bits.deBruijn64tab"], plainKeys := false, apart := false, laid := [("math/bits.deBruijn32tab", laid_math_bits_deBruijn32tab), ("math/bits.deBruijn64tab", laid_math_bits_deBruijn64tab)] }
def UnwindTwoSaid : Prop := unwindTwoRow.holds Tryd.pinned (OpenSpec.ofChange unwindTwoSpec)

/-- ITS FALSE NEIGHBOUR: 'it returns false'. Refute it at one input. -/
def unwindTwoWrong : ChangeSpec := { name := "unwindTwo", fn := fun _ => fun
  | [d1, d2, d3, d4, d5] => { results := [.lit (.bool false)], args := [d1, d2, d3, d4, d5] }
  | _ => none }
def UnwindTwoWrongFalsely : Prop := unwindTwoRow.holds Tryd.pinned (OpenSpec.ofChange unwindTwoWrong)

/-- 'quietwinglaw4.PurgeTwice': WHATEVER THE INPUT: true; the input reads as it did. -/
def purgeTwiceSpec : ChangeSpec := { name := "purgeTwice", fn := fun _ => fun
  | [d1, d2, d3, d4, d5] => { results := [.lit (.bool true)], args := [d1, d2, d3, d4, d5] }
  | _ => none }
def purgeTwiceRow : OpenClaim := { program := "ytndoigkmdcgjfaadoor", sum := "3dd421aabfe76e69e2863be4f69250aef0d4cba8b3706f20e5ae0dba0c9cc821", func := "quietwing/quietwinglaw4.PurgeTwice", spec := "purgeTwice", inPlace := ["internal/reflectlite.ValueOf", "(internal/reflectlite.Value).Type", "(internal/reflectlite.Value).IsNil", "internal/reflectlite.TypeOf", "(internal/reflectlite.Value).Elem", "(internal/reflectlite.Value).Set"], unfollowed := true, recurses := true, named := ["errors.errorType"], plainKeys := false, apart := false, laid := [("errors.errorType", laid_errors_errorType)] }
def PurgeTwiceSaid : Prop := purgeTwiceRow.holds Tryd.pinned (OpenSpec.ofChange purgeTwiceSpec)

/-- ITS FALSE NEIGHBOUR: 'it returns false'. Refute it at one input. -/
def purgeTwiceWrong : ChangeSpec := { name := "purgeTwice", fn := fun _ => fun
  | [d1, d2, d3, d4, d5] => { results := [.lit (.bool false)], args := [d1, d2, d3, d4, d5] }
  | _ => none }
def PurgeTwiceWrongFalsely : Prop := purgeTwiceRow.holds Tryd.pinned (OpenSpec.ofChange purgeTwiceWrong)

/-- 'quietwinglaw4.UnwindJust': WHATEVER THE INPUT: true; the input reads as it did. -/
def unwindJustSpec : ChangeSpec := { name := "unwindJust", fn := fun _ => fun
  | [d1, d2, d3] => { results := [.lit (.bool true)], args := [d1, d2, d3] }
  | _ => none }
def unwindJustRow : OpenClaim := { program := "ytndoigkmdcgjfaadoor", sum := "3dd421aabfe76e69e2863be4f69250aef0d4cba8b3706f20e5ae0dba0c9cc821", func := "quietwing/quietwinglaw4.UnwindJust", spec := "unwindJust", unfollowed := true, recurses := true, named := ["math/bits.deBruijn32tab", "math/bits.deBruijn64tab"], plainKeys := false, apart := false, laid := [("math/bits.deBruijn32tab", laid_math_bits_deBruijn32tab), ("math/bits.deBruijn64tab", laid_math_bits_deBruijn64tab)] }
def UnwindJustSaid : Prop := unwindJustRow.holds Tryd.pinned (OpenSpec.ofChange unwindJustSpec)

/-- ITS FALSE NEIGHBOUR: 'it returns false'. Refute it at one input. -/
def unwindJustWrong : ChangeSpec := { name := "unwindJust", fn := fun _ => fun
  | [d1, d2, d3] => { results := [.lit (.bool false)], args := [d1, d2, d3] }
  | _ => none }
def UnwindJustWrongFalsely : Prop := unwindJustRow.holds Tryd.pinned (OpenSpec.ofChange unwindJustWrong)

/-- 'quietwinglaw4.MachSays': WHATEVER THE INPUT: true; the input reads as it did. -/
def machSaysSpec : ChangeSpec := { name := "machSays", fn := fun _ => fun
  | [d1, d2, d3, d4] => { results := [.lit (.bool true)], args := [d1, d2, d3, d4] }
  | _ => none }
def machSaysRow : OpenClaim := { program := "ytndoigkmdcgjfaadoor", sum := "3dd421aabfe76e69e2863be4f69250aef0d4cba8b3706f20e5ae0dba0c9cc821", func := "quietwing/quietwinglaw4.MachSays", spec := "machSays", inPlace := ["internal/reflectlite.ValueOf", "(internal/reflectlite.Value).Type", "(internal/reflectlite.Value).IsNil", "internal/reflectlite.TypeOf", "(internal/reflectlite.Value).Elem", "(internal/reflectlite.Value).Set"], unfollowed := true, recurses := true, named := ["errors.errorType"], plainKeys := false, apart := false, laid := [("errors.errorType", laid_errors_errorType)] }
def MachSaysSaid : Prop := machSaysRow.holds Tryd.pinned (OpenSpec.ofChange machSaysSpec)

/-- ITS FALSE NEIGHBOUR: 'it returns false'. Refute it at one input. -/
def machSaysWrong : ChangeSpec := { name := "machSays", fn := fun _ => fun
  | [d1, d2, d3, d4] => { results := [.lit (.bool false)], args := [d1, d2, d3, d4] }
  | _ => none }
def MachSaysWrongFalsely : Prop := machSaysRow.holds Tryd.pinned (OpenSpec.ofChange machSaysWrong)

/-- 'quietwinglaw4.PurgeSays': WHATEVER THE INPUT: true; the input reads as it did. -/
def purgeSaysSpec : ChangeSpec := { name := "purgeSays", fn := fun _ => fun
  | [d1, d2, d3, d4] => { results := [.lit (.bool true)], args := [d1, d2, d3, d4] }
  | _ => none }
def purgeSaysRow : OpenClaim := { program := "ytndoigkmdcgjfaadoor", sum := "3dd421aabfe76e69e2863be4f69250aef0d4cba8b3706f20e5ae0dba0c9cc821", func := "quietwing/quietwinglaw4.PurgeSays", spec := "purgeSays", inPlace := ["internal/reflectlite.ValueOf", "(internal/reflectlite.Value).Type", "(internal/reflectlite.Value).IsNil", "internal/reflectlite.TypeOf", "(internal/reflectlite.Value).Elem", "(internal/reflectlite.Value).Set"], unfollowed := true, recurses := true, named := ["errors.errorType"], plainKeys := false, apart := false, laid := [("errors.errorType", laid_errors_errorType)] }
def PurgeSaysSaid : Prop := purgeSaysRow.holds Tryd.pinned (OpenSpec.ofChange purgeSaysSpec)

/-- ITS FALSE NEIGHBOUR: 'it returns false'. Refute it at one input. -/
def purgeSaysWrong : ChangeSpec := { name := "purgeSays", fn := fun _ => fun
  | [d1, d2, d3, d4] => { results := [.lit (.bool false)], args := [d1, d2, d3, d4] }
  | _ => none }
def PurgeSaysWrongFalsely : Prop := purgeSaysRow.holds Tryd.pinned (OpenSpec.ofChange purgeSaysWrong)

/-- 'quietwinglaw4.UnwindSays': WHATEVER THE INPUT: true; the input reads as it did. -/
def unwindSaysSpec : ChangeSpec := { name := "unwindSays", fn := fun _ => fun
  | [d1, d2, d3] => { results := [.lit (.bool true)], args := [d1, d2, d3] }
  | _ => none }
def unwindSaysRow : OpenClaim := { program := "ytndoigkmdcgjfaadoor", sum := "3dd421aabfe76e69e2863be4f69250aef0d4cba8b3706f20e5ae0dba0c9cc821", func := "quietwing/quietwinglaw4.UnwindSays", spec := "unwindSays", inPlace := ["internal/reflectlite.ValueOf", "(internal/reflectlite.Value).Type", "(internal/reflectlite.Value).IsNil", "internal/reflectlite.TypeOf", "(internal/reflectlite.Value).Elem", "(internal/reflectlite.Value).Set"], unfollowed := true, recurses := true, named := ["math/bits.deBruijn32tab", "math/bits.deBruijn64tab", "errors.errorType"], plainKeys := false, apart := false, laid := [("math/bits.deBruijn32tab", laid_math_bits_deBruijn32tab), ("math/bits.deBruijn64tab", laid_math_bits_deBruijn64tab), ("errors.errorType", laid_errors_errorType)] }
def UnwindSaysSaid : Prop := unwindSaysRow.holds Tryd.pinned (OpenSpec.ofChange unwindSaysSpec)

/-- ITS FALSE NEIGHBOUR: 'it returns false'. Refute it at one input. -/
def unwindSaysWrong : ChangeSpec := { name := "unwindSays", fn := fun _ => fun
  | [d1, d2, d3] => { results := [.lit (.bool false)], args := [d1, d2, d3] }
  | _ => none }
def UnwindSaysWrongFalsely : Prop := unwindSaysRow.holds Tryd.pinned (OpenSpec.ofChange unwindSaysWrong)

/-- 'quietwinglaw4.BetweenSays': WHATEVER THE INPUT: true; the input reads as it did. -/
def betweenSaysSpec : ChangeSpec := { name := "betweenSays", fn := fun _ => fun
  | [d1, d2, d3, d4] => { results := [.lit (.bool true)], args := [d1, d2, d3, d4] }
  | _ => none }
def betweenSaysRow : OpenClaim := { program := "ytndoigkmdcgjfaadoor", sum := "3dd421aabfe76e69e2863be4f69250aef0d4cba8b3706f20e5ae0dba0c9cc821", func := "quietwing/quietwinglaw4.BetweenSays", spec := "betweenSays", inPlace := ["internal/reflectlite.ValueOf", "(internal/reflectlite.Value).Type", "(internal/reflectlite.Value).IsNil", "internal/reflectlite.TypeOf", "(internal/reflectlite.Value).Elem", "(internal/reflectlite.Value).Set"], unfollowed := true, recurses := true, named := ["errors.errorType"], plainKeys := false, apart := false, laid := [("errors.errorType", laid_errors_errorType)] }
def BetweenSaysSaid : Prop := betweenSaysRow.holds Tryd.pinned (OpenSpec.ofChange betweenSaysSpec)

/-- ITS FALSE NEIGHBOUR: 'it returns false'. Refute it at one input. -/
def betweenSaysWrong : ChangeSpec := { name := "betweenSays", fn := fun _ => fun
  | [d1, d2, d3, d4] => { results := [.lit (.bool false)], args := [d1, d2, d3, d4] }
  | _ => none }
def BetweenSaysWrongFalsely : Prop := betweenSaysRow.holds Tryd.pinned (OpenSpec.ofChange betweenSaysWrong)

/-- 'quietwingtop.TopMach': WHATEVER THE INPUT: true; the input reads as it did. -/
def topMachSpec : ChangeSpec := { name := "topMach", fn := fun _ => fun
  | [d1, d2, d3, d4, d5] => { results := [.lit (.bool true)], args := [d1, d2, d3, d4, d5] }
  | _ => none }
def topMachRow : OpenClaim := { program := "ytndoigkmdcgjfaadoor", sum := "3dd421aabfe76e69e2863be4f69250aef0d4cba8b3706f20e5ae0dba0c9cc821", func := "quietwing/quietwingtop.TopMach", spec := "topMach", unfollowed := true, recurses := true, named := ["math/bits.deBruijn32tab", "math/bits.deBruijn64tab"], plainKeys := false, apart := false, laid := [("math/bits.deBruijn32tab", laid_math_bits_deBruijn32tab), ("math/bits.deBruijn64tab", laid_math_bits_deBruijn64tab)] }
def TopMachSaid : Prop := topMachRow.holds Tryd.pinned (OpenSpec.ofChange topMachSpec)

/-- ITS FALSE NEIGHBOUR: 'it returns false'. Refute it at one input. -/
def topMachWrong : ChangeSpec := { name := "topMach", fn := fun _ => fun
  | [d1, d2, d3, d4, d5] => { results := [.lit (.bool false)], args := [d1, d2, d3, d4, d5] }
  | _ => none }
def TopMachWrongFalsely : Prop := topMachRow.holds Tryd.pinned (OpenSpec.ofChange topMachWrong)

/- THE SECOND FORM. 'bulk': how many values and letters a reading holds, each counted each time it is reached (what is shared counts as often as it is met; a slice's spare places count too). A statement '..UptoSaid' is the law's where the arguments, and the package variables that the reading takes, are together of bulk at most 1048576: NARROWER than '..Said'. Prove '..Said' where nothing that the law and all that it calls make is longer than what came in: it says more and counts as full. Else prove '..UptoSaid'. A law counts once. -/
mutual
def uptoBulk {H : Type} : DataW H → Nat
  | .lit (.string bytes) => bytes.length + 1
  | .lit _ => 1
  | .nil => 1
  | .ptr d => uptoBulk d + 1
  | .slice elems spare => uptoBulkAll elems + uptoBulkAll spare + 1
  | .agg parts => uptoBulkAll parts + 1
  | .iface _ d => uptoBulk d + 1
  | .map entries => uptoBulkEntries entries + 1
  | .held _ => 1
def uptoBulkAll {H : Type} : List (DataW H) → Nat
  | [] => 0
  | d :: r => uptoBulk d + uptoBulkAll r
def uptoBulkEntries {H : Type} : List (Lit × DataW H) → Nat
  | [] => 0
  | x :: r => uptoBulkEntry x + uptoBulkEntries r
def uptoBulkEntry {H : Type} : Lit × DataW H → Nat
  | (.string bytes, d) => bytes.length + uptoBulk d + 1
  | (_, d) => uptoBulk d + 1
 end
def uptoSmall : (H : Type) → List (DataW H) → Bool := fun _ ds => decide (uptoBulkAll ds ≤ 1048576)
def OpenSpec.upto (s : _root_.Go.ChangeSpec) : _root_.Go.OpenSpec := { _root_.Go.OpenSpec.ofChange s with cond := some uptoSmall }

/-- 'quietwingtop.TopViews', WHERE WHAT IT READS IS OF BULK AT MOST 1048576: true; the input reads as it did. -/
def topViewsUptoRow : OpenClaim := { program := "ytndoigkmdcgjfaadoor", sum := "3dd421aabfe76e69e2863be4f69250aef0d4cba8b3706f20e5ae0dba0c9cc821", func := "quietwing/quietwingtop.TopViews", spec := "topViews", unfollowed := true, recurses := true, named := ["math/bits.deBruijn32tab", "math/bits.deBruijn64tab"], plainKeys := false, apart := false, laid := [("math/bits.deBruijn32tab", laid_math_bits_deBruijn32tab), ("math/bits.deBruijn64tab", laid_math_bits_deBruijn64tab)], narrowed := true }
def TopViewsUptoSaid : Prop := topViewsUptoRow.holds Tryd.pinned (OpenSpec.upto topViewsSpec)

/-- 'quietwinglaw4.UnwindLeast', WHERE WHAT IT READS IS OF BULK AT MOST 1048576: true; the input reads as it did. -/
def unwindLeastUptoRow : OpenClaim := { program := "ytndoigkmdcgjfaadoor", sum := "3dd421aabfe76e69e2863be4f69250aef0d4cba8b3706f20e5ae0dba0c9cc821", func := "quietwing/quietwinglaw4.UnwindLeast", spec := "unwindLeast", unfollowed := true, recurses := true, named := ["math/bits.deBruijn32tab", "math/bits.deBruijn64tab"], plainKeys := false, apart := false, laid := [("math/bits.deBruijn32tab", laid_math_bits_deBruijn32tab), ("math/bits.deBruijn64tab", laid_math_bits_deBruijn64tab)], narrowed := true }
def UnwindLeastUptoSaid : Prop := unwindLeastUptoRow.holds Tryd.pinned (OpenSpec.upto unwindLeastSpec)

/-- 'quietwinglaw4.UnwindTwo', WHERE WHAT IT READS IS OF BULK AT MOST 1048576: true; the input reads as it did. -/
def unwindTwoUptoRow : OpenClaim := { program := "ytndoigkmdcgjfaadoor", sum := "3dd421aabfe76e69e2863be4f69250aef0d4cba8b3706f20e5ae0dba0c9cc821", func := "quietwing/quietwinglaw4.UnwindTwo", spec := "unwindTwo", unfollowed := true, recurses := true, named := ["math/bits.deBruijn32tab", "math/bits.deBruijn64tab"], plainKeys := false, apart := false, laid := [("math/bits.deBruijn32tab", laid_math_bits_deBruijn32tab), ("math/bits.deBruijn64tab", laid_math_bits_deBruijn64tab)], narrowed := true }
def UnwindTwoUptoSaid : Prop := unwindTwoUptoRow.holds Tryd.pinned (OpenSpec.upto unwindTwoSpec)

/-- 'quietwinglaw4.PurgeTwice', WHERE WHAT IT READS IS OF BULK AT MOST 1048576: true; the input reads as it did. -/
def purgeTwiceUptoRow : OpenClaim := { program := "ytndoigkmdcgjfaadoor", sum := "3dd421aabfe76e69e2863be4f69250aef0d4cba8b3706f20e5ae0dba0c9cc821", func := "quietwing/quietwinglaw4.PurgeTwice", spec := "purgeTwice", inPlace := ["internal/reflectlite.ValueOf", "(internal/reflectlite.Value).Type", "(internal/reflectlite.Value).IsNil", "internal/reflectlite.TypeOf", "(internal/reflectlite.Value).Elem", "(internal/reflectlite.Value).Set"], unfollowed := true, recurses := true, named := ["errors.errorType"], plainKeys := false, apart := false, laid := [("errors.errorType", laid_errors_errorType)], narrowed := true }
def PurgeTwiceUptoSaid : Prop := purgeTwiceUptoRow.holds Tryd.pinned (OpenSpec.upto purgeTwiceSpec)

/-- 'quietwinglaw4.UnwindJust', WHERE WHAT IT READS IS OF BULK AT MOST 1048576: true; the input reads as it did. -/
def unwindJustUptoRow : OpenClaim := { program := "ytndoigkmdcgjfaadoor", sum := "3dd421aabfe76e69e2863be4f69250aef0d4cba8b3706f20e5ae0dba0c9cc821", func := "quietwing/quietwinglaw4.UnwindJust", spec := "unwindJust", unfollowed := true, recurses := true, named := ["math/bits.deBruijn32tab", "math/bits.deBruijn64tab"], plainKeys := false, apart := false, laid := [("math/bits.deBruijn32tab", laid_math_bits_deBruijn32tab), ("math/bits.deBruijn64tab", laid_math_bits_deBruijn64tab)], narrowed := true }
def UnwindJustUptoSaid : Prop := unwindJustUptoRow.holds Tryd.pinned (OpenSpec.upto unwindJustSpec)

/-- 'quietwinglaw4.MachSays', WHERE WHAT IT READS IS OF BULK AT MOST 1048576: true; the input reads as it did. -/
def machSaysUptoRow : OpenClaim := { program := "ytndoigkmdcgjfaadoor", sum := "3dd421aabfe76e69e2863be4f69250aef0d4cba8b3706f20e5ae0dba0c9cc821", func := "quietwing/quietwinglaw4.MachSays", spec := "machSays", inPlace := ["internal/reflectlite.ValueOf", "(internal/reflectlite.Value).Type", "(internal/reflectlite.Value).IsNil", "internal/reflectlite.TypeOf", "(internal/reflectlite.Value).Elem", "(internal/reflectlite.Value).Set"], unfollowed := true, recurses := true, named := ["errors.errorType"], plainKeys := false, apart := false, laid := [("errors.errorType", laid_errors_errorType)], narrowed := true }
def MachSaysUptoSaid : Prop := machSaysUptoRow.holds Tryd.pinned (OpenSpec.upto machSaysSpec)

/-- 'quietwinglaw4.PurgeSays', WHERE WHAT IT READS IS OF BULK AT MOST 1048576: true; the input reads as it did. -/
def purgeSaysUptoRow : OpenClaim := { program := "ytndoigkmdcgjfaadoor", sum := "3dd421aabfe76e69e2863be4f69250aef0d4cba8b3706f20e5ae0dba0c9cc821", func := "quietwing/quietwinglaw4.PurgeSays", spec := "purgeSays", inPlace := ["internal/reflectlite.ValueOf", "(internal/reflectlite.Value).Type", "(internal/reflectlite.Value).IsNil", "internal/reflectlite.TypeOf", "(internal/reflectlite.Value).Elem", "(internal/reflectlite.Value).Set"], unfollowed := true, recurses := true, named := ["errors.errorType"], plainKeys := false, apart := false, laid := [("errors.errorType", laid_errors_errorType)], narrowed := true }
def PurgeSaysUptoSaid : Prop := purgeSaysUptoRow.holds Tryd.pinned (OpenSpec.upto purgeSaysSpec)

/-- 'quietwinglaw4.UnwindSays', WHERE WHAT IT READS IS OF BULK AT MOST 1048576: true; the input reads as it did. -/
def unwindSaysUptoRow : OpenClaim := { program := "ytndoigkmdcgjfaadoor", sum := "3dd421aabfe76e69e2863be4f69250aef0d4cba8b3706f20e5ae0dba0c9cc821", func := "quietwing/quietwinglaw4.UnwindSays", spec := "unwindSays", inPlace := ["internal/reflectlite.ValueOf", "(internal/reflectlite.Value).Type", "(internal/reflectlite.Value).IsNil", "internal/reflectlite.TypeOf", "(internal/reflectlite.Value).Elem", "(internal/reflectlite.Value).Set"], unfollowed := true, recurses := true, named := ["math/bits.deBruijn32tab", "math/bits.deBruijn64tab", "errors.errorType"], plainKeys := false, apart := false, laid := [("math/bits.deBruijn32tab", laid_math_bits_deBruijn32tab), ("math/bits.deBruijn64tab", laid_math_bits_deBruijn64tab), ("errors.errorType", laid_errors_errorType)], narrowed := true }
def UnwindSaysUptoSaid : Prop := unwindSaysUptoRow.holds Tryd.pinned (OpenSpec.upto unwindSaysSpec)

/-- 'quietwinglaw4.BetweenSays', WHERE WHAT IT READS IS OF BULK AT MOST 1048576: true; the input reads as it did. -/
def betweenSaysUptoRow : OpenClaim := { program := "ytndoigkmdcgjfaadoor", sum := "3dd421aabfe76e69e2863be4f69250aef0d4cba8b3706f20e5ae0dba0c9cc821", func := "quietwing/quietwinglaw4.BetweenSays", spec := "betweenSays", inPlace := ["internal/reflectlite.ValueOf", "(internal/reflectlite.Value).Type", "(internal/reflectlite.Value).IsNil", "internal/reflectlite.TypeOf", "(internal/reflectlite.Value).Elem", "(internal/reflectlite.Value).Set"], unfollowed := true, recurses := true, named := ["errors.errorType"], plainKeys := false, apart := false, laid := [("errors.errorType", laid_errors_errorType)], narrowed := true }
def BetweenSaysUptoSaid : Prop := betweenSaysUptoRow.holds Tryd.pinned (OpenSpec.upto betweenSaysSpec)

/-- 'quietwingtop.TopMach', WHERE WHAT IT READS IS OF BULK AT MOST 1048576: true; the input reads as it did. -/
def topMachUptoRow : OpenClaim := { program := "ytndoigkmdcgjfaadoor", sum := "3dd421aabfe76e69e2863be4f69250aef0d4cba8b3706f20e5ae0dba0c9cc821", func := "quietwing/quietwingtop.TopMach", spec := "topMach", unfollowed := true, recurses := true, named := ["math/bits.deBruijn32tab", "math/bits.deBruijn64tab"], plainKeys := false, apart := false, laid := [("math/bits.deBruijn32tab", laid_math_bits_deBruijn32tab), ("math/bits.deBruijn64tab", laid_math_bits_deBruijn64tab)], narrowed := true }
def TopMachUptoSaid : Prop := topMachUptoRow.holds Tryd.pinned (OpenSpec.upto topMachSpec)

end Rows
end Go.Proofs.YtndoigkmdcgjfaaDoor
