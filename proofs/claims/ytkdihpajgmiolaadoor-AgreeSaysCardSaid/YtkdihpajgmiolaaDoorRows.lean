/-
  NARROWER THAN 'FOR EVERY INPUT', by the rows' own cells (each row's printed sentence says how): AgreeSum: laid · TopSure: laid · AgreeTalk: laid · AgreeNot: laid · PartSays: laid · KnowSays: laid · AgreeSays: laid.
  DERIVED. THE GIVEN ROWS OF THIS SEAT. 7 by the template 'for every input the law returns true; each argument reads behind the call as it read before'; 0 by the template 'total and deterministic' (their statements: YtkdihpajgmiolaaDoorTotals.lean).
  GIVEN WITH THE SEED: the statements are not yours to turn. If you find one false, say at which input.
  Laid BY PROGRAM, IN A SANDBOX (cutbox-rows.mjs): the forced cells as the released guide's own fill.sh prints them over the translation 9f5db79eb369dc73… (all of the seat's roots in one cut). By AI agents, Wed Nov 11 2026. No macro, syntax, notation, axiom, sorry.
-/
import Derived.Test.YtkdihpajgmiolaaDoorChecked
import GoSem.Claim
import GoSem.ClaimJoined
import GoSem.ClaimMapViews
import Derived.JoinedTies
import Derived.KernelRfl
namespace Go.Proofs.YtkdihpajgmiolaaDoor
/- THE CELL 'sum', in the pinned program and in every row, IS THE sha256 OF THE DUMP (.gsa) THAT YtkdihpajgmiolaaDoorProg.lean LOADS. Nothing in Lean hashes anything: it is a label: what it is worth is what the hold of that sum in a sandbox is worth. -/
noncomputable def Tryd.pinned : Pinned := { name := "ytkdihpajgmiolaadoor", sum := "9f5db79eb369dc73d5a58492278219e54aa662d30c9ae868fe259880b4419503", checked := Tryd.checked }
namespace Rows
def none {H : Type} : Left H := { results := [], args := [] }

/- WHAT THE LISTED PACKAGE-LEVEL VARIABLES READ AS WHEN THE CALL BEGINS. Each datum BY PROGRAM (the guide's laid-datum.mjs) off the statement by which the dump's own 'gosem.cut.vars' lays the variable. In a bare row this is a premise. The card (YtkdihpajgmiolaaDoorCards.lean) ties it to the program's text. -/
def laid_math_bits_deBruijn32tab {H : Type} : DataW H := .agg [.lit (.int .u8 0), .lit (.int .u8 1), .lit (.int .u8 28), .lit (.int .u8 2), .lit (.int .u8 29), .lit (.int .u8 14), .lit (.int .u8 24), .lit (.int .u8 3), .lit (.int .u8 30), .lit (.int .u8 22), .lit (.int .u8 20), .lit (.int .u8 15), .lit (.int .u8 25), .lit (.int .u8 17), .lit (.int .u8 4), .lit (.int .u8 8), .lit (.int .u8 31), .lit (.int .u8 27), .lit (.int .u8 13), .lit (.int .u8 23), .lit (.int .u8 21), .lit (.int .u8 19), .lit (.int .u8 16), .lit (.int .u8 7), .lit (.int .u8 26), .lit (.int .u8 12), .lit (.int .u8 18), .lit (.int .u8 6), .lit (.int .u8 11), .lit (.int .u8 5), .lit (.int .u8 10), .lit (.int .u8 9)]
def laid_math_bits_deBruijn64tab {H : Type} : DataW H := .agg [.lit (.int .u8 0), .lit (.int .u8 1), .lit (.int .u8 56), .lit (.int .u8 2), .lit (.int .u8 57), .lit (.int .u8 49), .lit (.int .u8 28), .lit (.int .u8 3), .lit (.int .u8 61), .lit (.int .u8 58), .lit (.int .u8 42), .lit (.int .u8 50), .lit (.int .u8 38), .lit (.int .u8 29), .lit (.int .u8 17), .lit (.int .u8 4), .lit (.int .u8 62), .lit (.int .u8 47), .lit (.int .u8 59), .lit (.int .u8 36), .lit (.int .u8 45), .lit (.int .u8 43), .lit (.int .u8 51), .lit (.int .u8 22), .lit (.int .u8 53), .lit (.int .u8 39), .lit (.int .u8 33), .lit (.int .u8 30), .lit (.int .u8 24), .lit (.int .u8 18), .lit (.int .u8 12), .lit (.int .u8 5), .lit (.int .u8 63), .lit (.int .u8 55), .lit (.int .u8 48), .lit (.int .u8 27), .lit (.int .u8 60), .lit (.int .u8 41), .lit (.int .u8 37), .lit (.int .u8 16), .lit (.int .u8 46), .lit (.int .u8 35), .lit (.int .u8 44), .lit (.int .u8 21), .lit (.int .u8 52), .lit (.int .u8 32), .lit (.int .u8 23), .lit (.int .u8 11), .lit (.int .u8 54), .lit (.int .u8 26), .lit (.int .u8 40), .lit (.int .u8 15), .lit (.int .u8 34), .lit (.int .u8 20), .lit (.int .u8 31), .lit (.int .u8 10), .lit (.int .u8 25), .lit (.int .u8 14), .lit (.int .u8 19), .lit (.int .u8 9), .lit (.int .u8 13), .lit (.int .u8 8), .lit (.int .u8 7), .lit (.int .u8 6)]
def laid_errors_errorType {H : Type} : DataW H := .iface "internal/reflectlite.rtype" (.agg [.ptr (.lit (.string [101, 114, 114, 111, 114]))])

/-- 'quietwinglaw5.AgreeSum': WHATEVER THE INPUT: true; the input reads as it did. -/
def agreeSumSpec : ChangeSpec := { name := "agreeSum", fn := fun _ => fun
  | [d1, d2, d3, d4] => { results := [.lit (.bool true)], args := [d1, d2, d3, d4] }
  | _ => none }
def agreeSumRow : OpenClaim := { program := "ytkdihpajgmiolaadoor", sum := "9f5db79eb369dc73d5a58492278219e54aa662d30c9ae868fe259880b4419503", func := "quietwing/quietwinglaw5.AgreeSum", spec := "agreeSum", unfollowed := true, recurses := true, named := ["math/bits.deBruijn32tab", "math/bits.deBruijn64tab"], plainKeys := false, apart := false, laid := [("math/bits.deBruijn32tab", laid_math_bits_deBruijn32tab), ("math/bits.deBruijn64tab", laid_math_bits_deBruijn64tab)] }
def AgreeSumSaid : Prop := agreeSumRow.holds Tryd.pinned (OpenSpec.ofChange agreeSumSpec)

/-- ITS FALSE NEIGHBOUR: 'it returns false'. Refute it at one input. -/
def agreeSumWrong : ChangeSpec := { name := "agreeSum", fn := fun _ => fun
  | [d1, d2, d3, d4] => { results := [.lit (.bool false)], args := [d1, d2, d3, d4] }
  | _ => none }
def AgreeSumWrongFalsely : Prop := agreeSumRow.holds Tryd.pinned (OpenSpec.ofChange agreeSumWrong)

/-- 'quietwingtop.TopSure': WHATEVER THE INPUT: true; the input reads as it did. -/
def topSureSpec : ChangeSpec := { name := "topSure", fn := fun _ => fun
  | [d1, d2, d3, d4, d5] => { results := [.lit (.bool true)], args := [d1, d2, d3, d4, d5] }
  | _ => none }
def topSureRow : OpenClaim := { program := "ytkdihpajgmiolaadoor", sum := "9f5db79eb369dc73d5a58492278219e54aa662d30c9ae868fe259880b4419503", func := "quietwing/quietwingtop.TopSure", spec := "topSure", unfollowed := true, recurses := true, named := ["math/bits.deBruijn32tab", "math/bits.deBruijn64tab"], plainKeys := false, apart := false, laid := [("math/bits.deBruijn32tab", laid_math_bits_deBruijn32tab), ("math/bits.deBruijn64tab", laid_math_bits_deBruijn64tab)] }
def TopSureSaid : Prop := topSureRow.holds Tryd.pinned (OpenSpec.ofChange topSureSpec)

/-- ITS FALSE NEIGHBOUR: 'it returns false'. Refute it at one input. -/
def topSureWrong : ChangeSpec := { name := "topSure", fn := fun _ => fun
  | [d1, d2, d3, d4, d5] => { results := [.lit (.bool false)], args := [d1, d2, d3, d4, d5] }
  | _ => none }
def TopSureWrongFalsely : Prop := topSureRow.holds Tryd.pinned (OpenSpec.ofChange topSureWrong)

/-- 'quietwinglaw5.AgreeTalk': WHATEVER THE INPUT: true; the input reads as it did. -/
def agreeTalkSpec : ChangeSpec := { name := "agreeTalk", fn := fun _ => fun
  | [d1, d2, d3, d4, d5] => { results := [.lit (.bool true)], args := [d1, d2, d3, d4, d5] }
  | _ => none }
def agreeTalkRow : OpenClaim := { program := "ytkdihpajgmiolaadoor", sum := "9f5db79eb369dc73d5a58492278219e54aa662d30c9ae868fe259880b4419503", func := "quietwing/quietwinglaw5.AgreeTalk", spec := "agreeTalk", unfollowed := true, recurses := true, named := ["math/bits.deBruijn32tab", "math/bits.deBruijn64tab"], plainKeys := false, apart := false, laid := [("math/bits.deBruijn32tab", laid_math_bits_deBruijn32tab), ("math/bits.deBruijn64tab", laid_math_bits_deBruijn64tab)] }
def AgreeTalkSaid : Prop := agreeTalkRow.holds Tryd.pinned (OpenSpec.ofChange agreeTalkSpec)

/-- ITS FALSE NEIGHBOUR: 'it returns false'. Refute it at one input. -/
def agreeTalkWrong : ChangeSpec := { name := "agreeTalk", fn := fun _ => fun
  | [d1, d2, d3, d4, d5] => { results := [.lit (.bool false)], args := [d1, d2, d3, d4, d5] }
  | _ => none }
def AgreeTalkWrongFalsely : Prop := agreeTalkRow.holds Tryd.pinned (OpenSpec.ofChange agreeTalkWrong)

/-- 'quietwinglaw5.AgreeNot': WHATEVER THE INPUT: true; the input reads as it did. -/
def agreeNotSpec : ChangeSpec := { name := "agreeNot", fn := fun _ => fun
  | [d1, d2, d3, d4, d5] => { results := [.lit (.bool true)], args := [d1, d2, d3, d4, d5] }
  | _ => none }
def agreeNotRow : OpenClaim := { program := "ytkdihpajgmiolaadoor", sum := "9f5db79eb369dc73d5a58492278219e54aa662d30c9ae868fe259880b4419503", func := "quietwing/quietwinglaw5.AgreeNot", spec := "agreeNot", unfollowed := true, recurses := true, named := ["math/bits.deBruijn32tab", "math/bits.deBruijn64tab"], plainKeys := false, apart := false, laid := [("math/bits.deBruijn32tab", laid_math_bits_deBruijn32tab), ("math/bits.deBruijn64tab", laid_math_bits_deBruijn64tab)] }
def AgreeNotSaid : Prop := agreeNotRow.holds Tryd.pinned (OpenSpec.ofChange agreeNotSpec)

/-- ITS FALSE NEIGHBOUR: 'it returns false'. Refute it at one input. -/
def agreeNotWrong : ChangeSpec := { name := "agreeNot", fn := fun _ => fun
  | [d1, d2, d3, d4, d5] => { results := [.lit (.bool false)], args := [d1, d2, d3, d4, d5] }
  | _ => none }
def AgreeNotWrongFalsely : Prop := agreeNotRow.holds Tryd.pinned (OpenSpec.ofChange agreeNotWrong)

/-- 'quietwinglaw5.PartSays': WHATEVER THE INPUT: true; the input reads as it did. -/
def partSaysSpec : ChangeSpec := { name := "partSays", fn := fun _ => fun
  | [d1, d2, d3] => { results := [.lit (.bool true)], args := [d1, d2, d3] }
  | _ => none }
def partSaysRow : OpenClaim := { program := "ytkdihpajgmiolaadoor", sum := "9f5db79eb369dc73d5a58492278219e54aa662d30c9ae868fe259880b4419503", func := "quietwing/quietwinglaw5.PartSays", spec := "partSays", inPlace := ["internal/reflectlite.ValueOf", "(internal/reflectlite.Value).Type", "(internal/reflectlite.Value).IsNil", "internal/reflectlite.TypeOf", "(internal/reflectlite.Value).Elem", "(internal/reflectlite.Value).Set"], unfollowed := true, recurses := true, named := ["errors.errorType"], plainKeys := false, apart := false, laid := [("errors.errorType", laid_errors_errorType)] }
def PartSaysSaid : Prop := partSaysRow.holds Tryd.pinned (OpenSpec.ofChange partSaysSpec)

/-- ITS FALSE NEIGHBOUR: 'it returns false'. Refute it at one input. -/
def partSaysWrong : ChangeSpec := { name := "partSays", fn := fun _ => fun
  | [d1, d2, d3] => { results := [.lit (.bool false)], args := [d1, d2, d3] }
  | _ => none }
def PartSaysWrongFalsely : Prop := partSaysRow.holds Tryd.pinned (OpenSpec.ofChange partSaysWrong)

/-- 'quietwinglaw5.KnowSays': WHATEVER THE INPUT: true; the input reads as it did. -/
def knowSaysSpec : ChangeSpec := { name := "knowSays", fn := fun _ => fun
  | [d1, d2] => { results := [.lit (.bool true)], args := [d1, d2] }
  | _ => none }
def knowSaysRow : OpenClaim := { program := "ytkdihpajgmiolaadoor", sum := "9f5db79eb369dc73d5a58492278219e54aa662d30c9ae868fe259880b4419503", func := "quietwing/quietwinglaw5.KnowSays", spec := "knowSays", inPlace := ["internal/reflectlite.ValueOf", "(internal/reflectlite.Value).Type", "(internal/reflectlite.Value).IsNil", "internal/reflectlite.TypeOf", "(internal/reflectlite.Value).Elem", "(internal/reflectlite.Value).Set"], unfollowed := true, recurses := true, named := ["errors.errorType"], plainKeys := false, apart := false, laid := [("errors.errorType", laid_errors_errorType)] }
def KnowSaysSaid : Prop := knowSaysRow.holds Tryd.pinned (OpenSpec.ofChange knowSaysSpec)

/-- ITS FALSE NEIGHBOUR: 'it returns false'. Refute it at one input. -/
def knowSaysWrong : ChangeSpec := { name := "knowSays", fn := fun _ => fun
  | [d1, d2] => { results := [.lit (.bool false)], args := [d1, d2] }
  | _ => none }
def KnowSaysWrongFalsely : Prop := knowSaysRow.holds Tryd.pinned (OpenSpec.ofChange knowSaysWrong)

/-- 'quietwinglaw5.AgreeSays': WHATEVER THE INPUT: true; the input reads as it did. -/
def agreeSaysSpec : ChangeSpec := { name := "agreeSays", fn := fun _ => fun
  | [d1, d2, d3, d4, d5] => { results := [.lit (.bool true)], args := [d1, d2, d3, d4, d5] }
  | _ => none }
def agreeSaysRow : OpenClaim := { program := "ytkdihpajgmiolaadoor", sum := "9f5db79eb369dc73d5a58492278219e54aa662d30c9ae868fe259880b4419503", func := "quietwing/quietwinglaw5.AgreeSays", spec := "agreeSays", inPlace := ["internal/reflectlite.ValueOf", "(internal/reflectlite.Value).Type", "(internal/reflectlite.Value).IsNil", "internal/reflectlite.TypeOf", "(internal/reflectlite.Value).Elem", "(internal/reflectlite.Value).Set"], unfollowed := true, recurses := true, named := ["errors.errorType", "math/bits.deBruijn32tab", "math/bits.deBruijn64tab"], plainKeys := false, apart := false, laid := [("math/bits.deBruijn32tab", laid_math_bits_deBruijn32tab), ("math/bits.deBruijn64tab", laid_math_bits_deBruijn64tab), ("errors.errorType", laid_errors_errorType)] }
def AgreeSaysSaid : Prop := agreeSaysRow.holds Tryd.pinned (OpenSpec.ofChange agreeSaysSpec)

/-- ITS FALSE NEIGHBOUR: 'it returns false'. Refute it at one input. -/
def agreeSaysWrong : ChangeSpec := { name := "agreeSays", fn := fun _ => fun
  | [d1, d2, d3, d4, d5] => { results := [.lit (.bool false)], args := [d1, d2, d3, d4, d5] }
  | _ => none }
def AgreeSaysWrongFalsely : Prop := agreeSaysRow.holds Tryd.pinned (OpenSpec.ofChange agreeSaysWrong)

/- THE SECOND FORM. 'bulk': how many values and letters a reading holds, each counted each time it is reached (what is shared counts as often as it is met; a slice's spare places count too). A statement '..UptoSaid' is the law's where the arguments, and the package variables that the reading takes, are together of bulk at most 1048576: NARROWER than '..Said'. Prove '..Said' where nothing that the law and all that it calls make is longer than what came in: it says more and counts as full. Else prove '..UptoSaid'. A law counts once. -/
mutual
def uptoBulk {H : Type} : DataW H → Nat
  | .lit (.string bytes) => bytes.length + 1
  | .lit _ => 1
  | .nil => 1
  | .ptr d => uptoBulk d + 1
  | .slice elems spare => uptoBulkAll elems + uptoBulkAll spare + 1
  | .agg parts => uptoBulkAll parts + 1
  | .iface _ d => uptoBulk d + 1
  | .map entries => uptoBulkEntries entries + 1
  | .held _ => 1
def uptoBulkAll {H : Type} : List (DataW H) → Nat
  | [] => 0
  | d :: r => uptoBulk d + uptoBulkAll r
def uptoBulkEntries {H : Type} : List (Lit × DataW H) → Nat
  | [] => 0
  | x :: r => uptoBulkEntry x + uptoBulkEntries r
def uptoBulkEntry {H : Type} : Lit × DataW H → Nat
  | (.string bytes, d) => bytes.length + uptoBulk d + 1
  | (_, d) => uptoBulk d + 1
 end
def uptoSmall : (H : Type) → List (DataW H) → Bool := fun _ ds => decide (uptoBulkAll ds ≤ 1048576)
def OpenSpec.upto (s : _root_.Go.ChangeSpec) : _root_.Go.OpenSpec := { _root_.Go.OpenSpec.ofChange s with cond := some uptoSmall }

/-- 'quietwinglaw5.AgreeSum', WHERE WHAT IT READS IS OF BULK AT MOST 1048576: true; the input reads as it did. -/
def agreeSumUptoRow : OpenClaim := { program := "ytkdihpajgmiolaadoor", sum := "9f5db79eb369dc73d5a58492278219e54aa662d30c9ae868fe259880b4419503", func := "quietwing/quietwinglaw5.AgreeSum", spec := "agreeSum", unfollowed := true, recurses := true, named := ["math/bits.deBruijn32tab", "math/bits.deBruijn64tab"], plainKeys := false, apart := false, laid := [("math/bits.deBruijn32tab", laid_math_bits_deBruijn32tab), ("math/bits.deBruijn64tab", laid_math_bits_deBruijn64tab)], narrowed := true }
def AgreeSumUptoSaid : Prop := agreeSumUptoRow.holds Tryd.pinned (OpenSpec.upto agreeSumSpec)

/-- 'quietwingtop.TopSure', WHERE WHAT IT READS IS OF BULK AT MOST 1048576: true; the input reads as it did. -/
def topSureUptoRow : OpenClaim := { program := "ytkdihpajgmiolaadoor", sum := "9f5db79eb369dc73d5a58492278219e54aa662d30c9ae868fe259880b4419503", func := "quietwing/quietwingtop.TopSure", spec := "topSure", unfollowed := true, recurses := true, named := ["math/bits.deBruijn32tab", "math/bits.deBruijn64tab"], plainKeys := false, apart := false, laid := [("math/bits.deBruijn32tab", laid_math_bits_deBruijn32tab), ("math/bits.deBruijn64tab", laid_math_bits_deBruijn64tab)], narrowed := true }
def TopSureUptoSaid : Prop := topSureUptoRow.holds Tryd.pinned (OpenSpec.upto topSureSpec)

/-- 'quietwinglaw5.AgreeTalk', WHERE WHAT IT READS IS OF BULK AT MOST 1048576: true; the input reads as it did. -/
def agreeTalkUptoRow : OpenClaim := { program := "ytkdihpajgmiolaadoor", sum := "9f5db79eb369dc73d5a58492278219e54aa662d30c9ae868fe259880b4419503", func := "quietwing/quietwinglaw5.AgreeTalk", spec := "agreeTalk", unfollowed := true, recurses := true, named := ["math/bits.deBruijn32tab", "math/bits.deBruijn64tab"], plainKeys := false, apart := false, laid := [("math/bits.deBruijn32tab", laid_math_bits_deBruijn32tab), ("math/bits.deBruijn64tab", laid_math_bits_deBruijn64tab)], narrowed := true }
def AgreeTalkUptoSaid : Prop := agreeTalkUptoRow.holds Tryd.pinned (OpenSpec.upto agreeTalkSpec)

/-- 'quietwinglaw5.AgreeNot', WHERE WHAT IT READS IS OF BULK AT MOST 1048576: true; the input reads as it did. -/
def agreeNotUptoRow : OpenClaim := { program := "ytkdihpajgmiolaadoor", sum := "9f5db79eb369dc73d5a58492278219e54aa662d30c9ae868fe259880b4419503", func := "quietwing/quietwinglaw5.AgreeNot", spec := "agreeNot", unfollowed := true, recurses := true, named := ["math/bits.deBruijn32tab", "math/bits.deBruijn64tab"], plainKeys := false, apart := false, laid := [("math/bits.deBruijn32tab", laid_math_bits_deBruijn32tab), ("math/bits.deBruijn64tab", laid_math_bits_deBruijn64tab)], narrowed := true }
def AgreeNotUptoSaid : Prop := agreeNotUptoRow.holds Tryd.pinned (OpenSpec.upto agreeNotSpec)

/-- 'quietwinglaw5.PartSays', WHERE WHAT IT READS IS OF BULK AT MOST 1048576: true; the input reads as it did. -/
def partSaysUptoRow : OpenClaim := { program := "ytkdihpajgmiolaadoor", sum := "9f5db79eb369dc73d5a58492278219e54aa662d30c9ae868fe259880b4419503", func := "quietwing/quietwinglaw5.PartSays", spec := "partSays", inPlace := ["internal/reflectlite.ValueOf", "(internal/reflectlite.Value).Type", "(internal/reflectlite.Value).IsNil", "internal/reflectlite.TypeOf", "(internal/reflectlite.Value).Elem", "(internal/reflectlite.Value).Set"], unfollowed := true, recurses := true, named := ["errors.errorType"], plainKeys := false, apart := false, laid := [("errors.errorType", laid_errors_errorType)], narrowed := true }
def PartSaysUptoSaid : Prop := partSaysUptoRow.holds Tryd.pinned (OpenSpec.upto partSaysSpec)

/-- 'quietwinglaw5.KnowSays', WHERE WHAT IT READS IS OF BULK AT MOST 1048576: true; the input reads as it did. -/
def knowSaysUptoRow : OpenClaim := { program := "ytkdihpajgmiolaadoor", sum := "9f5db79eb369dc73d5a58492278219e54aa662d30c9ae868fe259880b4419503", func := "quietwing/quietwinglaw5.KnowSays", spec := "knowSays", inPlace := ["internal/reflectlite.ValueOf", "(internal/reflectlite.Value).Type", "(internal/reflectlite.Value).IsNil", "internal/reflectlite.TypeOf", "(internal/reflectlite.Value).Elem", "(internal/reflectlite.Value).Set"], unfollowed := true, recurses := true, named := ["errors.errorType"], plainKeys := false, apart := false, laid := [("errors.errorType", laid_errors_errorType)], narrowed := true }
def KnowSaysUptoSaid : Prop := knowSaysUptoRow.holds Tryd.pinned (OpenSpec.upto knowSaysSpec)

/-- 'quietwinglaw5.AgreeSays', WHERE WHAT IT READS IS OF BULK AT MOST 1048576: true; the input reads as it did. -/
def agreeSaysUptoRow : OpenClaim := { program := "ytkdihpajgmiolaadoor", sum := "9f5db79eb369dc73d5a58492278219e54aa662d30c9ae868fe259880b4419503", func := "quietwing/quietwinglaw5.AgreeSays", spec := "agreeSays", inPlace := ["internal/reflectlite.ValueOf", "(internal/reflectlite.Value).Type", "(internal/reflectlite.Value).IsNil", "internal/reflectlite.TypeOf", "(internal/reflectlite.Value).Elem", "(internal/reflectlite.Value).Set"], unfollowed := true, recurses := true, named := ["errors.errorType", "math/bits.deBruijn32tab", "math/bits.deBruijn64tab"], plainKeys := false, apart := false, laid := [("math/bits.deBruijn32tab", laid_math_bits_deBruijn32tab), ("math/bits.deBruijn64tab", laid_math_bits_deBruijn64tab), ("errors.errorType", laid_errors_errorType)], narrowed := true }
def AgreeSaysUptoSaid : Prop := agreeSaysUptoRow.holds Tryd.pinned (OpenSpec.upto agreeSaysSpec)

end Rows
end Go.Proofs.YtkdihpajgmiolaaDoor
