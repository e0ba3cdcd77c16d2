/-
  NARROWER THAN 'FOR EVERY INPUT', by the rows' own cells (each row's printed sentence says how): FnPeriod: laid · FnMirrorAngle: laid · FnKneading: laid · FnExactAngleOf: laid · FnAngleOf: laid · FnAngleBits: laid · FnExactAngleTune: laid · FnTune: laid.
  DERIVED. THE GIVEN ROWS OF THIS SEAT. 8 by the template 'for every input the law returns true; each argument reads behind the call as it read before'; 0 by the template 'total and deterministic' (their statements: YtcdkhacccbdmdaaDoorTotals.lean).
  GIVEN WITH THE SEED: the statements are not yours to turn. If you find one false, say at which input.
  Laid BY PROGRAM, IN A SANDBOX (cutbox-rows.mjs): the forced cells as the released guide's own fill.sh prints them over the translation 60c427f62781467a… (all of the seat's roots in one cut). By AI agents, Wed Nov 11 2026. No macro, syntax, notation, axiom, sorry.
-/
import Derived.Test.YtcdkhacccbdmdaaDoorChecked
import GoSem.Claim
import GoSem.ClaimJoined
import GoSem.ClaimMapViews
import Derived.JoinedTies
import Derived.KernelRfl
namespace Go.Proofs.YtcdkhacccbdmdaaDoor
/- THE CELL 'sum', in the pinned program and in every row, IS THE sha256 OF THE DUMP (.gsa) THAT YtcdkhacccbdmdaaDoorProg.lean LOADS. Nothing in Lean hashes anything: it is a label: what it is worth is what the hold of that sum in a sandbox is worth. -/
noncomputable def Tryd.pinned : Pinned := { name := "ytcdkhacccbdmdaadoor", sum := "60c427f62781467a65625accdb1a661fb789dae634daa8ff7f8eb3076a204dcd", checked := Tryd.checked }
namespace Rows
def none {H : Type} : Left H := { results := [], args := [] }

/- WHAT THE LISTED PACKAGE-LEVEL VARIABLES READ AS WHEN THE CALL BEGINS. Each datum BY PROGRAM (the guide's laid-datum.mjs) off the statement by which the dump's own 'gosem.cut.vars' lays the variable. In a bare row this is a premise. The card (YtcdkhacccbdmdaaDoorCards.lean) ties it to the program's text. -/
def laid_math_bits_deBruijn32tab {H : Type} : DataW H := .agg [.lit (.int .u8 0), .lit (.int .u8 1), .lit (.int .u8 28), .lit (.int .u8 2), .lit (.int .u8 29), .lit (.int .u8 14), .lit (.int .u8 24), .lit (.int .u8 3), .lit (.int .u8 30), .lit (.int .u8 22), .lit (.int .u8 20), .lit (.int .u8 15), .lit (.int .u8 25), .lit (.int .u8 17), .lit (.int .u8 4), .lit (.int .u8 8), .lit (.int .u8 31), .lit (.int .u8 27), .lit (.int .u8 13), .lit (.int .u8 23), .lit (.int .u8 21), .lit (.int .u8 19), .lit (.int .u8 16), .lit (.int .u8 7), .lit (.int .u8 26), .lit (.int .u8 12), .lit (.int .u8 18), .lit (.int .u8 6), .lit (.int .u8 11), .lit (.int .u8 5), .lit (.int .u8 10), .lit (.int .u8 9)]
def laid_math_bits_deBruijn64tab {H : Type} : DataW H := .agg [.lit (.int .u8 0), .lit (.int .u8 1), .lit (.int .u8 56), .lit (.int .u8 2), .lit (.int .u8 57), .lit (.int .u8 49), .lit (.int .u8 28), .lit (.int .u8 3), .lit (.int .u8 61), .lit (.int .u8 58), .lit (.int .u8 42), .lit (.int .u8 50), .lit (.int .u8 38), .lit (.int .u8 29), .lit (.int .u8 17), .lit (.int .u8 4), .lit (.int .u8 62), .lit (.int .u8 47), .lit (.int .u8 59), .lit (.int .u8 36), .lit (.int .u8 45), .lit (.int .u8 43), .lit (.int .u8 51), .lit (.int .u8 22), .lit (.int .u8 53), .lit (.int .u8 39), .lit (.int .u8 33), .lit (.int .u8 30), .lit (.int .u8 24), .lit (.int .u8 18), .lit (.int .u8 12), .lit (.int .u8 5), .lit (.int .u8 63), .lit (.int .u8 55), .lit (.int .u8 48), .lit (.int .u8 27), .lit (.int .u8 60), .lit (.int .u8 41), .lit (.int .u8 37), .lit (.int .u8 16), .lit (.int .u8 46), .lit (.int .u8 35), .lit (.int .u8 44), .lit (.int .u8 21), .lit (.int .u8 52), .lit (.int .u8 32), .lit (.int .u8 23), .lit (.int .u8 11), .lit (.int .u8 54), .lit (.int .u8 26), .lit (.int .u8 40), .lit (.int .u8 15), .lit (.int .u8 34), .lit (.int .u8 20), .lit (.int .u8 31), .lit (.int .u8 10), .lit (.int .u8 25), .lit (.int .u8 14), .lit (.int .u8 19), .lit (.int .u8 9), .lit (.int .u8 13), .lit (.int .u8 8), .lit (.int .u8 7), .lit (.int .u8 6)]
def laid_errors_errorType {H : Type} : DataW H := .iface "internal/reflectlite.rtype" (.agg [.ptr (.lit (.string [101, 114, 114, 111, 114]))])

/-- 'laws.FnPeriod': WHATEVER THE INPUT: true; the input reads as it did. -/
def fnPeriodSpec : ChangeSpec := { name := "fnPeriod", fn := fun _ => fun
  | [d] => { results := [.lit (.bool true)], args := [d] }
  | _ => none }
def fnPeriodRow : OpenClaim := { program := "ytcdkhacccbdmdaadoor", sum := "60c427f62781467a65625accdb1a661fb789dae634daa8ff7f8eb3076a204dcd", func := "loop.example/quadraticorbits/laws.FnPeriod", spec := "fnPeriod", named := ["math/bits.deBruijn32tab", "math/bits.deBruijn64tab"], apart := false, laid := [("math/bits.deBruijn32tab", laid_math_bits_deBruijn32tab), ("math/bits.deBruijn64tab", laid_math_bits_deBruijn64tab)] }
def FnPeriodSaid : Prop := fnPeriodRow.holds Tryd.pinned (OpenSpec.ofChange fnPeriodSpec)

/-- ITS FALSE NEIGHBOUR: 'it returns false'. Refute it at one input. -/
def fnPeriodWrong : ChangeSpec := { name := "fnPeriod", fn := fun _ => fun
  | [d] => { results := [.lit (.bool false)], args := [d] }
  | _ => none }
def FnPeriodWrongFalsely : Prop := fnPeriodRow.holds Tryd.pinned (OpenSpec.ofChange fnPeriodWrong)

/-- 'laws.FnMirrorAngle': WHATEVER THE INPUT: true; the input reads as it did. -/
def fnMirrorAngleSpec : ChangeSpec := { name := "fnMirrorAngle", fn := fun _ => fun
  | [d] => { results := [.lit (.bool true)], args := [d] }
  | _ => none }
def fnMirrorAngleRow : OpenClaim := { program := "ytcdkhacccbdmdaadoor", sum := "60c427f62781467a65625accdb1a661fb789dae634daa8ff7f8eb3076a204dcd", func := "loop.example/quadraticorbits/laws.FnMirrorAngle", spec := "fnMirrorAngle", named := ["math/bits.deBruijn32tab", "math/bits.deBruijn64tab"], apart := false, laid := [("math/bits.deBruijn32tab", laid_math_bits_deBruijn32tab), ("math/bits.deBruijn64tab", laid_math_bits_deBruijn64tab)] }
def FnMirrorAngleSaid : Prop := fnMirrorAngleRow.holds Tryd.pinned (OpenSpec.ofChange fnMirrorAngleSpec)

/-- ITS FALSE NEIGHBOUR: 'it returns false'. Refute it at one input. -/
def fnMirrorAngleWrong : ChangeSpec := { name := "fnMirrorAngle", fn := fun _ => fun
  | [d] => { results := [.lit (.bool false)], args := [d] }
  | _ => none }
def FnMirrorAngleWrongFalsely : Prop := fnMirrorAngleRow.holds Tryd.pinned (OpenSpec.ofChange fnMirrorAngleWrong)

/-- 'laws.FnKneading': WHATEVER THE INPUT: true; the input reads as it did. -/
def fnKneadingSpec : ChangeSpec := { name := "fnKneading", fn := fun _ => fun
  | [d] => { results := [.lit (.bool true)], args := [d] }
  | _ => none }
def fnKneadingRow : OpenClaim := { program := "ytcdkhacccbdmdaadoor", sum := "60c427f62781467a65625accdb1a661fb789dae634daa8ff7f8eb3076a204dcd", func := "loop.example/quadraticorbits/laws.FnKneading", spec := "fnKneading", inPlace := ["internal/abi.NoEscape"], unfollowed := true, recurses := true, named := ["math/bits.deBruijn32tab", "math/bits.deBruijn64tab"], apart := false, laid := [("math/bits.deBruijn32tab", laid_math_bits_deBruijn32tab), ("math/bits.deBruijn64tab", laid_math_bits_deBruijn64tab)] }
def FnKneadingSaid : Prop := fnKneadingRow.holds Tryd.pinned (OpenSpec.ofChange fnKneadingSpec)

/-- ITS FALSE NEIGHBOUR: 'it returns false'. Refute it at one input. -/
def fnKneadingWrong : ChangeSpec := { name := "fnKneading", fn := fun _ => fun
  | [d] => { results := [.lit (.bool false)], args := [d] }
  | _ => none }
def FnKneadingWrongFalsely : Prop := fnKneadingRow.holds Tryd.pinned (OpenSpec.ofChange fnKneadingWrong)

/-- 'laws.FnExactAngleOf': WHATEVER THE INPUT: true; the input reads as it did. -/
def fnExactAngleOfSpec : ChangeSpec := { name := "fnExactAngleOf", fn := fun _ => fun
  | [d1, d2] => { results := [.lit (.bool true)], args := [d1, d2] }
  | _ => none }
def fnExactAngleOfRow : OpenClaim := { program := "ytcdkhacccbdmdaadoor", sum := "60c427f62781467a65625accdb1a661fb789dae634daa8ff7f8eb3076a204dcd", func := "loop.example/quadraticorbits/laws.FnExactAngleOf", spec := "fnExactAngleOf", inPlace := ["internal/reflectlite.ValueOf", "(internal/reflectlite.Value).Type", "(internal/reflectlite.Value).IsNil", "internal/reflectlite.TypeOf", "(internal/reflectlite.Value).Elem", "(internal/reflectlite.Value).Set"], unfollowed := true, recurses := true, named := ["errors.errorType"], apart := false, laid := [("errors.errorType", laid_errors_errorType)] }
def FnExactAngleOfSaid : Prop := fnExactAngleOfRow.holds Tryd.pinned (OpenSpec.ofChange fnExactAngleOfSpec)

/-- ITS FALSE NEIGHBOUR: 'it returns false'. Refute it at one input. -/
def fnExactAngleOfWrong : ChangeSpec := { name := "fnExactAngleOf", fn := fun _ => fun
  | [d1, d2] => { results := [.lit (.bool false)], args := [d1, d2] }
  | _ => none }
def FnExactAngleOfWrongFalsely : Prop := fnExactAngleOfRow.holds Tryd.pinned (OpenSpec.ofChange fnExactAngleOfWrong)

/-- 'laws.FnAngleOf': WHATEVER THE INPUT: true; the input reads as it did. -/
def fnAngleOfSpec : ChangeSpec := { name := "fnAngleOf", fn := fun _ => fun
  | [d] => { results := [.lit (.bool true)], args := [d] }
  | _ => none }
def fnAngleOfRow : OpenClaim := { program := "ytcdkhacccbdmdaadoor", sum := "60c427f62781467a65625accdb1a661fb789dae634daa8ff7f8eb3076a204dcd", func := "loop.example/quadraticorbits/laws.FnAngleOf", spec := "fnAngleOf", inPlace := ["internal/reflectlite.ValueOf", "(internal/reflectlite.Value).Type", "(internal/reflectlite.Value).IsNil", "internal/reflectlite.TypeOf", "(internal/reflectlite.Value).Elem", "(internal/reflectlite.Value).Set", "internal/abi.NoEscape"], unfollowed := true, recurses := true, named := ["errors.errorType"], apart := false, laid := [("errors.errorType", laid_errors_errorType)] }
def FnAngleOfSaid : Prop := fnAngleOfRow.holds Tryd.pinned (OpenSpec.ofChange fnAngleOfSpec)

/-- ITS FALSE NEIGHBOUR: 'it returns false'. Refute it at one input. -/
def fnAngleOfWrong : ChangeSpec := { name := "fnAngleOf", fn := fun _ => fun
  | [d] => { results := [.lit (.bool false)], args := [d] }
  | _ => none }
def FnAngleOfWrongFalsely : Prop := fnAngleOfRow.holds Tryd.pinned (OpenSpec.ofChange fnAngleOfWrong)

/-- 'laws.FnAngleBits': WHATEVER THE INPUT: true; the input reads as it did. -/
def fnAngleBitsSpec : ChangeSpec := { name := "fnAngleBits", fn := fun _ => fun
  | [d] => { results := [.lit (.bool true)], args := [d] }
  | _ => none }
def fnAngleBitsRow : OpenClaim := { program := "ytcdkhacccbdmdaadoor", sum := "60c427f62781467a65625accdb1a661fb789dae634daa8ff7f8eb3076a204dcd", func := "loop.example/quadraticorbits/laws.FnAngleBits", spec := "fnAngleBits", inPlace := ["internal/abi.NoEscape", "internal/reflectlite.ValueOf", "(internal/reflectlite.Value).Type", "(internal/reflectlite.Value).IsNil", "internal/reflectlite.TypeOf", "(internal/reflectlite.Value).Elem", "(internal/reflectlite.Value).Set"], unfollowed := true, recurses := true, named := ["math/bits.deBruijn32tab", "math/bits.deBruijn64tab", "errors.errorType"], apart := false, laid := [("math/bits.deBruijn32tab", laid_math_bits_deBruijn32tab), ("math/bits.deBruijn64tab", laid_math_bits_deBruijn64tab), ("errors.errorType", laid_errors_errorType)] }
def FnAngleBitsSaid : Prop := fnAngleBitsRow.holds Tryd.pinned (OpenSpec.ofChange fnAngleBitsSpec)

/-- ITS FALSE NEIGHBOUR: 'it returns false'. Refute it at one input. -/
def fnAngleBitsWrong : ChangeSpec := { name := "fnAngleBits", fn := fun _ => fun
  | [d] => { results := [.lit (.bool false)], args := [d] }
  | _ => none }
def FnAngleBitsWrongFalsely : Prop := fnAngleBitsRow.holds Tryd.pinned (OpenSpec.ofChange fnAngleBitsWrong)

/-- 'laws.FnExactAngleTune': WHATEVER THE INPUT: true; the input reads as it did. -/
def fnExactAngleTuneSpec : ChangeSpec := { name := "fnExactAngleTune", fn := fun _ => fun
  | [d1, d2, d3] => { results := [.lit (.bool true)], args := [d1, d2, d3] }
  | _ => none }
def fnExactAngleTuneRow : OpenClaim := { program := "ytcdkhacccbdmdaadoor", sum := "60c427f62781467a65625accdb1a661fb789dae634daa8ff7f8eb3076a204dcd", func := "loop.example/quadraticorbits/laws.FnExactAngleTune", spec := "fnExactAngleTune", inPlace := ["internal/reflectlite.ValueOf", "(internal/reflectlite.Value).Type", "(internal/reflectlite.Value).IsNil", "internal/reflectlite.TypeOf", "(internal/reflectlite.Value).Elem", "(internal/reflectlite.Value).Set", "internal/abi.NoEscape"], unfollowed := true, recurses := true, named := ["math/bits.deBruijn32tab", "math/bits.deBruijn64tab", "errors.errorType"], apart := false, laid := [("math/bits.deBruijn32tab", laid_math_bits_deBruijn32tab), ("math/bits.deBruijn64tab", laid_math_bits_deBruijn64tab), ("errors.errorType", laid_errors_errorType)] }
def FnExactAngleTuneSaid : Prop := fnExactAngleTuneRow.holds Tryd.pinned (OpenSpec.ofChange fnExactAngleTuneSpec)

/-- ITS FALSE NEIGHBOUR: 'it returns false'. Refute it at one input. -/
def fnExactAngleTuneWrong : ChangeSpec := { name := "fnExactAngleTune", fn := fun _ => fun
  | [d1, d2, d3] => { results := [.lit (.bool false)], args := [d1, d2, d3] }
  | _ => none }
def FnExactAngleTuneWrongFalsely : Prop := fnExactAngleTuneRow.holds Tryd.pinned (OpenSpec.ofChange fnExactAngleTuneWrong)

/-- 'laws.FnTune': WHATEVER THE INPUT: true; the input reads as it did. -/
def fnTuneSpec : ChangeSpec := { name := "fnTune", fn := fun _ => fun
  | [d] => { results := [.lit (.bool true)], args := [d] }
  | _ => none }
def fnTuneRow : OpenClaim := { program := "ytcdkhacccbdmdaadoor", sum := "60c427f62781467a65625accdb1a661fb789dae634daa8ff7f8eb3076a204dcd", func := "loop.example/quadraticorbits/laws.FnTune", spec := "fnTune", inPlace := ["internal/reflectlite.ValueOf", "(internal/reflectlite.Value).Type", "(internal/reflectlite.Value).IsNil", "internal/reflectlite.TypeOf", "(internal/reflectlite.Value).Elem", "(internal/reflectlite.Value).Set", "internal/abi.NoEscape"], unfollowed := true, recurses := true, named := ["math/bits.deBruijn32tab", "math/bits.deBruijn64tab", "errors.errorType"], apart := false, laid := [("math/bits.deBruijn32tab", laid_math_bits_deBruijn32tab), ("math/bits.deBruijn64tab", laid_math_bits_deBruijn64tab), ("errors.errorType", laid_errors_errorType)] }
def FnTuneSaid : Prop := fnTuneRow.holds Tryd.pinned (OpenSpec.ofChange fnTuneSpec)

/-- ITS FALSE NEIGHBOUR: 'it returns false'. Refute it at one input. -/
def fnTuneWrong : ChangeSpec := { name := "fnTune", fn := fun _ => fun
  | [d] => { results := [.lit (.bool false)], args := [d] }
  | _ => none }
def FnTuneWrongFalsely : Prop := fnTuneRow.holds Tryd.pinned (OpenSpec.ofChange fnTuneWrong)

/- THE SECOND FORM. 'bulk': how many values and letters a reading holds, each counted each time it is reached (what is shared counts as often as it is met; a slice's spare places count too). A statement '..UptoSaid' is the law's where the arguments, and the package variables that the reading takes, are together of bulk at most 1048576: NARROWER than '..Said'. Prove '..Said' where nothing that the law and all that it calls make is longer than what came in: it says more and counts as full. Else prove '..UptoSaid'. A law counts once. -/
mutual
def uptoBulk {H : Type} : DataW H → Nat
  | .lit (.string bytes) => bytes.length + 1
  | .lit _ => 1
  | .nil => 1
  | .ptr d => uptoBulk d + 1
  | .slice elems spare => uptoBulkAll elems + uptoBulkAll spare + 1
  | .agg parts => uptoBulkAll parts + 1
  | .iface _ d => uptoBulk d + 1
  | .map entries => uptoBulkEntries entries + 1
  | .held _ => 1
def uptoBulkAll {H : Type} : List (DataW H) → Nat
  | [] => 0
  | d :: r => uptoBulk d + uptoBulkAll r
def uptoBulkEntries {H : Type} : List (Lit × DataW H) → Nat
  | [] => 0
  | x :: r => uptoBulkEntry x + uptoBulkEntries r
def uptoBulkEntry {H : Type} : Lit × DataW H → Nat
  | (.string bytes, d) => bytes.length + uptoBulk d + 1
  | (_, d) => uptoBulk d + 1
 end
def uptoSmall : (H : Type) → List (DataW H) → Bool := fun _ ds => decide (uptoBulkAll ds ≤ 1048576)
def OpenSpec.upto (s : _root_.Go.ChangeSpec) : _root_.Go.OpenSpec := { _root_.Go.OpenSpec.ofChange s with cond := some uptoSmall }

/-- 'laws.FnPeriod', WHERE WHAT IT READS IS OF BULK AT MOST 1048576: true; the input reads as it did. -/
def fnPeriodUptoRow : OpenClaim := { program := "ytcdkhacccbdmdaadoor", sum := "60c427f62781467a65625accdb1a661fb789dae634daa8ff7f8eb3076a204dcd", func := "loop.example/quadraticorbits/laws.FnPeriod", spec := "fnPeriod", named := ["math/bits.deBruijn32tab", "math/bits.deBruijn64tab"], apart := false, laid := [("math/bits.deBruijn32tab", laid_math_bits_deBruijn32tab), ("math/bits.deBruijn64tab", laid_math_bits_deBruijn64tab)], narrowed := true }
def FnPeriodUptoSaid : Prop := fnPeriodUptoRow.holds Tryd.pinned (OpenSpec.upto fnPeriodSpec)

/-- 'laws.FnMirrorAngle', WHERE WHAT IT READS IS OF BULK AT MOST 1048576: true; the input reads as it did. -/
def fnMirrorAngleUptoRow : OpenClaim := { program := "ytcdkhacccbdmdaadoor", sum := "60c427f62781467a65625accdb1a661fb789dae634daa8ff7f8eb3076a204dcd", func := "loop.example/quadraticorbits/laws.FnMirrorAngle", spec := "fnMirrorAngle", named := ["math/bits.deBruijn32tab", "math/bits.deBruijn64tab"], apart := false, laid := [("math/bits.deBruijn32tab", laid_math_bits_deBruijn32tab), ("math/bits.deBruijn64tab", laid_math_bits_deBruijn64tab)], narrowed := true }
def FnMirrorAngleUptoSaid : Prop := fnMirrorAngleUptoRow.holds Tryd.pinned (OpenSpec.upto fnMirrorAngleSpec)

/-- 'laws.FnKneading', WHERE WHAT IT READS IS OF BULK AT MOST 1048576: true; the input reads as it did. -/
def fnKneadingUptoRow : OpenClaim := { program := "ytcdkhacccbdmdaadoor", sum := "60c427f62781467a65625accdb1a661fb789dae634daa8ff7f8eb3076a204dcd", func := "loop.example/quadraticorbits/laws.FnKneading", spec := "fnKneading", inPlace := ["internal/abi.NoEscape"], unfollowed := true, recurses := true, named := ["math/bits.deBruijn32tab", "math/bits.deBruijn64tab"], apart := false, laid := [("math/bits.deBruijn32tab", laid_math_bits_deBruijn32tab), ("math/bits.deBruijn64tab", laid_math_bits_deBruijn64tab)], narrowed := true }
def FnKneadingUptoSaid : Prop := fnKneadingUptoRow.holds Tryd.pinned (OpenSpec.upto fnKneadingSpec)

/-- 'laws.FnExactAngleOf', WHERE WHAT IT READS IS OF BULK AT MOST 1048576: true; the input reads as it did. -/
def fnExactAngleOfUptoRow : OpenClaim := { program := "ytcdkhacccbdmdaadoor", sum := "60c427f62781467a65625accdb1a661fb789dae634daa8ff7f8eb3076a204dcd", func := "loop.example/quadraticorbits/laws.FnExactAngleOf", spec := "fnExactAngleOf", inPlace := ["internal/reflectlite.ValueOf", "(internal/reflectlite.Value).Type", "(internal/reflectlite.Value).IsNil", "internal/reflectlite.TypeOf", "(internal/reflectlite.Value).Elem", "(internal/reflectlite.Value).Set"], unfollowed := true, recurses := true, named := ["errors.errorType"], apart := false, laid := [("errors.errorType", laid_errors_errorType)], narrowed := true }
def FnExactAngleOfUptoSaid : Prop := fnExactAngleOfUptoRow.holds Tryd.pinned (OpenSpec.upto fnExactAngleOfSpec)

/-- 'laws.FnAngleOf', WHERE WHAT IT READS IS OF BULK AT MOST 1048576: true; the input reads as it did. -/
def fnAngleOfUptoRow : OpenClaim := { program := "ytcdkhacccbdmdaadoor", sum := "60c427f62781467a65625accdb1a661fb789dae634daa8ff7f8eb3076a204dcd", func := "loop.example/quadraticorbits/laws.FnAngleOf", spec := "fnAngleOf", inPlace := ["internal/reflectlite.ValueOf", "(internal/reflectlite.Value).Type", "(internal/reflectlite.Value).IsNil", "internal/reflectlite.TypeOf", "(internal/reflectlite.Value).Elem", "(internal/reflectlite.Value).Set", "internal/abi.NoEscape"], unfollowed := true, recurses := true, named := ["errors.errorType"], apart := false, laid := [("errors.errorType", laid_errors_errorType)], narrowed := true }
def FnAngleOfUptoSaid : Prop := fnAngleOfUptoRow.holds Tryd.pinned (OpenSpec.upto fnAngleOfSpec)

/-- 'laws.FnAngleBits', WHERE WHAT IT READS IS OF BULK AT MOST 1048576: true; the input reads as it did. -/
def fnAngleBitsUptoRow : OpenClaim := { program := "ytcdkhacccbdmdaadoor", sum := "60c427f62781467a65625accdb1a661fb789dae634daa8ff7f8eb3076a204dcd", func := "loop.example/quadraticorbits/laws.FnAngleBits", spec := "fnAngleBits", inPlace := ["internal/abi.NoEscape", "internal/reflectlite.ValueOf", "(internal/reflectlite.Value).Type", "(internal/reflectlite.Value).IsNil", "internal/reflectlite.TypeOf", "(internal/reflectlite.Value).Elem", "(internal/reflectlite.Value).Set"], unfollowed := true, recurses := true, named := ["math/bits.deBruijn32tab", "math/bits.deBruijn64tab", "errors.errorType"], apart := false, laid := [("math/bits.deBruijn32tab", laid_math_bits_deBruijn32tab), ("math/bits.deBruijn64tab", laid_math_bits_deBruijn64tab), ("errors.errorType", laid_errors_errorType)], narrowed := true }
def FnAngleBitsUptoSaid : Prop := fnAngleBitsUptoRow.holds Tryd.pinned (OpenSpec.upto fnAngleBitsSpec)

/-- 'laws.FnExactAngleTune', WHERE WHAT IT READS IS OF BULK AT MOST 1048576: true; the input reads as it did. -/
def fnExactAngleTuneUptoRow : OpenClaim := { program := "ytcdkhacccbdmdaadoor", sum := "60c427f62781467a65625accdb1a661fb789dae634daa8ff7f8eb3076a204dcd", func := "loop.example/quadraticorbits/laws.FnExactAngleTune", spec := "fnExactAngleTune", inPlace := ["internal/reflectlite.ValueOf", "(internal/reflectlite.Value).Type", "(internal/reflectlite.Value).IsNil", "internal/reflectlite.TypeOf", "(internal/reflectlite.Value).Elem", "(internal/reflectlite.Value).Set", "internal/abi.NoEscape"], unfollowed := true, recurses := true, named := ["math/bits.deBruijn32tab", "math/bits.deBruijn64tab", "errors.errorType"], apart := false, laid := [("math/bits.deBruijn32tab", laid_math_bits_deBruijn32tab), ("math/bits.deBruijn64tab", laid_math_bits_deBruijn64tab), ("errors.errorType", laid_errors_errorType)], narrowed := true }
def FnExactAngleTuneUptoSaid : Prop := fnExactAngleTuneUptoRow.holds Tryd.pinned (OpenSpec.upto fnExactAngleTuneSpec)

/-- 'laws.FnTune', WHERE WHAT IT READS IS OF BULK AT MOST 1048576: true; the input reads as it did. -/
def fnTuneUptoRow : OpenClaim := { program := "ytcdkhacccbdmdaadoor", sum := "60c427f62781467a65625accdb1a661fb789dae634daa8ff7f8eb3076a204dcd", func := "loop.example/quadraticorbits/laws.FnTune", spec := "fnTune", inPlace := ["internal/reflectlite.ValueOf", "(internal/reflectlite.Value).Type", "(internal/reflectlite.Value).IsNil", "internal/reflectlite.TypeOf", "(internal/reflectlite.Value).Elem", "(internal/reflectlite.Value).Set", "internal/abi.NoEscape"], unfollowed := true, recurses := true, named := ["math/bits.deBruijn32tab", "math/bits.deBruijn64tab", "errors.errorType"], apart := false, laid := [("math/bits.deBruijn32tab", laid_math_bits_deBruijn32tab), ("math/bits.deBruijn64tab", laid_math_bits_deBruijn64tab), ("errors.errorType", laid_errors_errorType)], narrowed := true }
def FnTuneUptoSaid : Prop := fnTuneUptoRow.holds Tryd.pinned (OpenSpec.upto fnTuneSpec)

end Rows
end Go.Proofs.YtcdkhacccbdmdaaDoor
