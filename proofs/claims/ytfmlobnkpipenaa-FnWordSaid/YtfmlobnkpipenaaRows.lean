/-
  No cell of these rows narrows 'for every input' (looked for: loops, veiled, ifaces, maps, wideKeys, modest, calm, conditions, laid).
  DERIVED. THE GIVEN ROWS OF THIS SEAT. 6 by the template 'for every input the law returns true; each argument reads behind the call as it read before'; 0 by the template 'total and deterministic' (their statements: YtfmlobnkpipenaaTotals.lean).
  GIVEN WITH THE SEED: the statements are not yours to turn. If you find one false, say at which input.
  Laid BY PROGRAM, IN A SANDBOX (cutbox-rows.mjs): the forced cells as the released guide's own fill.sh prints them over the translation 77ef65cd8ea0b896… (all of the seat's roots in one cut). By AI agents, Wed Nov 11 2026. No macro, syntax, notation, axiom, sorry.
-/
import Derived.Test.YtfmlobnkpipenaaChecked
import GoSem.Claim
import GoSem.ClaimJoined
import GoSem.ClaimMapViews
import Derived.JoinedTies
import Derived.KernelRfl
namespace Go.Proofs.Ytfmlobnkpipenaa
/- THE CELL 'sum', in the pinned program and in every row, IS THE sha256 OF THE DUMP (.gsa) THAT YtfmlobnkpipenaaProg.lean LOADS. Nothing in Lean hashes anything: it is a label: what it is worth is what the hold of that sum in a sandbox is worth. -/
noncomputable def Try.pinned : Pinned := { name := "ytfmlobnkpipenaa", sum := "77ef65cd8ea0b89638ada29cf6a5a0e8844cd9b31cbd33cc2cd86667719ba8b1", checked := Try.checked }
namespace Rows
def none {H : Type} : Left H := { results := [], args := [] }

/-- 'laws.FnExactWordOf': WHATEVER THE INPUT: true; the input reads as it did. -/
def fnExactWordOfSpec : ChangeSpec := { name := "fnExactWordOf", fn := fun _ => fun
  | [d] => { results := [.lit (.bool true)], args := [d] }
  | _ => none }
def fnExactWordOfRow : OpenClaim := { program := "ytfmlobnkpipenaa", sum := "77ef65cd8ea0b89638ada29cf6a5a0e8844cd9b31cbd33cc2cd86667719ba8b1", func := "loop.example/quadraticorbits/laws.FnExactWordOf", spec := "fnExactWordOf", inPlace := ["math.Float32bits"], apart := false }
def FnExactWordOfSaid : Prop := fnExactWordOfRow.holds Try.pinned (OpenSpec.ofChange fnExactWordOfSpec)

/-- ITS FALSE NEIGHBOUR: 'it returns false'. Refute it at one input. -/
def fnExactWordOfWrong : ChangeSpec := { name := "fnExactWordOf", fn := fun _ => fun
  | [d] => { results := [.lit (.bool false)], args := [d] }
  | _ => none }
def FnExactWordOfWrongFalsely : Prop := fnExactWordOfRow.holds Try.pinned (OpenSpec.ofChange fnExactWordOfWrong)

/-- 'laws.FnExactWordRead': WHATEVER THE INPUT: true; the input reads as it did. -/
def fnExactWordReadSpec : ChangeSpec := { name := "fnExactWordRead", fn := fun _ => fun
  | [d] => { results := [.lit (.bool true)], args := [d] }
  | _ => none }
def fnExactWordReadRow : OpenClaim := { program := "ytfmlobnkpipenaa", sum := "77ef65cd8ea0b89638ada29cf6a5a0e8844cd9b31cbd33cc2cd86667719ba8b1", func := "loop.example/quadraticorbits/laws.FnExactWordRead", spec := "fnExactWordRead", inPlace := ["math.Float32frombits", "internal/bytealg.IndexByteString"], apart := false }
def FnExactWordReadSaid : Prop := fnExactWordReadRow.holds Try.pinned (OpenSpec.ofChange fnExactWordReadSpec)

/-- ITS FALSE NEIGHBOUR: 'it returns false'. Refute it at one input. -/
def fnExactWordReadWrong : ChangeSpec := { name := "fnExactWordRead", fn := fun _ => fun
  | [d] => { results := [.lit (.bool false)], args := [d] }
  | _ => none }
def FnExactWordReadWrongFalsely : Prop := fnExactWordReadRow.holds Try.pinned (OpenSpec.ofChange fnExactWordReadWrong)

/-- 'laws.FnExactAngleBits': WHATEVER THE INPUT: true; the input reads as it did. -/
def fnExactAngleBitsSpec : ChangeSpec := { name := "fnExactAngleBits", fn := fun _ => fun
  | [d1, d2] => { results := [.lit (.bool true)], args := [d1, d2] }
  | _ => none }
def fnExactAngleBitsRow : OpenClaim := { program := "ytfmlobnkpipenaa", sum := "77ef65cd8ea0b89638ada29cf6a5a0e8844cd9b31cbd33cc2cd86667719ba8b1", func := "loop.example/quadraticorbits/laws.FnExactAngleBits", spec := "fnExactAngleBits", inPlace := ["internal/abi.NoEscape"], unfollowed := true, recurses := true, apart := false }
def FnExactAngleBitsSaid : Prop := fnExactAngleBitsRow.holds Try.pinned (OpenSpec.ofChange fnExactAngleBitsSpec)

/-- ITS FALSE NEIGHBOUR: 'it returns false'. Refute it at one input. -/
def fnExactAngleBitsWrong : ChangeSpec := { name := "fnExactAngleBits", fn := fun _ => fun
  | [d1, d2] => { results := [.lit (.bool false)], args := [d1, d2] }
  | _ => none }
def FnExactAngleBitsWrongFalsely : Prop := fnExactAngleBitsRow.holds Try.pinned (OpenSpec.ofChange fnExactAngleBitsWrong)

/-- 'laws.FnExactAngleKneading': WHATEVER THE INPUT: true; the input reads as it did. -/
def fnExactAngleKneadingSpec : ChangeSpec := { name := "fnExactAngleKneading", fn := fun _ => fun
  | [d1, d2] => { results := [.lit (.bool true)], args := [d1, d2] }
  | _ => none }
def fnExactAngleKneadingRow : OpenClaim := { program := "ytfmlobnkpipenaa", sum := "77ef65cd8ea0b89638ada29cf6a5a0e8844cd9b31cbd33cc2cd86667719ba8b1", func := "loop.example/quadraticorbits/laws.FnExactAngleKneading", spec := "fnExactAngleKneading", inPlace := ["internal/abi.NoEscape"], unfollowed := true, recurses := true, apart := false }
def FnExactAngleKneadingSaid : Prop := fnExactAngleKneadingRow.holds Try.pinned (OpenSpec.ofChange fnExactAngleKneadingSpec)

/-- ITS FALSE NEIGHBOUR: 'it returns false'. Refute it at one input. -/
def fnExactAngleKneadingWrong : ChangeSpec := { name := "fnExactAngleKneading", fn := fun _ => fun
  | [d1, d2] => { results := [.lit (.bool false)], args := [d1, d2] }
  | _ => none }
def FnExactAngleKneadingWrongFalsely : Prop := fnExactAngleKneadingRow.holds Try.pinned (OpenSpec.ofChange fnExactAngleKneadingWrong)

/-- 'laws.FnWord': WHATEVER THE INPUT: true; the input reads as it did. -/
def fnWordSpec : ChangeSpec := { name := "fnWord", fn := fun _ => fun
  | [d] => { results := [.lit (.bool true)], args := [d] }
  | _ => none }
def fnWordRow : OpenClaim := { program := "ytfmlobnkpipenaa", sum := "77ef65cd8ea0b89638ada29cf6a5a0e8844cd9b31cbd33cc2cd86667719ba8b1", func := "loop.example/quadraticorbits/laws.FnWord", spec := "fnWord", inPlace := ["math.Float32bits", "internal/bytealg.IndexByteString", "math.Float32frombits"], apart := false }
def FnWordSaid : Prop := fnWordRow.holds Try.pinned (OpenSpec.ofChange fnWordSpec)

/-- ITS FALSE NEIGHBOUR: 'it returns false'. Refute it at one input. -/
def fnWordWrong : ChangeSpec := { name := "fnWord", fn := fun _ => fun
  | [d] => { results := [.lit (.bool false)], args := [d] }
  | _ => none }
def FnWordWrongFalsely : Prop := fnWordRow.holds Try.pinned (OpenSpec.ofChange fnWordWrong)

/-- 'laws.FnExactPlanDepth': WHATEVER THE INPUT: true; the input reads as it did. -/
def fnExactPlanDepthSpec : ChangeSpec := { name := "fnExactPlanDepth", fn := fun _ => fun
  | [d] => { results := [.lit (.bool true)], args := [d] }
  | _ => none }
def fnExactPlanDepthRow : OpenClaim := { program := "ytfmlobnkpipenaa", sum := "77ef65cd8ea0b89638ada29cf6a5a0e8844cd9b31cbd33cc2cd86667719ba8b1", func := "loop.example/quadraticorbits/laws.FnExactPlanDepth", spec := "fnExactPlanDepth", apart := false }
def FnExactPlanDepthSaid : Prop := fnExactPlanDepthRow.holds Try.pinned (OpenSpec.ofChange fnExactPlanDepthSpec)

/-- ITS FALSE NEIGHBOUR: 'it returns false'. Refute it at one input. -/
def fnExactPlanDepthWrong : ChangeSpec := { name := "fnExactPlanDepth", fn := fun _ => fun
  | [d] => { results := [.lit (.bool false)], args := [d] }
  | _ => none }
def FnExactPlanDepthWrongFalsely : Prop := fnExactPlanDepthRow.holds Try.pinned (OpenSpec.ofChange fnExactPlanDepthWrong)

/- THE SECOND FORM. 'bulk': how many values and letters a reading holds, each counted each time it is reached (what is shared counts as often as it is met; a slice's spare places count too). A statement '..UptoSaid' is the law's where the arguments, and the package variables that the reading takes, are together of bulk at most 1048576: NARROWER than '..Said'. Prove '..Said' where nothing that the law and all that it calls make is longer than what came in: it says more and counts as full. Else prove '..UptoSaid'. A law counts once. -/
mutual
def uptoBulk {H : Type} : DataW H → Nat
  | .lit (.string bytes) => bytes.length + 1
  | .lit _ => 1
  | .nil => 1
  | .ptr d => uptoBulk d + 1
  | .slice elems spare => uptoBulkAll elems + uptoBulkAll spare + 1
  | .agg parts => uptoBulkAll parts + 1
  | .iface _ d => uptoBulk d + 1
  | .map entries => uptoBulkEntries entries + 1
  | .held _ => 1
def uptoBulkAll {H : Type} : List (DataW H) → Nat
  | [] => 0
  | d :: r => uptoBulk d + uptoBulkAll r
def uptoBulkEntries {H : Type} : List (Lit × DataW H) → Nat
  | [] => 0
  | x :: r => uptoBulkEntry x + uptoBulkEntries r
def uptoBulkEntry {H : Type} : Lit × DataW H → Nat
  | (.string bytes, d) => bytes.length + uptoBulk d + 1
  | (_, d) => uptoBulk d + 1
 end
def uptoSmall : (H : Type) → List (DataW H) → Bool := fun _ ds => decide (uptoBulkAll ds ≤ 1048576)
def OpenSpec.upto (s : _root_.Go.ChangeSpec) : _root_.Go.OpenSpec := { _root_.Go.OpenSpec.ofChange s with cond := some uptoSmall }

/-- 'laws.FnExactWordOf', WHERE WHAT IT READS IS OF BULK AT MOST 1048576: true; the input reads as it did. -/
def fnExactWordOfUptoRow : OpenClaim := { program := "ytfmlobnkpipenaa", sum := "77ef65cd8ea0b89638ada29cf6a5a0e8844cd9b31cbd33cc2cd86667719ba8b1", func := "loop.example/quadraticorbits/laws.FnExactWordOf", spec := "fnExactWordOf", inPlace := ["math.Float32bits"], apart := false, narrowed := true }
def FnExactWordOfUptoSaid : Prop := fnExactWordOfUptoRow.holds Try.pinned (OpenSpec.upto fnExactWordOfSpec)

/-- 'laws.FnExactWordRead', WHERE WHAT IT READS IS OF BULK AT MOST 1048576: true; the input reads as it did. -/
def fnExactWordReadUptoRow : OpenClaim := { program := "ytfmlobnkpipenaa", sum := "77ef65cd8ea0b89638ada29cf6a5a0e8844cd9b31cbd33cc2cd86667719ba8b1", func := "loop.example/quadraticorbits/laws.FnExactWordRead", spec := "fnExactWordRead", inPlace := ["math.Float32frombits", "internal/bytealg.IndexByteString"], apart := false, narrowed := true }
def FnExactWordReadUptoSaid : Prop := fnExactWordReadUptoRow.holds Try.pinned (OpenSpec.upto fnExactWordReadSpec)

/-- 'laws.FnExactAngleBits', WHERE WHAT IT READS IS OF BULK AT MOST 1048576: true; the input reads as it did. -/
def fnExactAngleBitsUptoRow : OpenClaim := { program := "ytfmlobnkpipenaa", sum := "77ef65cd8ea0b89638ada29cf6a5a0e8844cd9b31cbd33cc2cd86667719ba8b1", func := "loop.example/quadraticorbits/laws.FnExactAngleBits", spec := "fnExactAngleBits", inPlace := ["internal/abi.NoEscape"], unfollowed := true, recurses := true, apart := false, narrowed := true }
def FnExactAngleBitsUptoSaid : Prop := fnExactAngleBitsUptoRow.holds Try.pinned (OpenSpec.upto fnExactAngleBitsSpec)

/-- 'laws.FnExactAngleKneading', WHERE WHAT IT READS IS OF BULK AT MOST 1048576: true; the input reads as it did. -/
def fnExactAngleKneadingUptoRow : OpenClaim := { program := "ytfmlobnkpipenaa", sum := "77ef65cd8ea0b89638ada29cf6a5a0e8844cd9b31cbd33cc2cd86667719ba8b1", func := "loop.example/quadraticorbits/laws.FnExactAngleKneading", spec := "fnExactAngleKneading", inPlace := ["internal/abi.NoEscape"], unfollowed := true, recurses := true, apart := false, narrowed := true }
def FnExactAngleKneadingUptoSaid : Prop := fnExactAngleKneadingUptoRow.holds Try.pinned (OpenSpec.upto fnExactAngleKneadingSpec)

/-- 'laws.FnWord', WHERE WHAT IT READS IS OF BULK AT MOST 1048576: true; the input reads as it did. -/
def fnWordUptoRow : OpenClaim := { program := "ytfmlobnkpipenaa", sum := "77ef65cd8ea0b89638ada29cf6a5a0e8844cd9b31cbd33cc2cd86667719ba8b1", func := "loop.example/quadraticorbits/laws.FnWord", spec := "fnWord", inPlace := ["math.Float32bits", "internal/bytealg.IndexByteString", "math.Float32frombits"], apart := false, narrowed := true }
def FnWordUptoSaid : Prop := fnWordUptoRow.holds Try.pinned (OpenSpec.upto fnWordSpec)

/-- 'laws.FnExactPlanDepth', WHERE WHAT IT READS IS OF BULK AT MOST 1048576: true; the input reads as it did. -/
def fnExactPlanDepthUptoRow : OpenClaim := { program := "ytfmlobnkpipenaa", sum := "77ef65cd8ea0b89638ada29cf6a5a0e8844cd9b31cbd33cc2cd86667719ba8b1", func := "loop.example/quadraticorbits/laws.FnExactPlanDepth", spec := "fnExactPlanDepth", apart := false, narrowed := true }
def FnExactPlanDepthUptoSaid : Prop := fnExactPlanDepthUptoRow.holds Try.pinned (OpenSpec.upto fnExactPlanDepthSpec)

end Rows
end Go.Proofs.Ytfmlobnkpipenaa
