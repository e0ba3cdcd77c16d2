/-
  No cell of these rows narrows 'for every input' (looked for: loops, veiled, ifaces, maps, wideKeys, modest, calm, conditions, laid).
  DERIVED. THE GIVEN ROWS OF THIS SEAT. 4 by the template 'for every input the law returns true; each argument reads behind the call as it read before'; 0 by the template 'total and deterministic' (their statements: YtcdkhacccbdmdaaTotals.lean).
  GIVEN WITH THE SEED: the statements are not yours to turn. If you find one false, say at which input.
  Laid BY PROGRAM, IN A SANDBOX (cutbox-rows.mjs): the forced cells as the released guide's own fill.sh prints them over the translation 5ccfa78e59791b72… (all of the seat's roots in one cut). By AI agents, Wed Nov 11 2026. No macro, syntax, notation, axiom, sorry.
-/
import Derived.Test.YtcdkhacccbdmdaaChecked
import GoSem.Claim
import GoSem.ClaimJoined
import GoSem.ClaimMapViews
import Derived.JoinedTies
import Derived.KernelRfl
namespace Go.Proofs.Ytcdkhacccbdmdaa
/- THE CELL 'sum', in the pinned program and in every row, IS THE sha256 OF THE DUMP (.gsa) THAT YtcdkhacccbdmdaaProg.lean LOADS. Nothing in Lean hashes anything: it is a label: what it is worth is what the hold of that sum in a sandbox is worth. -/
noncomputable def Try.pinned : Pinned := { name := "ytcdkhacccbdmdaa", sum := "5ccfa78e59791b726b36df6cd6b442d93488166bbee270e143270a9023224b34", checked := Try.checked }
namespace Rows
def none {H : Type} : Left H := { results := [], args := [] }

/-- 'laws.FnWordRead': WHATEVER THE INPUT: true; the input reads as it did. -/
def fnWordReadSpec : ChangeSpec := { name := "fnWordRead", fn := fun _ => fun
  | [d] => { results := [.lit (.bool true)], args := [d] }
  | _ => none }
def fnWordReadRow : OpenClaim := { program := "ytcdkhacccbdmdaa", sum := "5ccfa78e59791b726b36df6cd6b442d93488166bbee270e143270a9023224b34", func := "loop.example/quadraticorbits/laws.FnWordRead", spec := "fnWordRead", inPlace := ["math.Float32bits", "internal/bytealg.IndexByteString", "math.Float32frombits"], apart := false }
def FnWordReadSaid : Prop := fnWordReadRow.holds Try.pinned (OpenSpec.ofChange fnWordReadSpec)

/-- ITS FALSE NEIGHBOUR: 'it returns false'. Refute it at one input. -/
def fnWordReadWrong : ChangeSpec := { name := "fnWordRead", fn := fun _ => fun
  | [d] => { results := [.lit (.bool false)], args := [d] }
  | _ => none }
def FnWordReadWrongFalsely : Prop := fnWordReadRow.holds Try.pinned (OpenSpec.ofChange fnWordReadWrong)

/-- 'laws.FnExactPlanWhole': WHATEVER THE INPUT: true; the input reads as it did. -/
def fnExactPlanWholeSpec : ChangeSpec := { name := "fnExactPlanWhole", fn := fun _ => fun
  | [d] => { results := [.lit (.bool true)], args := [d] }
  | _ => none }
def fnExactPlanWholeRow : OpenClaim := { program := "ytcdkhacccbdmdaa", sum := "5ccfa78e59791b726b36df6cd6b442d93488166bbee270e143270a9023224b34", func := "loop.example/quadraticorbits/laws.FnExactPlanWhole", spec := "fnExactPlanWhole", recurses := true, apart := false }
def FnExactPlanWholeSaid : Prop := fnExactPlanWholeRow.holds Try.pinned (OpenSpec.ofChange fnExactPlanWholeSpec)

/-- ITS FALSE NEIGHBOUR: 'it returns false'. Refute it at one input. -/
def fnExactPlanWholeWrong : ChangeSpec := { name := "fnExactPlanWhole", fn := fun _ => fun
  | [d] => { results := [.lit (.bool false)], args := [d] }
  | _ => none }
def FnExactPlanWholeWrongFalsely : Prop := fnExactPlanWholeRow.holds Try.pinned (OpenSpec.ofChange fnExactPlanWholeWrong)

/-- 'laws.FnDepth': WHATEVER THE INPUT: true; the input reads as it did. -/
def fnDepthSpec : ChangeSpec := { name := "fnDepth", fn := fun _ => fun
  | [d] => { results := [.lit (.bool true)], args := [d] }
  | _ => none }
def fnDepthRow : OpenClaim := { program := "ytcdkhacccbdmdaa", sum := "5ccfa78e59791b726b36df6cd6b442d93488166bbee270e143270a9023224b34", func := "loop.example/quadraticorbits/laws.FnDepth", spec := "fnDepth", apart := false }
def FnDepthSaid : Prop := fnDepthRow.holds Try.pinned (OpenSpec.ofChange fnDepthSpec)

/-- ITS FALSE NEIGHBOUR: 'it returns false'. Refute it at one input. -/
def fnDepthWrong : ChangeSpec := { name := "fnDepth", fn := fun _ => fun
  | [d] => { results := [.lit (.bool false)], args := [d] }
  | _ => none }
def FnDepthWrongFalsely : Prop := fnDepthRow.holds Try.pinned (OpenSpec.ofChange fnDepthWrong)

/-- 'laws.FnWhole': WHATEVER THE INPUT: true; the input reads as it did. -/
def fnWholeSpec : ChangeSpec := { name := "fnWhole", fn := fun _ => fun
  | [d] => { results := [.lit (.bool true)], args := [d] }
  | _ => none }
def fnWholeRow : OpenClaim := { program := "ytcdkhacccbdmdaa", sum := "5ccfa78e59791b726b36df6cd6b442d93488166bbee270e143270a9023224b34", func := "loop.example/quadraticorbits/laws.FnWhole", spec := "fnWhole", recurses := true, apart := false }
def FnWholeSaid : Prop := fnWholeRow.holds Try.pinned (OpenSpec.ofChange fnWholeSpec)

/-- ITS FALSE NEIGHBOUR: 'it returns false'. Refute it at one input. -/
def fnWholeWrong : ChangeSpec := { name := "fnWhole", fn := fun _ => fun
  | [d] => { results := [.lit (.bool false)], args := [d] }
  | _ => none }
def FnWholeWrongFalsely : Prop := fnWholeRow.holds Try.pinned (OpenSpec.ofChange fnWholeWrong)

/- THE SECOND FORM. 'bulk': how many values and letters a reading holds, each counted each time it is reached (what is shared counts as often as it is met; a slice's spare places count too). A statement '..UptoSaid' is the law's where the arguments, and the package variables that the reading takes, are together of bulk at most 1048576: NARROWER than '..Said'. Prove '..Said' where nothing that the law and all that it calls make is longer than what came in: it says more and counts as full. Else prove '..UptoSaid'. A law counts once. -/
mutual
def uptoBulk {H : Type} : DataW H → Nat
  | .lit (.string bytes) => bytes.length + 1
  | .lit _ => 1
  | .nil => 1
  | .ptr d => uptoBulk d + 1
  | .slice elems spare => uptoBulkAll elems + uptoBulkAll spare + 1
  | .agg parts => uptoBulkAll parts + 1
  | .iface _ d => uptoBulk d + 1
  | .map entries => uptoBulkEntries entries + 1
  | .held _ => 1
def uptoBulkAll {H : Type} : List (DataW H) → Nat
  | [] => 0
  | d :: r => uptoBulk d + uptoBulkAll r
def uptoBulkEntries {H : Type} : List (Lit × DataW H) → Nat
  | [] => 0
  | x :: r => uptoBulkEntry x + uptoBulkEntries r
def uptoBulkEntry {H : Type} : Lit × DataW H → Nat
  | (.string bytes, d) => bytes.length + uptoBulk d + 1
  | (_, d) => uptoBulk d + 1
 end
def uptoSmall : (H : Type) → List (DataW H) → Bool := fun _ ds => decide (uptoBulkAll ds ≤ 1048576)
def OpenSpec.upto (s : _root_.Go.ChangeSpec) : _root_.Go.OpenSpec := { _root_.Go.OpenSpec.ofChange s with cond := some uptoSmall }

/-- 'laws.FnWordRead', WHERE WHAT IT READS IS OF BULK AT MOST 1048576: true; the input reads as it did. -/
def fnWordReadUptoRow : OpenClaim := { program := "ytcdkhacccbdmdaa", sum := "5ccfa78e59791b726b36df6cd6b442d93488166bbee270e143270a9023224b34", func := "loop.example/quadraticorbits/laws.FnWordRead", spec := "fnWordRead", inPlace := ["math.Float32bits", "internal/bytealg.IndexByteString", "math.Float32frombits"], apart := false, narrowed := true }
def FnWordReadUptoSaid : Prop := fnWordReadUptoRow.holds Try.pinned (OpenSpec.upto fnWordReadSpec)

/-- 'laws.FnExactPlanWhole', WHERE WHAT IT READS IS OF BULK AT MOST 1048576: true; the input reads as it did. -/
def fnExactPlanWholeUptoRow : OpenClaim := { program := "ytcdkhacccbdmdaa", sum := "5ccfa78e59791b726b36df6cd6b442d93488166bbee270e143270a9023224b34", func := "loop.example/quadraticorbits/laws.FnExactPlanWhole", spec := "fnExactPlanWhole", recurses := true, apart := false, narrowed := true }
def FnExactPlanWholeUptoSaid : Prop := fnExactPlanWholeUptoRow.holds Try.pinned (OpenSpec.upto fnExactPlanWholeSpec)

/-- 'laws.FnDepth', WHERE WHAT IT READS IS OF BULK AT MOST 1048576: true; the input reads as it did. -/
def fnDepthUptoRow : OpenClaim := { program := "ytcdkhacccbdmdaa", sum := "5ccfa78e59791b726b36df6cd6b442d93488166bbee270e143270a9023224b34", func := "loop.example/quadraticorbits/laws.FnDepth", spec := "fnDepth", apart := false, narrowed := true }
def FnDepthUptoSaid : Prop := fnDepthUptoRow.holds Try.pinned (OpenSpec.upto fnDepthSpec)

/-- 'laws.FnWhole', WHERE WHAT IT READS IS OF BULK AT MOST 1048576: true; the input reads as it did. -/
def fnWholeUptoRow : OpenClaim := { program := "ytcdkhacccbdmdaa", sum := "5ccfa78e59791b726b36df6cd6b442d93488166bbee270e143270a9023224b34", func := "loop.example/quadraticorbits/laws.FnWhole", spec := "fnWhole", recurses := true, apart := false, narrowed := true }
def FnWholeUptoSaid : Prop := fnWholeUptoRow.holds Try.pinned (OpenSpec.upto fnWholeSpec)

end Rows
end Go.Proofs.Ytcdkhacccbdmdaa
