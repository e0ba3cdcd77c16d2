/- What the rows' lists of laid tables give, and a world for their witness. -/
import Derived.Test.YteegdpnidakjiaaDoorCards
import Derived.Test.YteegdpnidakjiaaDoorTie
import Derived.Test.YteegdpnidakjiaaDoorLaw
import Derived.Test.YteegdpnidakjiaaDoorAngO
import Derived.OpenShut
import Derived.Deep.DeepHandedRow
import Derived.Lib.LaidTab
import Derived.LaidSub
namespace Go.Proofs.YteegdpnidakjiaaDoor
open Go.ChangeShapes Go.WideShapes Go.ChangeAt Go.RowKit

theorem gTab : Tryd.prog.globalNamed "math/bits.deBruijn64tab" = some 2 := by kernel_rfl
theorem gTabType : (Tryd.prog.globals[2]?).map (·.type) = some 105 := by kernel_rfl
theorem gTab32 : Tryd.prog.globalNamed "math/bits.deBruijn32tab" = some 1 := by kernel_rfl
theorem cellsTab : Tryd.prog.cellsOf 105 = 64 := by kernel_rfl
theorem cellsU8 : Tryd.prog.cellsOf 5 = 1 := by kernel_rfl
def tabZ : List Int := Lib.deBruijn64tab.map fun n : Nat => (n : Int)
def tabZ32 : List Int := Lib.deBruijn32tab.map fun n : Nat => (n : Int)
/-- WHAT THE ROWS' LISTS GIVE -/
theorem tab_of {W : World} (h : laidMetH Tryd.prog [("math/bits.deBruijn32tab", Rows.laid_math_bits_deBruijn32tab), ("math/bits.deBruijn64tab", Rows.laid_math_bits_deBruijn64tab)] W) : Tab W := by
  have h2 := h.filter (fun x => x.1 == "math/bits.deBruijn64tab")
  rw [show ([("math/bits.deBruijn32tab", (Rows.laid_math_bits_deBruijn32tab : DataW Unit)), ("math/bits.deBruijn64tab", Rows.laid_math_bits_deBruijn64tab)].filter fun x => x.1 == "math/bits.deBruijn64tab") = [("math/bits.deBruijn64tab", Lib.tabData .u8 tabZ)] from by kernel_rfl] at h2
  have h3 := Lib.tabIs_of_head (rest := []) gTab gTabType Tryd.underlying105 Tryd.underlying5 cellsU8 cellsTab h2
  intro j hj
  have h4 := h3.cell gTab j (by simpa [tabZ] using hj)
  rw [h4]
  congr 2
  unfold tabZ
  rw [List.getD_eq_getElem?_getD, List.getD_eq_getElem?_getD, List.getElem?_map]
  cases Lib.deBruijn64tab[j]? <;> rfl
/-- a table put into its variable; A WORLD FOR THE WITNESS: the settled one, the tables holding what their initialisers lay. -/
def putTab (cs : Array Value) : Obj → Obj
  | .cells _ t frozen => .cells cs t frozen
  | o => o
noncomputable def laidWorld (os : Os) : World :=
  { World.holding Tryd.prog os ⟨#[], #[], []⟩ with heap := ((World.holding Tryd.prog os ⟨#[], #[], []⟩).heap.modify 1 (putTab (tabZ32.map (Value.int .u8)).toArray)).modify 2 (putTab (tabZ.map (Value.int .u8)).toArray) }
theorem laid_met (os : Os) : laidMet Tryd.prog [("math/bits.deBruijn32tab", Rows.laid_math_bits_deBruijn32tab), ("math/bits.deBruijn64tab", Rows.laid_math_bits_deBruijn64tab)] ((laidWorld os).forCall (fun _ _ => 0) ⟨#[], #[.slice none 0 0], []⟩).memory :=
  laidMet_of_run' 8 (by kernel_rfl) (by kernel_rfl)
end Go.Proofs.YteegdpnidakjiaaDoor
