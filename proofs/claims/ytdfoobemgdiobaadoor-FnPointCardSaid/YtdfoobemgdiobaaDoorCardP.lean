/- What a row's list of one laid table gives, and a world for its witness. -/
import Derived.Test.YtdfoobemgdiobaaDoorCards
import Derived.Test.YtdfoobemgdiobaaDoorTie
import Derived.Test.YtdfoobemgdiobaaDoorLaw
import Derived.Test.YtdfoobemgdiobaaDoorTzB
import Derived.OpenShut
import Derived.Deep.DeepHandedRow
import Derived.Lib.LaidTab
import Derived.LaidSub
namespace Go.Proofs.YtdfoobemgdiobaaDoor
open Go.ChangeShapes Go.WideShapes Go.ChangeAt Go.RowKit

theorem gTab : Tryd.prog.globalNamed "math/bits.deBruijn64tab" = some 1 := by kernel_rfl
theorem gTabType : (Tryd.prog.globals[1]?).map (·.type) = some 103 := by kernel_rfl
theorem cellsTab : Tryd.prog.cellsOf 103 = 64 := by kernel_rfl
theorem cellsU8 : Tryd.prog.cellsOf 5 = 1 := by kernel_rfl
def tabZ : List Int := Lib.deBruijn64tab.map fun n : Nat => (n : Int)
theorem tab_of1 {W : World} (h : laidMetH Tryd.prog [("math/bits.deBruijn64tab", Rows.laid_math_bits_deBruijn64tab)] W) : Tab W := by
  have h2 := h
  rw [show [("math/bits.deBruijn64tab", (Rows.laid_math_bits_deBruijn64tab : DataW Unit))] = [("math/bits.deBruijn64tab", Lib.tabData .u8 tabZ)] from by kernel_rfl] at h2
  have h3 := Lib.tabIs_of_head (rest := []) gTab gTabType Tryd.underlying103 Tryd.underlying5 cellsU8 cellsTab h2
  intro j hj
  have h4 := h3.cell gTab j (by simpa [tabZ] using hj)
  rw [h4]
  congr 2
  unfold tabZ
  rw [List.getD_eq_getElem?_getD, List.getD_eq_getElem?_getD, List.getElem?_map]
  cases Lib.deBruijn64tab[j]? <;> rfl
def putTab (cs : Array Value) : Obj → Obj
  | .cells _ t frozen => .cells cs t frozen
  | o => o
noncomputable def laidWorldP (os : Os) : World :=
  { World.holding Tryd.prog os ⟨#[], #[], []⟩ with heap := (World.holding Tryd.prog os ⟨#[], #[], []⟩).heap.modify 1 (putTab (tabZ.map (Value.int .u8)).toArray) }
theorem laid_metP (os : Os) : laidMet Tryd.prog [("math/bits.deBruijn64tab", Rows.laid_math_bits_deBruijn64tab)] ((laidWorldP os).forCall (fun _ _ => 0) ⟨#[], #[.slice none 0 0], []⟩).memory :=
  laidMet_of_run' 8 (by kernel_rfl) (by kernel_rfl)
end Go.Proofs.YtdfoobemgdiobaaDoor
