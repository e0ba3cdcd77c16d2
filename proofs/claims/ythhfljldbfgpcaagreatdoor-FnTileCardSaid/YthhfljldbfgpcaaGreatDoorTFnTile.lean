/- The card FnTile: a cell is drawn as in or out only where the exact enclosure agrees. For every row of bytes the law returns true, whatever the schedule. -/
import Derived.Test.YthhfljldbfgpcaaGreatDoorT50
import Derived.Test.YthhfljldbfgpcaaGreatDoorT51
namespace Go.Proofs.YthhfljldbfgpcaaGreatDoor
open Go.ChangeShapes Go.WideShapes Go.ChangeAt Go.RowKit Go.Conc Go.Proofs.YthhfljldbfgpcaaGreatDoor.Ok
theorem ftBoolUp:∀ n l,mvP Vp.prog 4 n l :=
 mvP_one (by kernel_rfl) (by kernel_rfl) (fun d off => by unfold byteOfCell; rw [Vp.und Tryz.underlying4]) (fun d off => by unfold cellOfByte; rw [Vp.und Tryz.underlying4])
theorem ftGlobUp (w:World) (h:w.ShapedOpen Tryz.prog):GlobUpG 1 w:=by
 intro b C t fr hg hb hw n l
 have hn:Vp.prog.globals.size=2:=by kernel_rfl
 have hnW:Tryz.prog.globals.size=2:=by kernel_rfl
 obtain rfl:b=0:=by omega
 obtain ⟨cs,h1,-,-⟩:=h.1 0 #[.bool false] 4 (by omega) (by kernel_rfl)
 rw [h1] at hw
 injection hw with hw
 injection hw with _ hw
 subst hw
 exact ftBoolUp n l
theorem FnTile_holds:Rows.FnTileCardSaid:=FnTile_card (FnTile_of ftl_ok vals ftGlobUp FnTile_walk)
end Go.Proofs.YthhfljldbfgpcaaGreatDoor
#print axioms Go.Proofs.YthhfljldbfgpcaaGreatDoor.FnTile_holds
