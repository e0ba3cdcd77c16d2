/- The statement FnPlanTiles: plans tell their tiles. For every row of bytes the law returns true, whatever the schedule; no conditions. -/
import Derived.Test.YtlfleicchbgcmaaGreatZq26
import Derived.Test.YtlfleicchbgcmaaGreatZq20
namespace Go.Proofs.YtlfleicchbgcmaaGreat
theorem FnPlanTiles_holds : Rows.FnPlanTilesSaid := R6 Af1 Ahz Oc
end Go.Proofs.YtlfleicchbgcmaaGreat
#print axioms Go.Proofs.YtlfleicchbgcmaaGreat.FnPlanTiles_holds
