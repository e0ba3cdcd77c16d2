/- The statement FnPlan: a greater budget never turns an answer. For every row of bytes the law returns true, whatever the schedule; no conditions. -/
import Derived.Test.YtlfleicchbgcmaaGreatZr25
import Derived.Test.YtlfleicchbgcmaaGreatZr26
import Derived.Test.YtlfleicchbgcmaaGreatZr18
namespace Go.Proofs.YtlfleicchbgcmaaGreat
theorem FnPlan_holds : Rows.FnPlanSaid := A8d Aie Aow A0w
end Go.Proofs.YtlfleicchbgcmaaGreat
#print axioms Go.Proofs.YtlfleicchbgcmaaGreat.FnPlan_holds
