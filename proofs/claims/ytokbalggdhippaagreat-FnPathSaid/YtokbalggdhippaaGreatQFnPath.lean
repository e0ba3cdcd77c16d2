/- The statement FnPath: paths lead to parts. For every row of bytes the law returns true, whatever the schedule; no conditions. -/
import Derived.Test.YtokbalggdhippaaGreatQ52
import Derived.Test.YtokbalggdhippaaGreatQ53
namespace Go.Proofs.YtokbalggdhippaaGreat
theorem FnPath_holds : Rows.FnPathSaid := FnPath_of path_ok vals FnPath_walk
end Go.Proofs.YtokbalggdhippaaGreat
#print axioms Go.Proofs.YtokbalggdhippaaGreat.FnPath_holds
