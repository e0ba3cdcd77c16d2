/- The statement FnTileSplit: refining never turns a closed answer. For every row of bytes the law returns true, whatever the schedule; no conditions. -/
import Derived.Test.YtokbalggdhippaaGreatR50
import Derived.Test.YtokbalggdhippaaGreatR51
namespace Go.Proofs.YtokbalggdhippaaGreat
theorem FnTileSplit_holds:Rows.FnTileSplitSaid:=FnTileSplit_of tsp_ok vals FnTileSplit_walk
end Go.Proofs.YtokbalggdhippaaGreat
#print axioms Go.Proofs.YtokbalggdhippaaGreat.FnTileSplit_holds
