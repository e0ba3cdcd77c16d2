/- Walks of what the laws do with slices: sizes, copies, comparisons. -/
import Derived.Test.YtdfoobemgdiobaaDoorRows
import Derived.Test.YtdfoobemgdiobaaDoorSl
import Derived.Test.YtdfoobemgdiobaaDoorSame
namespace Go.Proofs.YtdfoobemgdiobaaDoor
open Go.RowKit
theorem run_store_float (P : Program) (w : World) (a : Addr) (m : Mode) (k : FloatKind) (b : Nat) : (store a (.float k b) m).run P w = stored P w a (.float k b) m := run_store P w a _ m rfl
theorem run_store_complex (P : Program) (w : World) (a : Addr) (m : Mode) (k : FloatKind) (x y : Nat) : (store a (.complex k x y) m).run P w = stored P w a (.complex k x y) m := run_store P w a _ m rfl
attribute [local go_sem] run_store_float run_store_complex
end Go.Proofs.YtdfoobemgdiobaaDoor
