/- Walks of strings.IndexByte. -/
import Derived.Test.YtcdkhacccbdmdaaRows
import Derived.Test.YtcdkhacccbdmdaaBase
import Derived.Lib.Bytealg
namespace Go.Proofs.Ytcdkhacccbdmdaa
open Go.RowKit

theorem IndexByteString_run (s : ByteArray) (c : Int) (w : World) : (callFunc 53 #[.string s, .int .u8 c]).run Try.prog w = .ok (.value (.int .i64 (Lib.indexByte s.data.toList c.toNat.toUInt8))) w := by
  rw [run_callFunc_extern Try.func53 (by kernel_rfl) (by kernel_rfl) (by kernel_rfl) (e := Extern.BytealgIndexByte.indexByte) (by kernel_rfl), Lib.run_indexByteString]
  rfl
set_option maxHeartbeats 400000 in
theorem IndexByte_any (s : ByteArray) (c : Int) (w : World) :
    Calls Try.prog 42 #[.string s, .int .u8 c] w fun e w' => e = .returned (.int .i64 (Lib.indexByte s.data.toList c.toNat.toUInt8)) ∧ w = w' := by
  have hx := IndexByteString_run s c
  generalize Lib.indexByte s.data.toList c.toNat.toUInt8 = r at *
  go_enter Try.func42, Try.ntmps42
  go_wp2
  go_ret
  exact ⟨rfl, rfl⟩
end Go.Proofs.Ytcdkhacccbdmdaa
