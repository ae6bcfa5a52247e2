/- The sizes of words and ints in this seat's program. -/
import Derived.Test.YtgjpohhafmkhcaaProg
import Derived.Test.YtgjpohhafmkhcaaOps
namespace Go.Proofs.Ytgjpohhafmkhcaa

theorem one_u64 : (Try.prog.info? 29).map (·.size) = some 1 := by kernel_rfl
theorem info_u64 : (Try.prog.info? 29).map (fun i => (i.zero, i.size, i.bytes)) = some (some (.int .u64 0), 1, 8) := by kernel_rfl
theorem one_int : (Try.prog.info? 3).map (·.size) = some 1 := by kernel_rfl
theorem info_int : (Try.prog.info? 3).map (fun i => (i.zero, i.size, i.bytes)) = some (some (.int .i64 0), 1, 8) := by kernel_rfl
end Go.Proofs.Ytgjpohhafmkhcaa
