/- The keys of the seat's maps. -/
import Derived.Test.YtoeockpkkmgieaaF2
import Derived.Test.YtoeockpkkmgieaaSx14
namespace Go.Proofs.Ytoeockpkkmgieaa
open Go Go.Sx
theorem key3 : KeyS Try.prog 3 (fun a : Int => .int .i64 a) := keyI Try.underlying3
theorem key9 : KeyS Try.prog 9 (fun a : ByteArray => .string a) := keyStr Try.underlying9
theorem key130 : KeyS Try.prog 130 encP := keyP (by kernel_rfl) (by kernel_rfl) (fun _ _ _ _ => by kernel_rfl)
theorem key105 : KeyS Try.prog 105 encP := keyP (by kernel_rfl) (by kernel_rfl) (fun _ _ _ _ => by kernel_rfl)
end Go.Proofs.Ytoeockpkkmgieaa
