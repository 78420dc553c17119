/- The arguments of the net's laws, opened. -/
import Derived.Test.YtmanpicmbeeceaaRows
import Derived.Test.YtmanpicmbeeceaaBaseO
namespace Go.Proofs.Ytmanpicmbeeceaa
theorem opens_bytes : Opens Try.prog (Kd.slice Kd.byte) 34 := opens_slice Try.underlying34 (by kernel_rfl) (by kernel_rfl) (opens_byte Try.underlying5)
theorem opens_byteses : Opens Try.prog (Kd.slice (Kd.slice Kd.byte)) 31 := opens_slice Try.underlying31 (by kernel_rfl) (by kernel_rfl) opens_bytes
end Go.Proofs.Ytmanpicmbeeceaa
