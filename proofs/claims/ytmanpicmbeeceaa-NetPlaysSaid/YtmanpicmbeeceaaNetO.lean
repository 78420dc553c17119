/- The arguments of the net's laws, opened. -/
import Derived.Test.YtmanpicmbeeceaaRows
import Derived.Test.YtmanpicmbeeceaaBaseO
import Derived.Test.YtmanpicmbeeceaaNetS
namespace Go.Proofs.Ytmanpicmbeeceaa
theorem opens_bytes : Opens Try.prog (Kd.slice Kd.byte) 34 := opens_slice Try.underlying34 (by kernel_rfl) (by kernel_rfl) (opens_byte Try.underlying5)
theorem opens_byteses : Opens Try.prog (Kd.slice (Kd.slice Kd.byte)) 31 := opens_slice Try.underlying31 (by kernel_rfl) (by kernel_rfl) opens_bytes
theorem opens_act : Opens Try.prog kAct 33 := opens_iso (opens_struct Try.underlying33 (by kernel_rfl)
  (opensF_cons rfl (by kernel_rfl) (opens_int Try.underlying3)
    (opensF_cons rfl (by kernel_rfl) opens_byteses
      (opensF_cons rfl (by kernel_rfl) (opens_int Try.underlying3)
        (opensF_cons rfl (by kernel_rfl) (opens_int Try.underlying3)
          (opensF_one rfl (by kernel_rfl) (opens_byte Try.underlying5)))))))
theorem opens_acts : Opens Try.prog (Kd.slice kAct) 22 := opens_slice Try.underlying22 (by kernel_rfl) (by kernel_rfl) opens_act
end Go.Proofs.Ytmanpicmbeeceaa
