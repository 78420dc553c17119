/- The arguments of the drum's statements, opened. -/
import Derived.Test.YtnimghkkhiacfaaPW
import Derived.Test.YtnimghkkhiacfaaDCat
namespace Go.Proofs.Ytnimghkkhiacfaa.P
open Go.ChangeShapes Go.WideShapes Go.ChangeAt Go.RowKit Go.Deep Go.Proofs.YtnimghkkhiacfaaW.PrintWords
theorem opens_bytes : Opens Try.prog (Kd.slice 5 (Kd.int .u8)) 22 (fun xs => xs.length ≤ 140737488355328 ∧ ∀ x ∈ xs, (Lit.int .u8 x).wf = true) := opens_mono (opens_slice 5 Try.underlying22 (by kernel_rfl) (show Try.prog.bytesOf 5 = 1 by kernel_rfl) (opens_int Try.underlying5)) (fun _ h => ⟨by have := h.2.1; omega, h.2.2⟩)
theorem opens_byteses : Opens Try.prog (Kd.slice 22 kBs) 44 (fun l => l.length ≤ 140737488355328 ∧ ∀ xs ∈ l, xs.length ≤ 140737488355328 ∧ ∀ x ∈ xs, (Lit.int .u8 x).wf = true) := opens_mono (opens_slice 22 Try.underlying44 (by kernel_rfl) (show Try.prog.bytesOf 22 = 24 by kernel_rfl) opens_bytes) (fun _ h => ⟨by have := h.2.1; omega, h.2.2⟩)
end Go.Proofs.Ytnimghkkhiacfaa.P
