/- The arguments of the tallies' statements, opened. -/
import Derived.Test.YtmljpidhhiineaaPO
import Derived.Test.YtmljpidhhiineaaPSet
namespace Go.Proofs.Ytmljpidhhiineaa.P
open Go.ChangeShapes Go.WideShapes Go.ChangeAt Go.RowKit Go.Deep Go.Proofs.YtmljpidhhiineaaW.PrintWords
theorem opens_ints : Opens Try.prog (Kd.slice 3 (Kd.int .i64)) 23 (fun xs => xs.length ≤ 9223372036854775807 ∧ ∀ x ∈ xs, wfI x) := opens_slice 3 Try.underlying23 (by kernel_rfl) (opens_int Try.underlying3)
theorem opens_span : Opens Try.prog k38 38 (fun _ => True) := opens_mono (opens_iso (g := fun x => (⟨x.1, x.2⟩ : S38)) (fun _ => rfl) (opens_struct Try.underlying38 (by kernel_rfl)
  (opensF_cons rfl (by kernel_rfl) (opens_str Try.underlying9) (opensF_one rfl (by kernel_rfl) (opens_str Try.underlying9))))) (fun _ _ => trivial)
theorem opens_shard : Opens Try.prog k40 40 (fun s => s.f1.length ≤ 9223372036854775807) := opens_mono (opens_iso (g := fun x => (⟨x.1, x.2⟩ : S40)) (fun _ => rfl) (opens_struct Try.underlying40 (by kernel_rfl)
  (opensF_cons rfl (by kernel_rfl) opens_span (opensF_one rfl (by kernel_rfl) opens_ints)))) (fun _ h => h.2.1)
theorem opens_shards : Opens Try.prog (Kd.slice 40 k40) 22 (fun l => l.length ≤ 9223372036854775807 ∧ ∀ s ∈ l, s.f1.length ≤ 9223372036854775807) := opens_slice 40 Try.underlying22 (by kernel_rfl) opens_shard
end Go.Proofs.Ytmljpidhhiineaa.P
