/- what the claim's row stands on, part 10. -/
import Derived.Test.YtgmlenpcchhmbaaGreatZs9
import Derived.Test.YtgmlenpcchhmbaaGreatZs3
import Derived.Test.YtgmlenpcchhmbaaGreatZs4
import Derived.Test.YtgmlenpcchhmbaaGreatZs5
import Derived.Test.YtgmlenpcchhmbaaGreatZs2
section
set_option linter.unusedVariables false
set_option linter.unusedSimpArgs false
namespace Go.Proofs.YtgmlenpcchhmbaaGreat.P
open Go.RowKit Go.Proofs.YtgmlenpcchhmbaaGreatW.PrintWords Go.Proofs.YtgmlenpcchhmbaaGreatW.PrintLast Go.Proofs.YtgmlenpcchhmbaaGreatW.PrintMore
def opOk (o : S63) : Prop := o.f1.size ≤ 1000000 ∧ o.f2.size ≤ 1000000
structure StFit (s : St) (n : Nat) : Prop where
  ok : s.ok
  dl : s.d.length ≤ n
  cl : s.c.length ≤ n
  dk : keySizes s.d
  ck : keySizes s.c
theorem putL_le {V : Type} {l : List (ByteArray × V)} (h : SortK l) (k : ByteArray) (v : V) : (putL l k v).length ≤ l.length + 1 := by
  rw [putL_len h]; split <;> omega
theorem delL_le {V : Type} (l : List (ByteArray × V)) (k : ByteArray) : (delL l k).length ≤ l.length := List.length_filter_le _ _
theorem keySizes_put {V : Type} {l : List (ByteArray × V)} (h : keySizes l) {k : ByteArray} (hk : k.size ≤ 1000000) (v : V) : keySizes (putL l k v) := fun x hx => by
  rcases mem_putL hx with rfl | hx
  · exact hk
  · exact h x hx
theorem StFit.put {s : St} {n : Nat} (h : StFit s n) {k : ByteArray} (hk : k.size ≤ 1000000) (v : Int) : StFit (s.put k v) (n + 1) :=
  ⟨St.ok_put h.ok k v, Nat.le_trans (putL_le h.ok.1 k v) (Nat.succ_le_succ h.dl), Nat.le_trans (putL_le h.ok.2.1 k true) (Nat.succ_le_succ h.cl), keySizes_put h.dk hk v, keySizes_put h.ck hk true⟩
theorem StFit.drop {s : St} {n : Nat} (h : StFit s n) {k : ByteArray} (hk : k.size ≤ 1000000) : StFit (s.drop k) (n + 1) :=
  ⟨St.ok_drop h.ok k, Nat.le_trans (delL_le s.d k) (Nat.le_succ_of_le h.dl), Nat.le_trans (putL_le h.ok.2.1 k true) (Nat.succ_le_succ h.cl), fun x hx => h.dk x (List.mem_filter.1 hx).1, keySizes_put h.ck hk true⟩
theorem StFit.mono {s : St} {n m : Nat} (h : StFit s n) (hm : n ≤ m) : StFit s m := ⟨h.ok, Nat.le_trans h.dl hm, Nat.le_trans h.cl hm, h.dk, h.ck⟩
theorem StFit.step {s : St} {n : Nat} (h : StFit s n) {o : S63} (ho : opOk o) : StFit (stepS o s) (n + 2) := by
  unfold stepS
  repeat' split
  all_goals first
    | exact h.mono (by omega)
    | exact ((h.put ho.1 _).put ho.2 _)
    | exact (h.put ho.1 _).mono (by omega)
    | exact (h.drop ho.1).mono (by omega)
theorem StFit.small {s : St} {n : Nat} (h : StFit s n) (hn : n ≤ 1000100) : s.small := ⟨by have := h.dl; omega, by have := h.cl; omega⟩
section
variable {w : World} {g mb cb : Nat} {s : St}
set_option maxHeartbeats 1000000 in
set_option maxRecDepth 100000 in
theorem do_get (h : RunIs w g mb cb s) (o : S63) (hk : o.f0 = 1) {a : S65} {s' : St} (hc : ∀ W, RunIs W g mb cb s → Calls Tryz.prog 109 #[ptrR g, opV o] W (StepOut W g mb cb a s')) : Calls Tryz.prog 67 #[ptrR g, opV o] w (StepOut w g mb cb a s') := by
  have hX := boxed h o
  obtain ⟨W, hW⟩ : ∃ W, ((w.alloc (.cells #[.int .i64 o.f0, .string o.f1, .string o.f2, .int .u64 o.f3] 63)).alloc (.cells #[.bool false, .int .u64 0, .slice none 0 0] 65)) = W := ⟨_, rfl⟩
  rw [hW] at hX
  have hlt := hX.lt h
  have hcc := hc W hX.run
  obtain ⟨x0, x1, x2, x3⟩ := o
  simp only at hk
  subst hk
  have k0 : W.cell? ⟨w.heap.size, 0, none⟩ = some (.int .i64 1) := hX.op.cell 0
  have k1 : W.cell? ⟨w.heap.size, 1, none⟩ = some (.string x1) := hX.op.cell 1
  have k2 : W.cell? ⟨w.heap.size, 2, none⟩ = some (.string x2) := hX.op.cell 2
  have k3 : W.cell? ⟨w.heap.size, 3, none⟩ = some (.int .u64 x3) := hX.op.cell 3
  have HC := Lib.hid hcc
  have HX := Lib.hid (And.intro hX (And.intro hlt (show w.heap.size + 1 < W.heap.size from hX.ans.lt))); clear h hX hlt hc hcc
  go_enter Tryz.func67, Tryz.ntmps67
  go_wp2_with fail
  refine HC.out.mono ?_
  rintro e w3 ⟨vs, rfl, hv, hr, hu⟩
  have HX3 := Lib.hid (And.intro (HX.out.1.put HX.out.2.1 hr hu) HX.out.2.1)
  have HV := Lib.hid (Kd.R_lower (Kd.R_mono (Kd.R_bound hv) (fun q hq => show q ≠ w.heap.size + 1 by have := hq.2.1; have := HX.out.2.2; omega)) (show w.heap.size ≤ W.heap.size by have := HX.out.2.2; omega))
  obtain ⟨A3, c3, rfl⟩ := Kd.R_slice hv
  clear hv hr hu hW k0 k1 k2 k3 HX HC
  have a0 : w3.cell? ⟨w.heap.size + 1, 0, none⟩ = some (.bool false) := HX3.out.1.ans.cell 0
  have a1 : w3.cell? ⟨w.heap.size + 1, 1, none⟩ = some (.int .u64 0) := HX3.out.1.ans.cell 1
  have a2 : w3.cell? ⟨w.heap.size + 1, 2, none⟩ = some (.slice none 0 0) := HX3.out.1.ans.cell 2
  have z0 := HX3.out.1.ans.frozen 0
  have z1 := HX3.out.1.ans.frozen 1
  have z2 := HX3.out.1.ans.frozen 2
  go_wp2
  refine bodyPost_ret (results_cell_row (by rfl) _ _ (w.heap.size + 1) 65 #[.bool a.f0, .int .u64 a.f1, .slice A3 a.f2.length c3] (0, 0) _ (by rfl) HX3.out.1.fin Tryz.underlying65 (by rfl) (by kernel_rfl)) rfl ?_
  exact HX3.out.1.out HX3.out.2 HV.out
set_option maxHeartbeats 1000000 in
set_option maxRecDepth 100000 in
theorem do_scan (h : RunIs w g mb cb s) (o : S63) (hk : o.f0 = 2) {a : S65} {s' : St} (hc : ∀ W, RunIs W g mb cb s → Calls Tryz.prog 110 #[ptrR g, opV o] W (StepOut W g mb cb a s')) : Calls Tryz.prog 67 #[ptrR g, opV o] w (StepOut w g mb cb a s') := by
  have hX := boxed h o
  obtain ⟨W, hW⟩ : ∃ W, ((w.alloc (.cells #[.int .i64 o.f0, .string o.f1, .string o.f2, .int .u64 o.f3] 63)).alloc (.cells #[.bool false, .int .u64 0, .slice none 0 0] 65)) = W := ⟨_, rfl⟩
  rw [hW] at hX
  have hlt := hX.lt h
  have hcc := hc W hX.run
  obtain ⟨x0, x1, x2, x3⟩ := o
  simp only at hk
  subst hk
  have k0 : W.cell? ⟨w.heap.size, 0, none⟩ = some (.int .i64 2) := hX.op.cell 0
  have k1 : W.cell? ⟨w.heap.size, 1, none⟩ = some (.string x1) := hX.op.cell 1
  have k2 : W.cell? ⟨w.heap.size, 2, none⟩ = some (.string x2) := hX.op.cell 2
  have k3 : W.cell? ⟨w.heap.size, 3, none⟩ = some (.int .u64 x3) := hX.op.cell 3
  have HC := Lib.hid hcc
  have HX := Lib.hid (And.intro hX (And.intro hlt (show w.heap.size + 1 < W.heap.size from hX.ans.lt))); clear h hX hlt hc hcc
  go_enter Tryz.func67, Tryz.ntmps67
  go_wp2_with fail
  refine HC.out.mono ?_
  rintro e w3 ⟨vs, rfl, hv, hr, hu⟩
  have HX3 := Lib.hid (And.intro (HX.out.1.put HX.out.2.1 hr hu) HX.out.2.1)
  have HV := Lib.hid (Kd.R_lower (Kd.R_mono (Kd.R_bound hv) (fun q hq => show q ≠ w.heap.size + 1 by have := hq.2.1; have := HX.out.2.2; omega)) (show w.heap.size ≤ W.heap.size by have := HX.out.2.2; omega))
  obtain ⟨A3, c3, rfl⟩ := Kd.R_slice hv
  clear hv hr hu hW k0 k1 k2 k3 HX HC
  have a0 : w3.cell? ⟨w.heap.size + 1, 0, none⟩ = some (.bool false) := HX3.out.1.ans.cell 0
  have a1 : w3.cell? ⟨w.heap.size + 1, 1, none⟩ = some (.int .u64 0) := HX3.out.1.ans.cell 1
  have a2 : w3.cell? ⟨w.heap.size + 1, 2, none⟩ = some (.slice none 0 0) := HX3.out.1.ans.cell 2
  have z0 := HX3.out.1.ans.frozen 0
  have z1 := HX3.out.1.ans.frozen 1
  have z2 := HX3.out.1.ans.frozen 2
  go_wp2
  refine bodyPost_ret (results_cell_row (by rfl) _ _ (w.heap.size + 1) 65 #[.bool a.f0, .int .u64 a.f1, .slice A3 a.f2.length c3] (0, 0) _ (by rfl) HX3.out.1.fin Tryz.underlying65 (by rfl) (by kernel_rfl)) rfl ?_
  exact HX3.out.1.out HX3.out.2 HV.out
set_option maxHeartbeats 1000000 in
set_option maxRecDepth 100000 in
theorem do_set (h : RunIs w g mb cb s) (o : S63) (hk : o.f0 = 3) {a : S65} {s' : St} (hc : ∀ W, RunIs W g mb cb s → Calls Tryz.prog 111 #[ptrR g, opV o] W (StepOut W g mb cb a s')) : Calls Tryz.prog 67 #[ptrR g, opV o] w (StepOut w g mb cb a s') := by
  have hX := boxed h o
  obtain ⟨W, hW⟩ : ∃ W, ((w.alloc (.cells #[.int .i64 o.f0, .string o.f1, .string o.f2, .int .u64 o.f3] 63)).alloc (.cells #[.bool false, .int .u64 0, .slice none 0 0] 65)) = W := ⟨_, rfl⟩
  rw [hW] at hX
  have hlt := hX.lt h
  have hcc := hc W hX.run
  obtain ⟨x0, x1, x2, x3⟩ := o
  simp only at hk
  subst hk
  have k0 : W.cell? ⟨w.heap.size, 0, none⟩ = some (.int .i64 3) := hX.op.cell 0
  have k1 : W.cell? ⟨w.heap.size, 1, none⟩ = some (.string x1) := hX.op.cell 1
  have k2 : W.cell? ⟨w.heap.size, 2, none⟩ = some (.string x2) := hX.op.cell 2
  have k3 : W.cell? ⟨w.heap.size, 3, none⟩ = some (.int .u64 x3) := hX.op.cell 3
  have HC := Lib.hid hcc
  have HX := Lib.hid (And.intro hX (And.intro hlt (show w.heap.size + 1 < W.heap.size from hX.ans.lt))); clear h hX hlt hc hcc
  go_enter Tryz.func67, Tryz.ntmps67
  go_wp2_with fail
  refine HC.out.mono ?_
  rintro e w3 ⟨vs, rfl, hv, hr, hu⟩
  have HX3 := Lib.hid (And.intro (HX.out.1.put HX.out.2.1 hr hu) HX.out.2.1)
  have HV := Lib.hid (Kd.R_lower (Kd.R_mono (Kd.R_bound hv) (fun q hq => show q ≠ w.heap.size + 1 by have := hq.2.1; have := HX.out.2.2; omega)) (show w.heap.size ≤ W.heap.size by have := HX.out.2.2; omega))
  obtain ⟨A3, c3, rfl⟩ := Kd.R_slice hv
  clear hv hr hu hW k0 k1 k2 k3 HX HC
  have a0 : w3.cell? ⟨w.heap.size + 1, 0, none⟩ = some (.bool false) := HX3.out.1.ans.cell 0
  have a1 : w3.cell? ⟨w.heap.size + 1, 1, none⟩ = some (.int .u64 0) := HX3.out.1.ans.cell 1
  have a2 : w3.cell? ⟨w.heap.size + 1, 2, none⟩ = some (.slice none 0 0) := HX3.out.1.ans.cell 2
  have z0 := HX3.out.1.ans.frozen 0
  have z1 := HX3.out.1.ans.frozen 1
  have z2 := HX3.out.1.ans.frozen 2
  go_wp2
  refine bodyPost_ret (results_cell_row (by rfl) _ _ (w.heap.size + 1) 65 #[.bool a.f0, .int .u64 a.f1, .slice A3 a.f2.length c3] (0, 0) _ (by rfl) HX3.out.1.fin Tryz.underlying65 (by rfl) (by kernel_rfl)) rfl ?_
  exact HX3.out.1.out HX3.out.2 HV.out
set_option maxHeartbeats 1000000 in
set_option maxRecDepth 100000 in
theorem do_add (h : RunIs w g mb cb s) (o : S63) (hk : o.f0 = 4) {a : S65} {s' : St} (hc : ∀ W, RunIs W g mb cb s → Calls Tryz.prog 112 #[ptrR g, opV o] W (StepOut W g mb cb a s')) : Calls Tryz.prog 67 #[ptrR g, opV o] w (StepOut w g mb cb a s') := by
  have hX := boxed h o
  obtain ⟨W, hW⟩ : ∃ W, ((w.alloc (.cells #[.int .i64 o.f0, .string o.f1, .string o.f2, .int .u64 o.f3] 63)).alloc (.cells #[.bool false, .int .u64 0, .slice none 0 0] 65)) = W := ⟨_, rfl⟩
  rw [hW] at hX
  have hlt := hX.lt h
  have hcc := hc W hX.run
  obtain ⟨x0, x1, x2, x3⟩ := o
  simp only at hk
  subst hk
  have k0 : W.cell? ⟨w.heap.size, 0, none⟩ = some (.int .i64 4) := hX.op.cell 0
  have k1 : W.cell? ⟨w.heap.size, 1, none⟩ = some (.string x1) := hX.op.cell 1
  have k2 : W.cell? ⟨w.heap.size, 2, none⟩ = some (.string x2) := hX.op.cell 2
  have k3 : W.cell? ⟨w.heap.size, 3, none⟩ = some (.int .u64 x3) := hX.op.cell 3
  have HC := Lib.hid hcc
  have HX := Lib.hid (And.intro hX (And.intro hlt (show w.heap.size + 1 < W.heap.size from hX.ans.lt))); clear h hX hlt hc hcc
  go_enter Tryz.func67, Tryz.ntmps67
  go_wp2_with fail
  refine HC.out.mono ?_
  rintro e w3 ⟨vs, rfl, hv, hr, hu⟩
  have HX3 := Lib.hid (And.intro (HX.out.1.put HX.out.2.1 hr hu) HX.out.2.1)
  have HV := Lib.hid (Kd.R_lower (Kd.R_mono (Kd.R_bound hv) (fun q hq => show q ≠ w.heap.size + 1 by have := hq.2.1; have := HX.out.2.2; omega)) (show w.heap.size ≤ W.heap.size by have := HX.out.2.2; omega))
  obtain ⟨A3, c3, rfl⟩ := Kd.R_slice hv
  clear hv hr hu hW k0 k1 k2 k3 HX HC
  have a0 : w3.cell? ⟨w.heap.size + 1, 0, none⟩ = some (.bool false) := HX3.out.1.ans.cell 0
  have a1 : w3.cell? ⟨w.heap.size + 1, 1, none⟩ = some (.int .u64 0) := HX3.out.1.ans.cell 1
  have a2 : w3.cell? ⟨w.heap.size + 1, 2, none⟩ = some (.slice none 0 0) := HX3.out.1.ans.cell 2
  have z0 := HX3.out.1.ans.frozen 0
  have z1 := HX3.out.1.ans.frozen 1
  have z2 := HX3.out.1.ans.frozen 2
  go_wp2
  refine bodyPost_ret (results_cell_row (by rfl) _ _ (w.heap.size + 1) 65 #[.bool a.f0, .int .u64 a.f1, .slice A3 a.f2.length c3] (0, 0) _ (by rfl) HX3.out.1.fin Tryz.underlying65 (by rfl) (by kernel_rfl)) rfl ?_
  exact HX3.out.1.out HX3.out.2 HV.out
set_option maxHeartbeats 1000000 in
set_option maxRecDepth 100000 in
theorem do_drop (h : RunIs w g mb cb s) (o : S63) (hk : o.f0 = 5) {a : S65} {s' : St} (hc : ∀ W, RunIs W g mb cb s → Calls Tryz.prog 113 #[ptrR g, opV o] W (StepOut W g mb cb a s')) : Calls Tryz.prog 67 #[ptrR g, opV o] w (StepOut w g mb cb a s') := by
  have hX := boxed h o
  obtain ⟨W, hW⟩ : ∃ W, ((w.alloc (.cells #[.int .i64 o.f0, .string o.f1, .string o.f2, .int .u64 o.f3] 63)).alloc (.cells #[.bool false, .int .u64 0, .slice none 0 0] 65)) = W := ⟨_, rfl⟩
  rw [hW] at hX
  have hlt := hX.lt h
  have hcc := hc W hX.run
  obtain ⟨x0, x1, x2, x3⟩ := o
  simp only at hk
  subst hk
  have k0 : W.cell? ⟨w.heap.size, 0, none⟩ = some (.int .i64 5) := hX.op.cell 0
  have k1 : W.cell? ⟨w.heap.size, 1, none⟩ = some (.string x1) := hX.op.cell 1
  have k2 : W.cell? ⟨w.heap.size, 2, none⟩ = some (.string x2) := hX.op.cell 2
  have k3 : W.cell? ⟨w.heap.size, 3, none⟩ = some (.int .u64 x3) := hX.op.cell 3
  have HC := Lib.hid hcc
  have HX := Lib.hid (And.intro hX (And.intro hlt (show w.heap.size + 1 < W.heap.size from hX.ans.lt))); clear h hX hlt hc hcc
  go_enter Tryz.func67, Tryz.ntmps67
  go_wp2_with fail
  refine HC.out.mono ?_
  rintro e w3 ⟨vs, rfl, hv, hr, hu⟩
  have HX3 := Lib.hid (And.intro (HX.out.1.put HX.out.2.1 hr hu) HX.out.2.1)
  have HV := Lib.hid (Kd.R_lower (Kd.R_mono (Kd.R_bound hv) (fun q hq => show q ≠ w.heap.size + 1 by have := hq.2.1; have := HX.out.2.2; omega)) (show w.heap.size ≤ W.heap.size by have := HX.out.2.2; omega))
  obtain ⟨A3, c3, rfl⟩ := Kd.R_slice hv
  clear hv hr hu hW k0 k1 k2 k3 HX HC
  have a0 : w3.cell? ⟨w.heap.size + 1, 0, none⟩ = some (.bool false) := HX3.out.1.ans.cell 0
  have a1 : w3.cell? ⟨w.heap.size + 1, 1, none⟩ = some (.int .u64 0) := HX3.out.1.ans.cell 1
  have a2 : w3.cell? ⟨w.heap.size + 1, 2, none⟩ = some (.slice none 0 0) := HX3.out.1.ans.cell 2
  have z0 := HX3.out.1.ans.frozen 0
  have z1 := HX3.out.1.ans.frozen 1
  have z2 := HX3.out.1.ans.frozen 2
  go_wp2
  refine bodyPost_ret (results_cell_row (by rfl) _ _ (w.heap.size + 1) 65 #[.bool a.f0, .int .u64 a.f1, .slice A3 a.f2.length c3] (0, 0) _ (by rfl) HX3.out.1.fin Tryz.underlying65 (by rfl) (by kernel_rfl)) rfl ?_
  exact HX3.out.1.out HX3.out.2 HV.out
set_option maxHeartbeats 1000000 in
set_option maxRecDepth 100000 in
theorem do_move (h : RunIs w g mb cb s) (o : S63) (hk : o.f0 = 6) {a : S65} {s' : St} (hc : ∀ W, RunIs W g mb cb s → Calls Tryz.prog 114 #[ptrR g, opV o] W (StepOut W g mb cb a s')) : Calls Tryz.prog 67 #[ptrR g, opV o] w (StepOut w g mb cb a s') := by
  have hX := boxed h o
  obtain ⟨W, hW⟩ : ∃ W, ((w.alloc (.cells #[.int .i64 o.f0, .string o.f1, .string o.f2, .int .u64 o.f3] 63)).alloc (.cells #[.bool false, .int .u64 0, .slice none 0 0] 65)) = W := ⟨_, rfl⟩
  rw [hW] at hX
  have hlt := hX.lt h
  have hcc := hc W hX.run
  obtain ⟨x0, x1, x2, x3⟩ := o
  simp only at hk
  subst hk
  have k0 : W.cell? ⟨w.heap.size, 0, none⟩ = some (.int .i64 6) := hX.op.cell 0
  have k1 : W.cell? ⟨w.heap.size, 1, none⟩ = some (.string x1) := hX.op.cell 1
  have k2 : W.cell? ⟨w.heap.size, 2, none⟩ = some (.string x2) := hX.op.cell 2
  have k3 : W.cell? ⟨w.heap.size, 3, none⟩ = some (.int .u64 x3) := hX.op.cell 3
  have HC := Lib.hid hcc
  have HX := Lib.hid (And.intro hX (And.intro hlt (show w.heap.size + 1 < W.heap.size from hX.ans.lt))); clear h hX hlt hc hcc
  go_enter Tryz.func67, Tryz.ntmps67
  go_wp2_with fail
  refine HC.out.mono ?_
  rintro e w3 ⟨vs, rfl, hv, hr, hu⟩
  have HX3 := Lib.hid (And.intro (HX.out.1.put HX.out.2.1 hr hu) HX.out.2.1)
  have HV := Lib.hid (Kd.R_lower (Kd.R_mono (Kd.R_bound hv) (fun q hq => show q ≠ w.heap.size + 1 by have := hq.2.1; have := HX.out.2.2; omega)) (show w.heap.size ≤ W.heap.size by have := HX.out.2.2; omega))
  obtain ⟨A3, c3, rfl⟩ := Kd.R_slice hv
  clear hv hr hu hW k0 k1 k2 k3 HX HC
  have a0 : w3.cell? ⟨w.heap.size + 1, 0, none⟩ = some (.bool false) := HX3.out.1.ans.cell 0
  have a1 : w3.cell? ⟨w.heap.size + 1, 1, none⟩ = some (.int .u64 0) := HX3.out.1.ans.cell 1
  have a2 : w3.cell? ⟨w.heap.size + 1, 2, none⟩ = some (.slice none 0 0) := HX3.out.1.ans.cell 2
  have z0 := HX3.out.1.ans.frozen 0
  have z1 := HX3.out.1.ans.frozen 1
  have z2 := HX3.out.1.ans.frozen 2
  go_wp2
  refine bodyPost_ret (results_cell_row (by rfl) _ _ (w.heap.size + 1) 65 #[.bool a.f0, .int .u64 a.f1, .slice A3 a.f2.length c3] (0, 0) _ (by rfl) HX3.out.1.fin Tryz.underlying65 (by rfl) (by kernel_rfl)) rfl ?_
  exact HX3.out.1.out HX3.out.2 HV.out
set_option maxHeartbeats 1000000 in
set_option maxRecDepth 100000 in
theorem do_none (h : RunIs w g mb cb s) (o : S63) (h1 : o.f0 ≠ 1) (h2 : o.f0 ≠ 2) (h3 : o.f0 ≠ 3) (h4 : o.f0 ≠ 4) (h5 : o.f0 ≠ 5) (h6 : o.f0 ≠ 6) : Calls Tryz.prog 67 #[ptrR g, opV o] w (StepOut w g mb cb ⟨false, 0, []⟩ s) := by
  have hX := boxed h o
  obtain ⟨w3, hW⟩ : ∃ w3, ((w.alloc (.cells #[.int .i64 o.f0, .string o.f1, .string o.f2, .int .u64 o.f3] 63)).alloc (.cells #[.bool false, .int .u64 0, .slice none 0 0] 65)) = w3 := ⟨_, rfl⟩
  rw [hW] at hX
  have hlt := hX.lt h
  have k0 : w3.cell? ⟨w.heap.size, 0, none⟩ = some (.int .i64 o.f0) := hX.op.cell 0
  have HX3 := Lib.hid (And.intro hX hlt); clear h hX hlt
  have d1 : (o.f0 == 1) = false := beq_eq_false_iff_ne.2 h1
  have d2 : (o.f0 == 2) = false := beq_eq_false_iff_ne.2 h2
  have d3 : (o.f0 == 3) = false := beq_eq_false_iff_ne.2 h3
  have d4 : (o.f0 == 4) = false := beq_eq_false_iff_ne.2 h4
  have d5 : (o.f0 == 5) = false := beq_eq_false_iff_ne.2 h5
  have d6 : (o.f0 == 6) = false := beq_eq_false_iff_ne.2 h6
  clear h1 h2 h3 h4 h5 h6
  have a0 : w3.cell? ⟨w.heap.size + 1, 0, none⟩ = some (.bool false) := HX3.out.1.ans.cell 0
  have a1 : w3.cell? ⟨w.heap.size + 1, 1, none⟩ = some (.int .u64 0) := HX3.out.1.ans.cell 1
  have a2 : w3.cell? ⟨w.heap.size + 1, 2, none⟩ = some (.slice none 0 0) := HX3.out.1.ans.cell 2
  have z0 := HX3.out.1.ans.frozen 0
  have z1 := HX3.out.1.ans.frozen 1
  have z2 := HX3.out.1.ans.frozen 2
  go_enter Tryz.func67, Tryz.ntmps67
  go_wp2
  refine bodyPost_ret (results_cell_row (by rfl) _ _ (w.heap.size + 1) 65 #[.bool false, .int .u64 0, .slice none 0 0] (0, 0) _ (by rfl) HX3.out.1.fin Tryz.underlying65 (by rfl) (by kernel_rfl)) rfl ?_
  exact HX3.out.1.out HX3.out.2 (Kd.R_nil _ _ _ _ _)
theorem rndo_any (h : RunIs w g mb cb s) {n : Nat} (hf : StFit s n) (hn : n ≤ 1000000) (o : S63) (ho : opOk o) : Calls Tryz.prog 67 #[ptrR g, opV o] w (StepOut w g mb cb (stepA o s) (stepS o s)) := by
  have hm1 := maxLen_ge ho.1
  have hm2 := maxLen_ge ho.2
  have hs := hf.small (by omega)
  have hs2 : ∀ k n, (s.put k n).small := fun k v => ⟨Nat.le_trans (putL_le hf.ok.1 k v) (by have := hf.dl; omega), Nat.le_trans (putL_le hf.ok.2.1 k true) (by have := hf.cl; omega)⟩
  by_cases h1 : o.f0 = 1
  · rw [show stepA o s = ⟨s.has o.f1, s.at o.f1, []⟩ by unfold stepA; rw [if_pos h1], show stepS o s = s by unfold stepS; simp [h1]]
    exact do_get h o h1 fun W hW => rnget_any hW o hm1
  by_cases h2 : o.f0 = 2
  · rw [show stepA o s = ⟨true, 0, pickT [⟨o.f1, o.f2⟩] (s.d.map ofA)⟩ by unfold stepA; rw [if_neg h1, if_pos h2], show stepS o s = s by unfold stepS; simp [h2]]
    exact do_scan h o h2 fun W hW => rnscan_any hW (Nat.le_trans hf.dl hn) hf.dk o
  by_cases h3 : o.f0 = 3
  · rw [show stepA o s = ⟨true, 0, []⟩ by unfold stepA; simp [h3], show stepS o s = s.put o.f1 o.f3 by unfold stepS; simp [h3]]
    exact do_set h o h3 fun W hW => rnset_any hW hs o hm1
  by_cases h4 : o.f0 = 4
  · rw [show stepA o s = ⟨s.has o.f1, addN (s.at o.f1) o.f3, []⟩ by unfold stepA; simp [h4], show stepS o s = s.put o.f1 (addN (s.at o.f1) o.f3) by unfold stepS; simp [h4]]
    exact do_add h o h4 fun W hW => rnadd_any hW hs o hm1
  by_cases h5 : o.f0 = 5
  · rw [show stepA o s = ⟨s.has o.f1, 0, []⟩ by unfold stepA; simp [h5], show stepS o s = s.drop o.f1 by unfold stepS; simp [h5]]
    exact do_drop h o h5 fun W hW => rndrop_any hW hs o hm1
  by_cases h6 : o.f0 = 6
  · cases c1 : geN (s.at o.f1) o.f3 with
    | false =>
      rw [show stepA o s = ⟨false, 0, []⟩ by unfold stepA; simp [h6, c1], show stepS o s = s by unfold stepS; simp [h6, c1]]
      exact do_move h o h6 fun W hW => rnmove_no1 hW o hm1 c1
    | true =>
      cases c2 : geN o.f3 0 with
      | false =>
        rw [show stepA o s = ⟨false, 0, []⟩ by unfold stepA; simp [h6, c1, c2], show stepS o s = s by unfold stepS; simp [h6, c1, c2]]
        exact do_move h o h6 fun W hW => rnmove_no2 hW o hm1 c1 c2
      | true =>
        rw [show stepA o s = ⟨true, 0, []⟩ by unfold stepA; simp [h6, c1, c2], show stepS o s = (s.put o.f1 (addN (s.at o.f1) (negN o.f3))).put o.f2 (addN ((s.put o.f1 (addN (s.at o.f1) (negN o.f3))).at o.f2) o.f3) by unfold stepS; simp [h6, c1, c2]]
        exact do_move h o h6 fun W hW => rnmove_yes hW hs hs2 o hm1 hm2 c1 c2
  · rw [show stepA o s = ⟨false, 0, []⟩ by unfold stepA; simp [h1, h2, h3, h4, h5, h6], show stepS o s = s by unfold stepS; simp [h3, h4, h5, h6]]
    exact do_none h o h1 h2 h3 h4 h5 h6
end
end Go.Proofs.YtgmlenpcchhmbaaGreat.P
end
section
set_option linter.unusedVariables false
set_option linter.unusedSimpArgs false
namespace Go.Proofs.YtgmlenpcchhmbaaGreat.P
open Go.RowKit Go.Proofs.YtgmlenpcchhmbaaGreatW.PrintWords Go.Proofs.YtgmlenpcchhmbaaGreatW.PrintLast Go.Proofs.YtgmlenpcchhmbaaGreatW.PrintMore
theorem fit_run : ∀ (l : List S63) {s : St} {n : Nat}, StFit s n → (∀ o ∈ l, opOk o) → StFit (runS l s) (n + 2 * l.length)
  | [], _, _, h, _ => h
  | o :: l, _, _, h, ho => (fit_run l (h.step (ho o (List.mem_cons_self ..))) (fun p hp => ho p (List.mem_cons_of_mem _ hp))).mono (by rw [List.length_cons]; omega)
theorem fit_take (l : List S63) {s : St} {n : Nat} (h : StFit s n) (ho : ∀ o ∈ l, opOk o) (k : Nat) : StFit (runS (l.take k) s) (n + 2 * l.length) :=
  (fit_run (l.take k) h (fun p hp => ho p (List.mem_of_mem_take hp))).mono (by rw [List.length_take]; omega)
theorem start_fit {data : List S61} (h : keysOk data) : StFit (startT data) data.length := by
  refine ⟨start_ok data, mapT_len data, Nat.zero_le _, ?_, fun x hx => by cases hx⟩
  have key : ∀ (d : List S61) (l : List (ByteArray × Int)), (∀ p ∈ d, p.f0.size ≤ 1000000) → keySizes l → keySizes (d.foldl (fun l p => putL l p.f0 p.f1) l) := by
    intro d
    induction d with
    | nil => intro l _ hl; exact hl
    | cons p d ih => intro l hd hl; exact ih _ (fun q hq => hd q (List.mem_cons_of_mem _ hq)) (keySizes_put hl (hd p (List.mem_cons_self ..)) _)
  exact key data [] h.2 (fun x hx => by cases hx)
def wrOf (d : List (ByteArray × Int)) (x : ByteArray × Bool) : S69 := ⟨x.1, (getL d x.1).getD 0, (getL d x.1).isNone⟩
set_option maxHeartbeats 4000000 in
set_option maxRecDepth 100000 in
theorem eval_any (A : Option Addr) (c : Nat) (l : List S63) (A' : Option Addr) (c' : Nat) (data : List S61) (w : World) (hr : Kd.C k63 w A l.length l) (hr' : Kd.C k61 w A' data.length data) (hl : l.length ≤ 1000) (ho : ∀ o ∈ l, opOk o) (hd : keysOk data) (hd2 : data.length ≤ 900000) :
    Calls Tryz.prog 26 #[.slice A l.length c, .slice A' data.length c'] w fun e w' => ∃ v1 v2, e = .returned (.tuple #[v1, v2]) ∧ Kd.R k69 69 w' w.heap.size (fun _ => True) v1 (writesT (runS l (startT data))) ∧ Kd.S k65 65 w' w.heap.size (fun _ => True) v2 (runA l (startT data)) ∧ Below w.heap.size w w' := by
  have HM := Lib.hid (mapped_any A' c' data w hr' hd)
  have HF := Lib.hid (fun k => fit_take l (start_fit hd) ho k)
  have HX := Lib.hid (And.intro hr (And.intro ho (And.intro hl hd2)))
  have hmx := Kd.C_max hr
  clear hr hr' hd ho
  have hmm := @run_makeMap Tryz.prog
  go_enter Tryz.func26, Tryz.ntmps26
  go_wp2_with fail
  refine HM.out.mono ?_
  rintro e w1 ⟨rfl, hm1, hb1⟩
  have hlt1 := hm1.lt
  obtain ⟨w3, hw3⟩ : ∃ w3, (w1.alloc (.map #[] 0)).alloc (.cells #[.map (some w.heap.size), .map (some w1.heap.size)] 107) = w3 := ⟨_, rfl⟩
  have hba : Below w1.heap.size w1 (w1.alloc (.map #[] 0)) := (Below.refl _ _).alloc (Nat.le_refl _) _
  have hbb : Below w1.heap.size w1 w3 := hw3 ▸ hba.alloc (by simp) _
  have hrun : RunIs w3 (w1.heap.size + 1) w.heap.size w1.heap.size (startT data) := by
    refine ⟨?_, by omega, hm1.below hbb, ?_⟩
    · have := Blk.new (w1.alloc (.map #[] 0)) 107 #[.map (some w.heap.size), .map (some w1.heap.size)]
      rw [hw3] at this
      simpa using this
    · have := (MS.made encB w1).below (w' := w3) (hw3 ▸ (Below.refl _ _).alloc (Nat.le_refl _) _)
      exact this
  have hgz : w.heap.size < w1.heap.size := hlt1
  have HR := Lib.hid (And.intro hrun (hb1.trans (hbb.mono hb1.size)))
  clear hm1 hlt1 hba hbb hrun HM
  go_wp2
  go_loopw [5, 8, 20] (fun so _ i wr => ∃ (k : Nat) (A2 : Option Addr) (c2 : Nat), so = .slice A2 k c2 ∧ i = .int .i64 k ∧ k ≤ l.length ∧ RowKit.Hid (RunIs wr (w1.heap.size + 1) w.heap.size w1.heap.size (runS (l.take k) (startT data)) ∧ Kd.S k65 65 wr w.heap.size (fun q => q ≠ w1.heap.size + 1 ∧ q ≠ w.heap.size ∧ q ≠ w1.heap.size) (.slice A2 k c2) (runA (l.take k) (startT data)) ∧ Below w.heap.size w wr)) (fun _ _ i _ => l.length - (intOf i).toNat)
  case atStart => exact ⟨0, none, 0, rfl, rfl, Nat.zero_le _, Lib.hid ⟨HR.out.1, Kd.S_nil _ _ _ _ _, HR.out.2⟩⟩
  case round =>
    obtain ⟨k, A2, c2, rfl, rfl, hk, HS⟩ := hrel
    by_cases hlt : k < l.length
    · obtain ⟨ad, hA, d0, d1, d2, d3⟩ := C_atO (Kd.C_below HX.out.1 HS.out.2.2) k hlt
      subst hA
      have hoo := HX.out.2.1 l[k] (List.getElem_mem hlt)
      have hsA : runA (l.take (k + 1)) (startT data) = runA (l.take k) (startT data) ++ [stepA l[k] (runS (l.take k) (startT data))] := by rw [List.take_succ_eq_append_getElem hlt, runA_snoc]
      have hsS : runS (l.take (k + 1)) (startT data) = stepS l[k] (runS (l.take k) (startT data)) := by rw [List.take_succ_eq_append_getElem hlt, runS_snoc]
      have hfit := HF.out k
      have hlenA : (runA (l.take k) (startT data)).length = k := by rw [runA_len, List.length_take]; omega
      generalize l[k] = x at *
      generalize runS (l.take k) (startT data) = s at *
      generalize runA (l.take k) (startT data) = an at *
      generalize hsa : stepA x s = a at *
      generalize hss : stepS x s = s' at *
      obtain ⟨W, hW⟩ : ∃ W, wr.alloc (.cells #[.int .i64 x.f0, .string x.f1, .string x.f2, .int .u64 x.f3] 63) = W := ⟨_, rfl⟩
      have hbW : Below wr.heap.size wr W := hW ▸ (Below.refl _ _).alloc (Nat.le_refl _) _
      have hTW : Blk W wr.heap.size 63 #[.int .i64 x.f0, .string x.f1, .string x.f2, .int .u64 x.f3] := hW ▸ Blk.new wr 63 _
      have t0 : W.cell? ⟨wr.heap.size, 0, none⟩ = some (.int .i64 x.f0) := hTW.cell 0
      have t1 : W.cell? ⟨wr.heap.size, 1, none⟩ = some (.string x.f1) := hTW.cell 1
      have t2 : W.cell? ⟨wr.heap.size, 2, none⟩ = some (.string x.f2) := hTW.cell 2
      have t3 : W.cell? ⟨wr.heap.size, 3, none⟩ = some (.int .u64 x.f3) := hTW.cell 3
      have hdo := rndo_any (HS.out.1.below hbW) hfit (by have := HX.out.2.2; omega) x hoo
      rw [hsa, hss] at hdo
      have HD := Lib.hid hdo
      have HN := Lib.hid (And.intro hsA (And.intro hsS (And.intro hlenA (And.intro hbW hTW.lt))))
      clear hdo hsA hsS hlenA hbW hTW hfit hoo hsa hss
      go_wp2_with fail
      refine HD.out.mono ?_
      rintro e w4 ⟨vs, rfl, hv, hr4, hu4⟩
      obtain ⟨A4, c4, rfl⟩ := Kd.R_slice hv
      have hlv : ∀ q, (Value.slice A2 k c2).ownBlock = some q → q < wr.heap.size := Kd.S_lt HS.out.2.1
      have hszW : wr.heap.size ≤ W.heap.size := HN.out.2.2.2.1.size
      have hin : w1.heap.size + 1 < wr.heap.size := HS.out.1.blk.lt
      have hsw : w.heap.size ≤ wr.heap.size := HS.out.2.2.size
      have hB4 : Below w.heap.size w w4 := (HS.out.2.2.trans (HN.out.2.2.2.1.mono hsw)).trans (hu4.below (by omega) (fun q hq e => by omega))
      have H4 := Lib.hid (And.intro hv (And.intro hr4 (And.intro hu4 (And.intro hB4 hlv))))
      clear hv hr4 hu4 hB4 hlv t0 t1 t2 t3 hW HD
      go_wp2_with (first | ((with_reducible refine gate_builtin (b := .append) (xs := #[.tmp 24, .tmp 28]) rfl ?_); at_builtin; refine stop_append rfl ?_))
      refine Lib.hid ?_;refine Kd.S_append k65 (w0 := w) w.heap.size rfl (.tmp 24) (.tmp 28) 44 65 (.agg #[.bool false, .int .u64 0, .slice none 0 0]) 40 rfl Tryz.underlying44 info65 rfl (by decide) (by decide) (.slice A2 k c2) an a [.bool a.f0, .int .u64 a.f1, .slice A4 a.f2.length c4] (fun q => q ≠ w1.heap.size + 1 ∧ q ≠ w.heap.size ∧ q ≠ w1.heap.size) (fun q => W.heap.size ≤ q) rfl rfl (k65_mkM _ _ _ _ (Kd.R_lower (Kd.R_mono (Kd.R_bound H4.out.1) (fun q hq => hq.2.1)) (by omega))) ?_ ?_ ?_ H4.out.2.2.2.1 H4.out.2.2.2.1.size ?_ ?_
      · intro q hq
        exact ⟨⟨by omega, by omega, by omega⟩, fun e => by have := H4.out.2.2.2.2 q e.symm; omega⟩
      · intro q hq
        have := H4.out.2.2.1.size
        exact ⟨by omega, by omega, by omega⟩
      · refine Kd.S_step (Kd.S_mono (Kd.S_bound HS.out.2.1) (fun q hq => ⟨hq.1, by have := hq.2.2.1; omega⟩)) (fun q hq hql => ?_)
        exact (H4.out.2.2.1.block q (by omega) (fun e => by rcases e with e | e; exact hq.1.2.1 e; exact hq.1.2.2 e)).trans (HN.out.2.2.2.1.block q hql)
      · have := HN.out.2.2.1; have := HX.out.2.2; omega
      intro v5 w5 hS5 hB5 hg5 hat5
      have hln : (an ++ [a]).length = k + 1 := by rw [List.length_append, HN.out.2.2.1]; rfl
      obtain ⟨A5, c5, e5⟩ := Kd.S_slice hS5
      rw [hln] at e5
      have hr5 : RunIs w5 (w1.heap.size + 1) w.heap.size w1.heap.size s' := by
        have hu5 : Upd w4 w5 (fun q => some q = (Value.slice A2 k c2).ownBlock) := Upd.of_grown hg5 (fun q hq => hq.symm)
        exact H4.out.2.1.upd hu5 (fun h => ((Kd.S_R HS.out.2.1).1 _ h.symm).1 rfl) (fun h => ((Kd.S_R HS.out.2.1).1 _ h.symm).2.1 rfl) (fun h => ((Kd.S_R HS.out.2.1).1 _ h.symm).2.2 rfl)
      have HN5 := Lib.hid (And.intro hS5 (And.intro hB5 hr5))
      rw [e5] at HN5
      rw [e5]
      clear hS5 hB5 hg5 hat5 e5 hr5
      go_wp2_with fail
      go_roundw
      case rel => exact ⟨k + 1, A5, c5, rfl, by go_num, by omega, Lib.hid ⟨by rw [HN.out.2.1]; exact HN5.out.2.2, by rw [HN.out.1]; exact HN5.out.1, HN5.out.2.1⟩⟩
      case measure => simp [intOf]; omega
    · obtain rfl : k = l.length := by omega
      have hfit := HF.out l.length
      rw [List.take_length] at HS hfit
      obtain ⟨s, hse⟩ : ∃ s, runS l (startT data) = s := ⟨_, rfl⟩
      obtain ⟨an, hae⟩ : ∃ an, runA l (startT data) = an := ⟨_, rfl⟩
      rw [hse] at HS hfit
      rw [hae] at HS
      have HE := Lib.hid (And.intro hse hae)
      clear hse hae
      have HF2 := Lib.hid hfit
      have hcl : s.c.length ≤ 1000000 := by have := hfit.cl; have := HX.out.2.2; omega
      have hb5 : Below wr.heap.size wr (wr.alloc (.cells #[.map (some w1.heap.size)] 105)) := (Below.refl _ _).alloc (Nat.le_refl _) _
      have HK := Lib.hid (keysSB_any (some w1.heap.size) wr)
      have HSO := Lib.hid (sortedSB_any (Bm := wr.heap.size) (HS.out.1.c.below hb5) hcl (by simp) ((Blk.new wr 105 #[.map (some w1.heap.size)]).cell 0))
      have HB5 := Lib.hid hb5
      have hr1 : wr.cell? ⟨w1.heap.size + 1, 1, none⟩ = some (.map (some w1.heap.size)) := HS.out.1.blk.cell 1
      clear hfit HF HR hb5
      go_wp2_with fail
      refine HK.out.mono ?_
      rintro e w5 ⟨rfl, rfl⟩
      go_wp2_with fail
      refine HSO.out.mono ?_
      rintro e w6 ⟨v6, rfl, hR6, hb6⟩
      obtain ⟨A6, c6, rfl, hc6, hC6⟩ := Kd.R_reads hR6
      have hB6 : Below wr.heap.size wr w6 := HB5.out.trans (hb6.mono (by simp))
      have hlen : (s.c.map (·.1)).length = s.c.length := List.length_map _
      have HY := Lib.hid (And.intro hC6 (And.intro hB6 (And.intro (HS.out.2.2.trans (hB6.mono HS.out.2.2.size)) HS.out.1)))
      have hge := hB6.size;clear hR6 hC6 hb6 hB6 HSO HK hr1
      rw [hlen] at HY hc6 ⊢
      go_wp2
      go_loopw [4, 10, 11, 12, 38, 42] (fun so _ _ _ i _ wq => ∃ (k : Nat) (A7 : Option Addr) (c7 : Nat), so = .slice A7 k c7 ∧ i = .int .i64 k ∧ k ≤ s.c.length ∧ RowKit.Hid (Kd.R k69 69 wq w6.heap.size (fun _ => True) (.slice A7 k c7) ((s.c.take k).map (wrOf s.d)) ∧ Below w6.heap.size w6 wq)) (fun _ _ _ _ i _ _ => s.c.length - (intOf i).toNat)
      case atStart => exact ⟨0, none, 0, rfl, rfl, Nat.zero_le _, Lib.hid ⟨Kd.R_nil _ _ _ _ _, Below.refl _ _⟩⟩
      case round =>
        obtain ⟨k, A7, c7, rfl, rfl, hk7, HR7⟩ := hrel
        rename World => wq
        have hbw : Below wr.heap.size wr wq := HY.out.2.1.trans (HR7.out.2.mono hge)
        by_cases hlt : k < s.c.length
        · obtain ⟨ad, hA, d0⟩ := C_atS (Kd.C_below HY.out.1 HR7.out.2) k (by rw [hlen]; exact hlt)
          subst hA
          rw [List.getElem_map] at d0
          have hsz := maxLen_ge (HF2.out.ck s.c[k] (List.getElem_mem hlt))
          have hrq := HY.out.2.2.2.below hbw
          have hr0 : wq.cell? ⟨w1.heap.size + 1, 0, none⟩ = some (.map (some w.heap.size)) := hrq.blk.cell 0
          have hlk := hrq.d.look Tryz.underlying103 (zeroNum _) hsz
          have hst : (s.c.take (k + 1)).map (wrOf s.d) = (s.c.take k).map (wrOf s.d) ++ [⟨s.c[k].1, (getL s.d s.c[k].1).getD 0, (getL s.d s.c[k].1).isNone⟩] := by rw [List.take_succ_eq_append_getElem hlt, List.map_append]; rfl
          have hv : ((getL s.d s.c[k].1).map encN).getD (.int .u64 0) = .int .u64 ((getL s.d s.c[k].1).getD 0) := by cases getL s.d s.c[k].1 <;> rfl
          have hy : (getL s.d s.c[k].1).isNone = !(getL s.d s.c[k].1).isSome := by cases getL s.d s.c[k].1 <;> rfl
          rw [hv] at hlk
          rw [hy] at hst
          clear hv hy
          generalize (getL s.d s.c[k].1).getD 0 = n0 at *
          generalize (getL s.d s.c[k].1).isSome = y0 at *
          generalize s.c[k].1 = x0 at *
          have HN := Lib.hid hst
          clear hst hsz hrq
          go_wp2_with (first | ((with_reducible refine gate_builtin (b := .append) (xs := #[.tmp 51, .tmp 57]) rfl ?_); at_builtin; refine stop_append rfl ?_))
          refine Lib.hid ?_;refine Kd.R_append k69 (w0 := w6) w6.heap.size rfl (.tmp 51) (.tmp 57) 43 69 (.agg #[.string ⟨#[]⟩, .int .u64 0, .bool false]) 32 rfl Tryz.underlying43 info69 rfl (by decide) (by decide) (.slice A7 k c7) ((s.c.take k).map (wrOf s.d)) ⟨x0, n0, !y0⟩ [.string x0, .int .u64 n0, .bool (!y0)] (fun _ => True) (fun _ => False) rfl rfl (k69_mkM _ _ _ _) (fun _ h => h.elim) (fun _ _ => trivial) HR7.out.1 HR7.out.2 HR7.out.2.size (by rw [List.length_map, List.length_take]; omega) ?_;intro v9 w9 hS9 hB9 hg9 hat9
          have hln : ((s.c.take k).map (wrOf s.d) ++ [(⟨x0, n0, !y0⟩ : S69)]).length = k + 1 := by simp; omega
          obtain ⟨A9, c9, e9⟩ := Kd.R_slice hS9
          rw [hln] at e9
          have HN9 := Lib.hid (And.intro hS9 hB9)
          rw [e9] at HN9
          rw [e9]
          clear hS9 hB9 hg9 hat9 e9 hlk d0 hr0
          go_wp2_with fail
          go_roundw
          case rel => exact ⟨k + 1, A9, c9, rfl, by go_num, by omega, Lib.hid ⟨by rw [HN.out]; exact HN9.out.1, HN9.out.2⟩⟩
          case measure => simp [intOf]; omega
        · obtain rfl : k = s.c.length := by omega
          have HZ := Lib.hid (And.intro (Kd.R_lower HR7.out.1 (Nat.le_trans HS.out.2.2.size hge)) (And.intro (Kd.S_mono (Kd.S_below HS.out.2.1 hbw) (fun _ _ => trivial)) (HS.out.2.2.trans (hbw.mono HS.out.2.2.size))))
          rw [List.take_length] at HZ
          clear hbw
          go_wp2
          go_ret2
          refine ⟨_, _, rfl, ?_⟩
          rw [HE.out.1, HE.out.2]
          exact HZ.out
def evalOk (l : List S63) (data : List S61) : Prop := l.length ≤ 1000 ∧ (∀ o ∈ l, opOk o) ∧ data.length ≤ 900000 ∧ (∀ p ∈ data, p.f0.size ≤ 1000000)
instance (l : List S63) (data : List S61) : Decidable (evalOk l data) := by unfold evalOk opOk; exact inferInstance
def txn_Eval.f (l : List S63) (data : List S61) : Option (List S69 × List S65) := if evalOk l data then some (writesT (runS l (startT data)), runA l (startT data)) else none
theorem txn_Eval.calls (A0 : Option Addr) (c0 : Nat) (l0 : List S63) (A1 : Option Addr) (c1 : Nat) (l1 : List S61) (r0 : List S69) (r1 : List S65) (w : World) (hr0 : Kd.C k63 w A0 l0.length l0) (_hc0 : l0.length ≤ c0) (hr1 : Kd.C k61 w A1 l1.length l1) (_hc1 : l1.length ≤ c1) (h : txn_Eval.f l0 l1 = some (r0, r1)) :
    Calls Tryz.prog 26 #[.slice A0 l0.length c0, .slice A1 l1.length c1] w fun e w' => ∃ v0_ v1_ : Value, e = .returned (.tuple #[v0_, v1_]) ∧ Kd.R k69 69 w' w.heap.size (fun _ => True) v0_ r0 ∧ Kd.S k65 65 w' w.heap.size (fun _ => True) v1_ r1 ∧ Below w.heap.size w w' := by
  unfold txn_Eval.f at h
  split at h
  · rename_i hc
    injection h with h
    injection h with h0 h1
    subst h0 h1
    exact eval_any A0 c0 l0 A1 c1 l1 w hr0 hr1 hc.1 hc.2.1 ⟨by have := hc.2.2.1; omega, hc.2.2.2⟩ hc.2.2.1
  · cases h
end Go.Proofs.YtgmlenpcchhmbaaGreat.P
end
section
set_option linter.unusedVariables false
set_option linter.unusedSimpArgs false
namespace Go.Proofs.YtgmlenpcchhmbaaGreat.P
open Go.RowKit Go.Sort Go.Shelf Go.Proofs.YtgmlenpcchhmbaaGreatW.PrintWords Go.Proofs.YtgmlenpcchhmbaaGreatW.PrintLast Go.Proofs.YtgmlenpcchhmbaaGreatW.PrintMore
set_option linter.unnecessarySimpa false
theorem C_blk {α : Type} (d : Kd α) {W : World} {g : Nat} {t : TypeId} {cs : Array Value} {xs : List α} (h : Blk W g t cs) (hl : xs.length ≤ 9223372036854775807)
    (hr : ∀ j p, xs[j]? = some p → ∃ c, c.length = d.sz ∧ d.K W p c ∧ ∀ i u, c[i]? = some u → cs[j * d.sz + i]? = some u) : Kd.C d W (some ⟨g, 0, none⟩) xs.length xs := by
  refine ⟨rfl, hl, fun _ => ⟨_, rfl, fun j p hj => ?_⟩⟩
  obtain ⟨c, h1, h2, h3⟩ := hr j p hj
  refine ⟨c, h1, h2, fun i u hu => ?_⟩
  rw [add_plain, h.cell]
  exact h3 i u hu
def sa : ByteArray := ⟨#[97]⟩
def sb : ByteArray := ⟨#[98]⟩
def se : ByteArray := ⟨#[]⟩
def lOps : List S63 := [⟨4, sa, se, rOfN 5⟩, ⟨6, sa, sb, rOfN 3⟩, ⟨1, sb, se, 0⟩]
def lWs : List S69 := [⟨sa, rOfN 2, false⟩, ⟨sb, rOfN 3, false⟩]
def lAs : List S65 := [⟨false, rOfN 5, []⟩, ⟨true, 0, []⟩, ⟨true, rOfN 3, []⟩]
theorem C_lOps (W : World) (g : Nat) (h : Blk W g 63 #[.int .i64 4, .string sa, .string se, .int .u64 (rOfN 5), .int .i64 6, .string sa, .string sb, .int .u64 (rOfN 3), .int .i64 1, .string sb, .string se, .int .u64 0]) : Kd.C k63 W (some ⟨g, 0, none⟩) lOps.length lOps := by
  refine C_blk k63 h (by decide) fun j p hj => ⟨_, rfl, k63_mk W p, fun i u hu => ?_⟩
  rcases j with _ | _ | _ | j <;> simp [lOps] at hj <;> subst hj <;> rcases i with _ | _ | _ | _ | i <;> simpa [show k63.sz = 4 from rfl] using hu
theorem C_lWs (W : World) (g : Nat) (h : Blk W g 69 #[.string sa, .int .u64 (rOfN 2), .bool false, .string sb, .int .u64 (rOfN 3), .bool false]) : Kd.C k69 W (some ⟨g, 0, none⟩) lWs.length lWs := by
  refine C_blk k69 h (by decide) fun j p hj => ⟨_, rfl, k69_mk W p, fun i u hu => ?_⟩
  rcases j with _ | _ | j <;> simp [lWs] at hj <;> subst hj <;> rcases i with _ | _ | _ | i <;> simpa [show k69.sz = 3 from rfl] using hu
theorem C_lAs (W : World) (g : Nat) (h : Blk W g 65 #[.bool false, .int .u64 (rOfN 5), .slice none 0 0, .bool true, .int .u64 0, .slice none 0 0, .bool true, .int .u64 (rOfN 3), .slice none 0 0]) : Kd.C k65 W (some ⟨g, 0, none⟩) lAs.length lAs := by
  refine C_blk k65 h (by decide) fun j p hj => ?_
  rcases j with _ | _ | _ | j <;> simp [lAs] at hj <;> subst hj
  · exact ⟨_, rfl, k65_mk W ⟨false, rOfN 5, []⟩ (c2 := 0) (by simp) (Kd.C_nil _ _), fun i u hu => by rcases i with _ | _ | _ | i <;> simpa [show k65.sz = 3 from rfl] using hu⟩
  · exact ⟨_, rfl, k65_mk W ⟨true, 0, []⟩ (c2 := 0) (by simp) (Kd.C_nil _ _), fun i u hu => by rcases i with _ | _ | _ | i <;> simpa [show k65.sz = 3 from rfl] using hu⟩
  · exact ⟨_, rfl, k65_mk W ⟨true, rOfN 3, []⟩ (c2 := 0) (by simp) (Kd.C_nil _ _), fun i u hu => by rcases i with _ | _ | _ | i <;> simpa [show k65.sz = 3 from rfl] using hu⟩
theorem live_eval : evalOk lOps [] := by decide +kernel
theorem live_ws : folkmootref08_WritesSame.f 9 (writesT (runS lOps (startT []))) lWs = some true := by decide +kernel
theorem live_as : folkmootref08_Answers.f 9 (runA lOps (startT [])) lAs = some true := by decide +kernel
theorem live_put : txn_Put.f lOps = some (laidOps lOps) := by decide +kernel
theorem live_parse : txn_Parse.f (laidOps lOps) = some (lOps, 0) := by kernel_rfl
theorem live_ops : folkmootref08_Ops.f 9 lOps lOps = some true := by decide +kernel
theorem live_chk : txn_Check.f lOps = some 0 := by decide +kernel
theorem live_nil : txn_Check.f ([] : List S63) = some 80 := by decide +kernel
def bL : List Int := laidOps lOps
def vW : List S69 := writesT (runS lOps (startT []))
def vA : List S65 := runA lOps (startT [])
theorem evC (W : World) : Calls Tryz.prog 26 #[.slice (some ⟨W.heap.size, 0, none⟩) 3 3, .slice none 0 0] (W.alloc (.cells #[.int .i64 4, .string ⟨#[97]⟩, .string ⟨#[]⟩, .int .u64 (rOfN 5), .int .i64 6, .string ⟨#[97]⟩, .string ⟨#[98]⟩, .int .u64 (rOfN 3), .int .i64 1, .string ⟨#[98]⟩, .string ⟨#[]⟩, .int .u64 0] 63)) fun e w' =>
    ∃ A1 c1 A2 c2, e = .returned (.tuple #[.slice A1 vW.length c1, .slice A2 vA.length c2]) ∧ (vW.length ≤ c1 ∧ Kd.C k69 w' A1 vW.length vW ∧ vA.length ≤ c2 ∧ Kd.C k65 w' A2 vA.length vA ∧ Kd.C k63 w' (some ⟨W.heap.size, 0, none⟩) 3 lOps) ∧ Below W.heap.size W w' := by
  have hL := C_lOps (W.alloc (.cells #[.int .i64 4, .string sa, .string se, .int .u64 (rOfN 5), .int .i64 6, .string sa, .string sb, .int .u64 (rOfN 3), .int .i64 1, .string sb, .string se, .int .u64 0] 63)) W.heap.size (Blk.new W 63 _)
  refine (txn_Eval.calls _ 3 lOps none 0 [] vW vA _ hL (by decide) (Kd.C_nil _ _) (by simp) (by unfold txn_Eval.f; rw [if_pos live_eval]; rfl)).mono ?_
  rintro e w' ⟨v1, v2, rfl, h1, h2, hb⟩
  obtain ⟨A1, c1, rfl⟩ := Kd.R_slice h1
  obtain ⟨A2, c2, rfl⟩ := Kd.S_slice h2
  obtain ⟨_, l1, C1⟩ := Kd.R_reads' h1
  obtain ⟨_, l2, C2⟩ := Kd.S_reads' h2
  exact ⟨A1, c1, A2, c2, rfl, ⟨l1, C1, l2, C2, Kd.C_below hL hb⟩, ((Below.refl _ _).alloc (Nat.le_refl _) _).trans (hb.mono (by simp))⟩
theorem putC (g : Nat) (W : World) (hr : Kd.C k63 W (some ⟨g, 0, none⟩) 3 lOps) : Calls Tryz.prog 22 #[.slice (some ⟨g, 0, none⟩) 3 3] W fun e w' => ∃ A c, e = .returned (.slice A bL.length c) ∧ (bL.length ≤ c ∧ Kd.C (Kd.int .u8) w' A bL.length bL) ∧ Below W.heap.size W w' := by
  refine (txn_Put.calls _ 3 lOps _ _ hr (by decide) live_put).mono ?_
  rintro e w' ⟨v1, rfl, h1, hb⟩
  obtain ⟨A1, c1, rfl, l1, C1⟩ := Kd.R_reads h1
  exact ⟨A1, c1, rfl, ⟨l1, C1⟩, hb⟩
theorem parseC (A : Option Addr) (c : Nat) (W : World) (hc : bL.length ≤ c) (hr : Kd.C (Kd.int .u8) W A bL.length bL) : Calls Tryz.prog 15 #[.slice A bL.length c] W fun e w' => ∃ A' c', e = .returned (.tuple #[.slice A' 3 c', .int .i64 0]) ∧ (3 ≤ c' ∧ Kd.C k63 w' A' 3 lOps) ∧ Below W.heap.size W w' := by
  refine (txn_Parse.calls A c bL lOps 0 _ hr hc live_parse).mono ?_
  rintro e w' ⟨v1, rfl, h1, hb⟩
  obtain ⟨A1, c1, rfl, l1, C1⟩ := Kd.R_reads h1
  exact ⟨A1, c1, rfl, ⟨l1, C1⟩, hb⟩
theorem chkC (g : Nat) (W : World) (hr : Kd.C k63 W (some ⟨g, 0, none⟩) 3 lOps) : Calls Tryz.prog 18 #[.slice (some ⟨g, 0, none⟩) 3 3] W fun e w' => e = .returned (.int .i64 0) ∧ Below W.heap.size W w' :=
  txn_Check.calls _ 3 lOps _ _ hr (by decide) live_chk
theorem chkN (W : World) : Calls Tryz.prog 18 #[.slice none 0 0] W fun e w' => e = .returned (.int .i64 80) ∧ Below W.heap.size W w' :=
  txn_Check.calls none 0 [] _ _ (Kd.C_nil _ _) (by decide) live_nil
theorem wsC (A : Option Addr) (c : Nat) (W : World) (hc : vW.length ≤ c) (hr : Kd.C k69 W A vW.length vW) : Calls Tryz.prog 29 #[.slice A vW.length c, .slice (some ⟨W.heap.size, 0, none⟩) 2 2] (W.alloc (.cells #[.string ⟨#[97]⟩, .int .u64 (rOfN 2), .bool false, .string ⟨#[98]⟩, .int .u64 (rOfN 3), .bool false] 69)) fun e w' => e = .returned (.bool true) ∧ Below W.heap.size W w' := by
  have hL := C_lWs (W.alloc (.cells #[.string sa, .int .u64 (rOfN 2), .bool false, .string sb, .int .u64 (rOfN 3), .bool false] 69)) W.heap.size (Blk.new W 69 _)
  exact (folkmootref08_WritesSame.calls 9 A c vW _ 2 lWs true _ (Kd.C_alloc hr _) hc hL (by decide) live_ws).mono fun e w' ⟨he, hd⟩ => ⟨he, ((Below.refl _ _).alloc (Nat.le_refl _) _).trans (hd.below.mono (by simp))⟩
theorem ansC (A : Option Addr) (c : Nat) (W : World) (hc : vA.length ≤ c) (hr : Kd.C k65 W A vA.length vA) : Calls Tryz.prog 30 #[.slice A vA.length c, .slice (some ⟨W.heap.size, 0, none⟩) 3 3] (W.alloc (.cells #[.bool false, .int .u64 (rOfN 5), .slice none 0 0, .bool true, .int .u64 0, .slice none 0 0, .bool true, .int .u64 (rOfN 3), .slice none 0 0] 65)) fun e w' => e = .returned (.bool true) ∧ Below W.heap.size W w' := by
  have hL := C_lAs (W.alloc (.cells #[.bool false, .int .u64 (rOfN 5), .slice none 0 0, .bool true, .int .u64 0, .slice none 0 0, .bool true, .int .u64 (rOfN 3), .slice none 0 0] 65)) W.heap.size (Blk.new W 65 _)
  exact (folkmootref08_Answers.calls 9 A c vA _ 3 lAs true _ (Kd.C_alloc hr _) hc hL (by decide) live_as).mono fun e w' ⟨he, hd⟩ => ⟨he, ((Below.refl _ _).alloc (Nat.le_refl _) _).trans (hd.mono (by simp))⟩
theorem opsC (A : Option Addr) (c g : Nat) (W : World) (hc : 3 ≤ c) (hr : Kd.C k63 W A 3 lOps) (hr' : Kd.C k63 W (some ⟨g, 0, none⟩) 3 lOps) : Calls Tryz.prog 21 #[.slice A 3 c, .slice (some ⟨g, 0, none⟩) 3 3] W fun e w' => e = .returned (.bool true) ∧ Below W.heap.size W w' :=
  (folkmootref08_Ops.calls 9 A c lOps _ 3 lOps true _ hr hc hr' (by decide) live_ops).mono fun e w' ⟨he, hd⟩ => ⟨he, hd.below⟩
def folkmootlaw08_live.f : Option Bool := some true
set_option maxHeartbeats 8000000 in
set_option maxRecDepth 100000 in
theorem folkmootlaw08_live.calls (r : Bool) (w : World) (h : folkmootlaw08_live.f = some r) : Calls Tryz.prog 14 #[] w fun e w' => e = .returned (.bool r) ∧ Below w.heap.size w w' := by
  injection h with h
  subst h
  have HO := Lib.hid (fun (a : Int) (W : World) => folkmootref07_Of.calls a _ W rfl)
  have HN := Lib.hid (fun (a : Int) (W : World) => folkmootlaw08_num.calls a _ W rfl)
  have H0 := Lib.hid (Below.refl w.heap.size w)
  go_enter Tryz.func14, Tryz.ntmps14
  go_wp2_with fail
  refine (HO.out 5 _).mono ?_
  rintro e w1 ⟨rfl, hb⟩
  have H1 := Lib.hid (hb.below); clear hb
  go_wp2_with fail
  refine (HO.out 3 _).mono ?_
  rintro e w2 ⟨rfl, hb⟩
  have H2 := Lib.hid (hb.below); clear hb
  go_wp2_with fail
  refine (evC _).mono ?_
  rintro e w3 ⟨A1, c1, A2, c2, rfl, he_, hb⟩
  have H3 := Lib.hid (hb); clear hb
  have HE := Lib.hid he_; clear he_
  go_wp2_with fail
  refine (putC _ _ (HE.out.2.2.2.2)).mono ?_
  rintro e w4 ⟨A3, c3, rfl, hp_, hb⟩
  have H4 := Lib.hid (hb); clear hb
  have HP := Lib.hid hp_; clear hp_
  go_wp2_with fail
  refine (parseC A3 c3 _ HP.out.1 HP.out.2).mono ?_
  rintro e w5 ⟨A4, c4, rfl, hq_, hb⟩
  have H5 := Lib.hid (hb); clear hb
  have HQ := Lib.hid hq_; clear hq_
  go_wp2_with fail
  refine (chkC _ _ (Kd.C_below (Kd.C_below (HE.out.2.2.2.2) H4.out) H5.out)).mono ?_
  rintro e w6 ⟨rfl, hb⟩
  have H6 := Lib.hid (hb); clear hb
  go_wp2_with fail
  refine (HN.out 0 _).mono ?_
  rintro e w7 ⟨rfl, hb⟩
  have H7 := Lib.hid (hb.below); clear hb
  go_wp2_with fail
  refine (HO.out 2 _).mono ?_
  rintro e w8 ⟨rfl, hb⟩
  have H8 := Lib.hid (hb.below); clear hb
  go_wp2_with fail
  refine (HO.out 3 _).mono ?_
  rintro e w9 ⟨rfl, hb⟩
  have H9 := Lib.hid (hb.below); clear hb
  go_wp2_with fail
  refine (wsC A1 c1 _ HE.out.1 (Kd.C_below (Kd.C_below (Kd.C_below (Kd.C_below (Kd.C_below (Kd.C_below (HE.out.2.1) H4.out) H5.out) H6.out) H7.out) H8.out) H9.out)).mono ?_
  rintro e w10 ⟨rfl, hb⟩
  have H10 := Lib.hid (hb); clear hb
  go_wp2_with fail
  refine (HO.out 5 _).mono ?_
  rintro e w11 ⟨rfl, hb⟩
  have H11 := Lib.hid (hb.below); clear hb
  go_wp2_with fail
  refine (HO.out 3 _).mono ?_
  rintro e w12 ⟨rfl, hb⟩
  have H12 := Lib.hid (hb.below); clear hb
  go_wp2_with fail
  refine (ansC A2 c2 _ HE.out.2.2.1 (Kd.C_below (Kd.C_below (Kd.C_below (Kd.C_below (Kd.C_below (Kd.C_below (Kd.C_below (Kd.C_below (Kd.C_below (HE.out.2.2.2.1) H4.out) H5.out) H6.out) H7.out) H8.out) H9.out) H10.out) H11.out) H12.out)).mono ?_
  rintro e w13 ⟨rfl, hb⟩
  have H13 := Lib.hid (hb); clear hb
  go_wp2_with fail
  refine (HN.out 0 _).mono ?_
  rintro e w14 ⟨rfl, hb⟩
  have H14 := Lib.hid (hb.below); clear hb
  go_wp2_with fail
  refine (opsC A4 c4 _ _ HQ.out.1 (Kd.C_below (Kd.C_below (Kd.C_below (Kd.C_below (Kd.C_below (Kd.C_below (Kd.C_below (Kd.C_below (Kd.C_below (HQ.out.2) H6.out) H7.out) H8.out) H9.out) H10.out) H11.out) H12.out) H13.out) H14.out) (Kd.C_below (Kd.C_below (Kd.C_below (Kd.C_below (Kd.C_below (Kd.C_below (Kd.C_below (Kd.C_below (Kd.C_below (Kd.C_below (Kd.C_below (HE.out.2.2.2.2) H4.out) H5.out) H6.out) H7.out) H8.out) H9.out) H10.out) H11.out) H12.out) H13.out) H14.out)).mono ?_
  rintro e w15 ⟨rfl, hb⟩
  have H15 := Lib.hid (hb); clear hb
  go_wp2_with fail
  refine (chkN _).mono ?_
  rintro e w16 ⟨rfl, hb⟩
  have H16 := Lib.hid (hb); clear hb
  go_wp2_with fail
  refine (HN.out 80 _).mono ?_
  rintro e w17 ⟨rfl, hb⟩
  have H17 := Lib.hid (hb.below); clear hb
  go_wp2_with fail
  go_ret
  have X0 := H0.out
  have X1 := X0.trans (H1.out.mono X0.size)
  have X2 := X1.trans (H2.out.mono X1.size)
  have X3 := X2.trans (H3.out.mono X2.size)
  have X4 := X3.trans (H4.out.mono X3.size)
  have X5 := X4.trans (H5.out.mono X4.size)
  have X6 := X5.trans (H6.out.mono X5.size)
  have X7 := X6.trans (H7.out.mono X6.size)
  have X8 := X7.trans (H8.out.mono X7.size)
  have X9 := X8.trans (H9.out.mono X8.size)
  have X10 := X9.trans (H10.out.mono X9.size)
  have X11 := X10.trans (H11.out.mono X10.size)
  have X12 := X11.trans (H12.out.mono X11.size)
  have X13 := X12.trans (H13.out.mono X12.size)
  have X14 := X13.trans (H14.out.mono X13.size)
  have X15 := X14.trans (H15.out.mono X14.size)
  have X16 := X15.trans (H16.out.mono X15.size)
  have X17 := X16.trans (H17.out.mono X16.size)
  exact ⟨rfl, X17⟩
end Go.Proofs.YtgmlenpcchhmbaaGreat.P
end
section
set_option linter.unusedVariables false
set_option linter.unusedSimpArgs false
namespace Go.Proofs.YtgmlenpcchhmbaaGreat.P
open Go.RowKit Go.Proofs.YtgmlenpcchhmbaaGreatW.PrintWords Go.Proofs.YtgmlenpcchhmbaaGreatW.PrintLast Go.Proofs.YtgmlenpcchhmbaaGreatW.PrintMore
instance {V : Type} (l : List (ByteArray × V)) : Decidable (SortK l) := inferInstanceAs (Decidable (List.Pairwise _ _))
end Go.Proofs.YtgmlenpcchhmbaaGreat.P
end
section
set_option linter.unusedVariables false
set_option linter.unusedSimpArgs false
namespace Go.Proofs.YtgmlenpcchhmbaaGreat.P
open Go.RowKit Go.Proofs.YtgmlenpcchhmbaaGreatW.PrintWords Go.Proofs.YtgmlenpcchhmbaaGreatW.PrintLast
theorem ev_live : Ev (fun _ => (folkmootlaw08_live.f).bind fun t => (some t)) true := Ev.some _
structure TxIn (l : List S63) (d : List S61) : Prop where
  len : l.length ≤ 8
  ops : ∀ o ∈ l, isT o = true
  dl : d.length ≤ 60
  dt : dataT d
theorem isT_key {o : S63} (h : isT o = true) : o.f1.size ≤ 16 ∧ o.f2.size ≤ 16 := by
  have hk : ∀ {k : ByteArray}, keyT k = true → k.size ≤ 16 := fun h => by
    unfold keyT at h
    simp only [Bool.and_eq_true, decide_eq_true_eq] at h
    exact h.2
  have he : emptyB.size ≤ 16 := by decide
  unfold isT at h
  simp only [Bool.and_eq_true] at h
  refine ⟨hk h.1.1, ?_⟩
  have h2 := h.2
  split at h2
  · simp only [Bool.and_eq_true, decide_eq_true_eq] at h2; rw [h2.1]; exact he
  · split at h2
    · simp only [decide_eq_true_eq] at h2; rw [h2]; exact he
    · split at h2
      · simp only [Bool.and_eq_true, Bool.or_eq_true, decide_eq_true_eq] at h2
        rcases h2.2 with e | e
        · rw [e]; exact he
        · exact hk e.1
      · split at h2
        · simp only [Bool.and_eq_true] at h2; exact hk h2.1
        · cases h2
theorem chk_of {l : List S63} (h : checkT l = 0) : l.length ≤ 8 ∧ ∀ o ∈ l, isT o = true := by
  unfold checkT at h
  split at h
  · omega
  · rename_i h1
    split at h
    · omega
    · rename_i h2
      refine ⟨by omega, fun o ho => ?_⟩
      by_cases h3 : isT o = true
      · exact h3
      · exact absurd (.inr (List.any_eq_true.2 ⟨o, ho, by simpa using h3⟩)) h2
end Go.Proofs.YtgmlenpcchhmbaaGreat.P
end
section
set_option linter.unusedVariables false
set_option linter.unusedSimpArgs false
namespace Go.Proofs.YtgmlenpcchhmbaaGreat.P
open Go.RowKit Go.Proofs.YtgmlenpcchhmbaaGreatW.PrintWords Go.Proofs.YtgmlenpcchhmbaaGreatW.PrintLast Go.Proofs.YtgmlenpcchhmbaaGreatW.PrintMore
attribute [local go_sem] max2_int min2_int max_two min_two max_three min_three max_four min_four   -- for this text's walks alone
def txn_set.l0 : Nat → List Int → List (S71) → List (S63) → Int → Int → Option ((List (S71)))
 | 0, _, _, _, _, _ => none
 | k + 1, x1, x5, x8, x9, x10 => if x10 < x9 then (if 0 ≤ x10 then (if x10 < (x8.length : Int) then ((slices_Contains_int_int.f k x1 ((rd_T63 x8 x10).f0)).bind fun t709 => (if t709 = true then (if ((rd_T63 x8 x10).f0) = 2 then (if x5.length < 4398046511104 then (txn_set.l0 k x1 (x5 ++ [(⟨(rd_T63 x8 x10).f1, (rd_T63 x8 x10).f2⟩ : S71)]) x8 x9 (wrap64 (x10 + 1))) else (none)) else (if ((rd_T63 x8 x10).f0) = 6 then ((span_Point.f ((rd_T63 x8 x10).f1)).bind fun bt713 => ((span_Point.f ((rd_T63 x8 x10).f2)).bind fun bt715 => ((some (([(⟨bt713.1, bt713.2⟩ : S71), (⟨bt715.1, bt715.2⟩ : S71)] : List (S71)) : List (S71))).bind fun y717 => (if x5.length + y717.length < 4398046511104 then (txn_set.l0 k x1 (x5 ++ y717) x8 x9 (wrap64 (x10 + 1))) else (none))))) else ((span_Point.f ((rd_T63 x8 x10).f1)).bind fun bt723 => (if x5.length < 4398046511104 then (txn_set.l0 k x1 (x5 ++ [(⟨bt723.1, bt723.2⟩ : S71)]) x8 x9 (wrap64 (x10 + 1))) else (none))))) else (txn_set.l0 k x1 x5 x8 x9 (wrap64 (x10 + 1))))) else (none)) else (none)) else ((span_Union.f x5).bind fun t704 => (some t704))
def txn_set.f (k : Nat) (l0 : List (S63)) (l1 : List Int) : Option ((List (S71))) := txn_set.l0 k l1 ([] : List (S71)) l0 (l0.length : Int) 0
def txn_set.T10 : Bool × List (List Nat × List Nat) := (true, [([], []), ([], []), ([1], [1]), ([2], [2]), ([], []), ([4], [4]), ([5, 3], [5]), ([3, 6], [3, 6]), ([0, 7, 6], [0, 7]), ([8, 8, 0, 1, 2, 3, 4, 5, 6, 7, 8], [0, 8])])
def txn_set.B10 : List Nat := [0, 0, 2, 6, 0, 16, 62, 126, 255, 511]
theorem txn_set.tab10 : rtab .any (opsOf Tryz.f86 10) = txn_set.T10 := by kernel_rfl
theorem txn_set.bits10 : waitsOk txn_set.T10.2 txn_set.B10 = true := by kernel_rfl
set_option maxHeartbeats 8000000 in
set_option maxRecDepth 100000 in
theorem txn_set.calls (k : Nat) (A0 : Option Addr) (c0 : Nat) (l0 : List (S63)) (A1 : Option Addr) (c1 : Nat) (l1 : List Int) (r : List (S71)) (w : World) (hr0 : Kd.C k63 w A0 l0.length l0) (hc0 : l0.length ≤ c0) (hr1 : Kd.C (Kd.int .i64) w A1 l1.length l1) (hc1 : l1.length ≤ c1) (h : txn_set.f k l0 l1 = some r) :
  Calls Tryz.prog 86 #[.slice A0 l0.length c0, .slice A1 l1.length c1] w fun e w' => ∃ v0_ : Value, e = .returned (v0_) ∧ Kd.R k71 71 w' w.heap.size (fun _ => True) v0_ r ∧ Below w.heap.size w w' := by
 have hu63 := Tryz.underlying63;have hu71 := Tryz.underlying71
 have HR0 := Aside0.mk hr0
 have HC0 := Aside0.mk hc0
 clear hr0 hc0
 have HR1 := Aside0.mk hr1
 have HC1 := Aside0.mk hc1
 clear hr1 hc1
 have HB := Aside0.mk (Below.refl w.heap.size w)
 have H : (txn_set.l0 k l1 ([] : List (S71)) l0 (l0.length : Int) 0) = some r := h
 clear h
 have H' := Aside0.mk H
 clear H
 go_enter Tryz.func86, Tryz.ntmps86
 go_wp2
 go_loopg [5, 10] k (fun kq v5 v10 w' => ∃ (x5_1 : List (S71)) (x10_1 : Int), v10 = .int .i64 x10_1 ∧ Aside0 (txn_set.l0 kq l1 x5_1 l0 (l0.length : Int) x10_1 = some r) ∧ Aside0 (kq ≤ k) ∧ Aside0 (Kd.R k71 71 w' w.heap.size (fun _ => True) v5 x5_1) ∧ Aside0 (Below w.heap.size w w'))
 case atStart => exact ⟨(([] : List (S71))), (0), (by first | rfl | (rw [bl_gt] <;> rfl) | (simp; done) | (simp [*]; done)), H', ⟨Nat.le_refl _⟩, ⟨by first | exact Kd.R_nil _ _ _ _ _ | exact Kd.N_nil _ _ _ _ _ | exact Kd.V_nil _ _ _ _ _ | exact Kd.Q_nil _ _ _ _ _ | exact Kd.S_nil _ _ _ _ _⟩, ⟨bB_⟩⟩
 case round =>
  clear H'
  try clear c1
  try clear p2
  obtain ⟨x5_1, x10_1, rfl, HA, HK1, HO_5, HB⟩ := hrel
  cases gk with
  | zero => exact absurd HA.out (by simp [txn_set.l0])
  | succ k1 =>
   have H := HA.out;clear HA
   simp only [txn_set.l0] at H
   by_cases c3 : x10_1 < (l0.length : Int)
   ·rw [if_pos c3] at H
    have c3b0 : decide (x10_1 < (l0.length : Int)) = true := decide_eq_true c3
    clear c3
    by_cases c4 : 0 ≤ x10_1
    ·rw [if_pos c4] at H
     have c4b0 : decide (0 ≤ x10_1) = true := decide_eq_true c4
     clear c4
     by_cases c5 : x10_1 < (l0.length : Int)
     ·rw [if_pos c5] at H
      have c5b0 : decide (x10_1 < (l0.length : Int)) = true := decide_eq_true c5
      clear c5
      replace H := Option.bind_eq_some_iff.mp H
      obtain ⟨t709, A60, H⟩ := H
      replace H : (if t709 = true then (if ((rd_T63 l0 x10_1).f0) = 2 then (if x5_1.length < 4398046511104 then (txn_set.l0 k1 l1 (x5_1 ++ [(⟨(rd_T63 l0 x10_1).f1, (rd_T63 l0 x10_1).f2⟩ : S71)]) l0 (l0.length : Int) (wrap64 (x10_1 + 1))) else (none)) else (if ((rd_T63 l0 x10_1).f0) = 6 then ((span_Point.f ((rd_T63 l0 x10_1).f1)).bind fun bt713 => ((span_Point.f ((rd_T63 l0 x10_1).f2)).bind fun bt715 => ((some (([(⟨bt713.1, bt713.2⟩ : S71), (⟨bt715.1, bt715.2⟩ : S71)] : List (S71)) : List (S71))).bind fun y717 => (if x5_1.length + y717.length < 4398046511104 then (txn_set.l0 k1 l1 (x5_1 ++ y717) l0 (l0.length : Int) (wrap64 (x10_1 + 1))) else (none))))) else ((span_Point.f ((rd_T63 l0 x10_1).f1)).bind fun bt723 => (if x5_1.length < 4398046511104 then (txn_set.l0 k1 l1 (x5_1 ++ [(⟨bt723.1, bt723.2⟩ : S71)]) l0 (l0.length : Int) (wrap64 (x10_1 + 1))) else (none))))) else (txn_set.l0 k1 l1 x5_1 l0 (l0.length : Int) (wrap64 (x10_1 + 1)))) = some r := H
      have A6 := Aside0.mk A60
      clear A60
      by_cases c7 : t709 = true
      ·subst c7
       have H1 : (if ((rd_T63 l0 x10_1).f0) = 2 then (if x5_1.length < 4398046511104 then (txn_set.l0 k1 l1 (x5_1 ++ [(⟨(rd_T63 l0 x10_1).f1, (rd_T63 l0 x10_1).f2⟩ : S71)]) l0 (l0.length : Int) (wrap64 (x10_1 + 1))) else (none)) else (if ((rd_T63 l0 x10_1).f0) = 6 then ((span_Point.f ((rd_T63 l0 x10_1).f1)).bind fun bt713 => ((span_Point.f ((rd_T63 l0 x10_1).f2)).bind fun bt715 => ((some (([(⟨bt713.1, bt713.2⟩ : S71), (⟨bt715.1, bt715.2⟩ : S71)] : List (S71)) : List (S71))).bind fun y717 => (if x5_1.length + y717.length < 4398046511104 then (txn_set.l0 k1 l1 (x5_1 ++ y717) l0 (l0.length : Int) (wrap64 (x10_1 + 1))) else (none))))) else ((span_Point.f ((rd_T63 l0 x10_1).f1)).bind fun bt723 => (if x5_1.length < 4398046511104 then (txn_set.l0 k1 l1 (x5_1 ++ [(⟨bt723.1, bt723.2⟩ : S71)]) l0 (l0.length : Int) (wrap64 (x10_1 + 1))) else (none))))) = some r := by rw [if_pos rfl] at H; exact H
       clear H;have H := H1;clear H1
       by_cases c8 : ((rd_T63 l0 x10_1).f0) = 2
       ·rw [if_pos c8] at H
        have c8b0 : (((rd_T63 l0 x10_1).f0) == 2) = true := beq_iff_eq.mpr c8
        have c8b1 : (((rd_T63 l0 x10_1).f0) != 2) = false := bne_eq_false_iff_eq.mpr c8
        clear c8
        by_cases c9 : x5_1.length < 4398046511104
        ·rw [if_pos c9] at H
         have LMc9 := Aside0.mk c9
         clear c9
         obtain ⟨y710, hy710⟩ : ∃ y_ : List (S71), y_ = (x5_1 ++ [(⟨(rd_T63 l0 x10_1).f1, (rd_T63 l0 x10_1).f2⟩ : S71)]) := ⟨_, rfl⟩
         replace H : (txn_set.l0 k1 l1 y710 l0 (l0.length : Int) (wrap64 (x10_1 + 1))) = some r := by first | (rw [hy710]; with_reducible exact H) | (have H2_ := (Option.bind_some _ _).symm.trans H; rw [hy710]; with_reducible exact H2_) | (have H2_ := (Option.bind_some _ _).symm.trans H; with_reducible exact H2_) | with_reducible exact H | (rw [hy710]; exact H) | exact H
         have Ny710 := Aside0.mk hy710
         clear hy710
         have H' := Aside0.mk H
         clear H
         have p707 : 0 ≤ (x10_1 : Int) := of_decide_eq_true (by first | (with_reducible assumption) | assumption)
         have q707 : x10_1 < (l0.length : Int) := of_decide_eq_true (by first | (with_reducible assumption) | assumption)
         obtain ⟨ad707, e707, hx707_0, hx707_1, hx707_2, hx707_3⟩ := at_T63 HR0.out x10_1 p707 q707
         cases e707
         replace hx707_0 := (HB.out.cell (World.block_lt_of_cell? w _ hx707_0)).trans hx707_0
         replace hx707_1 := (HB.out.cell (World.block_lt_of_cell? w _ hx707_1)).trans hx707_1
         replace hx707_2 := (HB.out.cell (World.block_lt_of_cell? w _ hx707_2)).trans hx707_2
         replace hx707_3 := (HB.out.cell (World.block_lt_of_cell? w _ hx707_3)).trans hx707_3
         replace p707 := eq_true p707
         replace q707 := eq_true q707
         go_wp2_with (first | ((with_reducible refine gate_dst (N := 7) rfl ?_); refine box_event ?hg (N := 7) ?hd (cs := #[.int .i64 0, .string (⟨#[]⟩ : ByteArray), .string (⟨#[]⟩ : ByteArray), .int .u64 0]) (t := 63) ?hr ?_; (case hd => rfl); (case hg => rfl); (case hr => first | (go_simp; done) | (go_simp; rfl)); intro gb708 hg w10 hbox hb; have n0_ := Aside0.mk (Kd.R_below (rR_ HO_5.out) hb); have n1_ := Aside0.mk (below_step bB_ hb); have n2_ := Aside0.mk (hbox); have n3_ := Aside0.mk ((by rw [hg]; exact (below_size bB_) : w.heap.size ≤ gb708)); have n4_ := Aside0.mk ((by rw [hg]; exact (below_size bB_) : w.heap.size ≤ gb708)); clear HO_5; clear HB; have HO_5 := n0_; have HB := n1_; have BK708 := n2_; have GW708 := n3_; have GE708 := n4_; clear n0_ n1_ n2_ n3_ n4_; clear hb hbox hg; have hcz11_0 : w10.cell? ⟨gb708, 0, none⟩ = some (.int .i64 0) := (blk_cell BK708.out 0).trans rfl; have hcz11_1 : w10.cell? ⟨gb708, 1, none⟩ = some (.string (⟨#[]⟩ : ByteArray)) := (blk_cell BK708.out 1).trans rfl; have hcz11_2 : w10.cell? ⟨gb708, 2, none⟩ = some (.string (⟨#[]⟩ : ByteArray)) := (blk_cell BK708.out 2).trans rfl; have hcz11_3 : w10.cell? ⟨gb708, 3, none⟩ = some (.int .u64 0) := (blk_cell BK708.out 3).trans rfl; have hfz11_0 := blk_frozen BK708.out 0; have hfz11_1 := blk_frozen BK708.out 1; have hfz11_2 := blk_frozen BK708.out 2; have hfz11_3 := blk_frozen BK708.out 3) | ((with_reducible refine gate_callee (f := 129) rfl ?_); refine goesL_ (some 24) rfl rfl Tryz.func129 (by kernel_rfl) rfl #[.slice A1 l1.length c1, .int .i64 ((rd_T63 l0 x10_1).f0)] rfl (by (try simp only [List.map_toArray, List.map_cons, List.map_nil]); first | done | rfl | (simp only [List.length_drop, List.length_take]; rfl)) ?_; (with_reducible refine (slices_Contains_int_int.calls k1 _ _ l1 ((rd_T63 l0 x10_1).f0) true _ ?side1 ?side2 A6.out).mono ?_); (case side1 => exact Kd.C_below HR1.out (by repeat (first | (with_reducible first | exact HB.out | apply below_alloc | apply pw_below_drewN | apply below_drew1 | refine below_set ?_ GE708.out) | exact HB.out))); (case side2 => exact HC1.out); rintro e w' ⟨rfl, ⟨nd, rfl⟩⟩; refine ⟨_, rfl, ?_⟩) | ((with_reducible refine gate_builtin (b := .append) (xs := #[.tmp 30, .tmp 36]) rfl ?_); at_builtin; refine Kd.R_append k71 (w0 := w) w.heap.size rfl (.tmp 30) (.tmp 36) 40 71 (.agg #[(.string ⟨#[]⟩), (.string ⟨#[]⟩)]) 32 rfl Tryz.underlying40 info71 rfl (by decide) (by omega) u5 x5_1 (⟨(rd_T63 l0 x10_1).f1, (rd_T63 l0 x10_1).f2⟩ : S71) [.string ((rd_T63 l0 x10_1).f1), .string ((rd_T63 l0 x10_1).f2)] (fun _ => True) (fun _ => False) rfl (by first | (go_simp; done) | (go_simp; rfl)) ?aP (fun _ hk => hk.elim) ?aF ?aO ?aB ?aS ?aL ?_; (case aP => exact k71_mkM _ _ _ (⟨(rd_T63 l0 x10_1).f1, (rd_T63 l0 x10_1).f2⟩ : S71)); (case aB => exact (by repeat (first | (with_reducible first | exact HB.out | apply below_alloc | apply pw_below_drewN | apply below_drew1 | refine below_set ?_ GE708.out) | exact HB.out))); (case aF => exact (fun _ _ => trivial)); (case aO => exact (by (with_reducible repeat (first | apply Kd.R_alloc | apply Kd.R_drewN | apply Kd.R_drew)); exact Kd.R_mono (Kd.R_far (p := ⟨gb708, 3, none⟩) (Kd.R_far (p := ⟨gb708, 2, none⟩) (Kd.R_far (p := ⟨gb708, 1, none⟩) (Kd.R_far (p := ⟨gb708, 0, none⟩) (Kd.R_types HO_5.out BK708.out (by decide)) (fun _ hk => hk.2) (.int .i64 ((rd_T63 l0 x10_1).f0))) (fun _ hk => hk.2) (.string ((rd_T63 l0 x10_1).f1))) (fun _ hk => hk.2) (.string ((rd_T63 l0 x10_1).f2))) (fun _ hk => hk.2) (.int .u64 ((rd_T63 l0 x10_1).f3))) (fun _ hk => trivial))); (case aS => exact (below_size (by repeat (first | (with_reducible first | exact HB.out | apply below_alloc | apply pw_below_drewN | apply below_drew1 | refine below_set ?_ GE708.out) | exact HB.out)))); (case aL => have := LMc9.out; omega); intro v711 w12 ho hb hg hat; rw [← Ny710.out] at ho; have n0_ := Aside0.mk (blk_grown (g := gb708) (o := .cells #[.int .i64 ((rd_T63 l0 x10_1).f0), .string ((rd_T63 l0 x10_1).f1), .string ((rd_T63 l0 x10_1).f2), .int .u64 ((rd_T63 l0 x10_1).f3)] 63 (0, 0)) (by (with_reducible repeat (first | refine blk_drewN ?_ _ | refine blk_drew ?_ | refine blk_alloc ?_ _)); refine blk_put (cs := #[.int .i64 ((rd_T63 l0 x10_1).f0), .string ((rd_T63 l0 x10_1).f1), .string ((rd_T63 l0 x10_1).f2), .int .u64 0]) ?_ 3 _ rfl; (with_reducible repeat (first | refine blk_drewN ?_ _ | refine blk_drew ?_ | refine blk_alloc ?_ _)); refine blk_put (cs := #[.int .i64 ((rd_T63 l0 x10_1).f0), .string ((rd_T63 l0 x10_1).f1), .string (⟨#[]⟩ : ByteArray), .int .u64 0]) ?_ 2 _ rfl; (with_reducible repeat (first | refine blk_drewN ?_ _ | refine blk_drew ?_ | refine blk_alloc ?_ _)); refine blk_put (cs := #[.int .i64 ((rd_T63 l0 x10_1).f0), .string (⟨#[]⟩ : ByteArray), .string (⟨#[]⟩ : ByteArray), .int .u64 0]) ?_ 1 _ rfl; (with_reducible repeat (first | refine blk_drewN ?_ _ | refine blk_drew ?_ | refine blk_alloc ?_ _)); refine blk_put (cs := #[.int .i64 0, .string (⟨#[]⟩ : ByteArray), .string (⟨#[]⟩ : ByteArray), .int .u64 0]) ?_ 0 _ rfl; (with_reducible repeat (first | refine blk_drewN ?_ _ | refine blk_drew ?_ | refine blk_alloc ?_ _)); exact BK708.out) hg (Kd.R_ne HO_5.out BK708.out (by decide))); have n1_ := Aside0.mk (hb); have n2_ := Aside0.mk (ho); clear BK708; clear HB; clear HO_5; have BK708 := n0_; have HB := n1_; have HO712 := n2_; clear n0_ n1_ n2_; clear ho hb hg hat))
         go_roundg k1
         case measure => have := HK1.out; omega
         case rel => exact ⟨(y710), (wrap64 (x10_1 + 1)), (by first | rfl | (rw [bl_gt] <;> rfl) | (simp; done) | (simp [*]; done)), H', ⟨by have := HK1.out; omega⟩, ⟨rR_ HO712.out⟩, ⟨by repeat (first | (with_reducible first | exact HB.out | apply below_alloc | apply pw_below_drewN | apply below_drew1 | refine below_set ?_ GE708.out) | exact HB.out)⟩⟩
        ·rw [if_neg c9] at H
         exact absurd H (by simp)
       ·rw [if_neg c8] at H
        have c8b0 : (((rd_T63 l0 x10_1).f0) == 2) = false := beq_eq_false_iff_ne.mpr c8
        have c8b1 : (((rd_T63 l0 x10_1).f0) != 2) = true := bne_iff_ne.mpr c8
        by_cases c13 : ((rd_T63 l0 x10_1).f0) = 6
        ·rw [if_pos c13] at H
         have c13b0 : (((rd_T63 l0 x10_1).f0) == 6) = true := beq_iff_eq.mpr c13
         have c13b1 : (((rd_T63 l0 x10_1).f0) != 6) = false := bne_eq_false_iff_eq.mpr c13
         clear c13
         replace H := Option.bind_eq_some_iff.mp H
         obtain ⟨⟨t713, t714⟩, A140, H⟩ := H
         replace H : ((span_Point.f ((rd_T63 l0 x10_1).f2)).bind fun bt715 => ((some (([(⟨t713, t714⟩ : S71), (⟨bt715.1, bt715.2⟩ : S71)] : List (S71)) : List (S71))).bind fun y717 => (if x5_1.length + y717.length < 4398046511104 then (txn_set.l0 k1 l1 (x5_1 ++ y717) l0 (l0.length : Int) (wrap64 (x10_1 + 1))) else (none)))) = some r := H
         have A14 := Aside0.mk A140
         clear A140
         replace H := Option.bind_eq_some_iff.mp H
         obtain ⟨⟨t715, t716⟩, A150, H⟩ := H
         replace H : ((some (([(⟨t713, t714⟩ : S71), (⟨t715, t716⟩ : S71)] : List (S71)) : List (S71))).bind fun y717 => (if x5_1.length + y717.length < 4398046511104 then (txn_set.l0 k1 l1 (x5_1 ++ y717) l0 (l0.length : Int) (wrap64 (x10_1 + 1))) else (none))) = some r := H
         have A15 := Aside0.mk A150
         clear A150
         obtain ⟨y717, hy717⟩ : ∃ y_ : List (S71), y_ = (([(⟨t713, t714⟩ : S71), (⟨t715, t716⟩ : S71)] : List (S71))) := ⟨_, rfl⟩
         replace H : (if x5_1.length + y717.length < 4398046511104 then (txn_set.l0 k1 l1 (x5_1 ++ y717) l0 (l0.length : Int) (wrap64 (x10_1 + 1))) else (none)) = some r := by first | (rw [hy717]; with_reducible exact H) | (have H2_ := (Option.bind_some _ _).symm.trans H; rw [hy717]; with_reducible exact H2_) | (have H2_ := (Option.bind_some _ _).symm.trans H; with_reducible exact H2_) | with_reducible exact H | (rw [hy717]; exact H) | exact H
         have Ny717 := Aside0.mk hy717
         clear hy717
         by_cases c16 : x5_1.length + y717.length < 4398046511104
         ·rw [if_pos c16] at H
          have LMc16 := Aside0.mk c16
          clear c16
          obtain ⟨y720, hy720⟩ : ∃ y_ : List (S71), y_ = (x5_1 ++ y717) := ⟨_, rfl⟩
          replace H : (txn_set.l0 k1 l1 y720 l0 (l0.length : Int) (wrap64 (x10_1 + 1))) = some r := by first | (rw [hy720]; with_reducible exact H) | (have H2_ := (Option.bind_some _ _).symm.trans H; rw [hy720]; with_reducible exact H2_) | (have H2_ := (Option.bind_some _ _).symm.trans H; with_reducible exact H2_) | with_reducible exact H | (rw [hy720]; exact H) | exact H
          have Ny720 := Aside0.mk hy720
          clear hy720
          have H' := Aside0.mk H
          clear H
          have p707 : 0 ≤ (x10_1 : Int) := of_decide_eq_true (by first | (with_reducible assumption) | assumption)
          have q707 : x10_1 < (l0.length : Int) := of_decide_eq_true (by first | (with_reducible assumption) | assumption)
          obtain ⟨ad707, e707, hx707_0, hx707_1, hx707_2, hx707_3⟩ := at_T63 HR0.out x10_1 p707 q707
          cases e707
          replace hx707_0 := (HB.out.cell (World.block_lt_of_cell? w _ hx707_0)).trans hx707_0
          replace hx707_1 := (HB.out.cell (World.block_lt_of_cell? w _ hx707_1)).trans hx707_1
          replace hx707_2 := (HB.out.cell (World.block_lt_of_cell? w _ hx707_2)).trans hx707_2
          replace hx707_3 := (HB.out.cell (World.block_lt_of_cell? w _ hx707_3)).trans hx707_3
          replace p707 := eq_true p707
          replace q707 := eq_true q707
          try go_wp2_with (first | ((with_reducible refine gate_dst (N := 7) rfl ?_); refine box_event ?hg (N := 7) ?hd (cs := #[.int .i64 0, .string (⟨#[]⟩ : ByteArray), .string (⟨#[]⟩ : ByteArray), .int .u64 0]) (t := 63) ?hr ?_; (case hd => rfl); (case hg => rfl); (case hr => first | (go_simp; done) | (go_simp; rfl)); intro gb708 hg w17 hbox hb; have n0_ := Aside0.mk (Kd.R_below (rR_ HO_5.out) hb); have n1_ := Aside0.mk (below_step bB_ hb); have n2_ := Aside0.mk (hbox); have n3_ := Aside0.mk ((by rw [hg]; exact (below_size bB_) : w.heap.size ≤ gb708)); have n4_ := Aside0.mk ((by rw [hg]; exact (below_size bB_) : w.heap.size ≤ gb708)); clear HO_5; clear HB; have HO_5 := n0_; have HB := n1_; have BK708 := n2_; have GW708 := n3_; have GE708 := n4_; clear n0_ n1_ n2_ n3_ n4_; clear hb hbox hg; have hcz18_0 : w17.cell? ⟨gb708, 0, none⟩ = some (.int .i64 0) := (blk_cell BK708.out 0).trans rfl; have hcz18_1 : w17.cell? ⟨gb708, 1, none⟩ = some (.string (⟨#[]⟩ : ByteArray)) := (blk_cell BK708.out 1).trans rfl; have hcz18_2 : w17.cell? ⟨gb708, 2, none⟩ = some (.string (⟨#[]⟩ : ByteArray)) := (blk_cell BK708.out 2).trans rfl; have hcz18_3 : w17.cell? ⟨gb708, 3, none⟩ = some (.int .u64 0) := (blk_cell BK708.out 3).trans rfl; have hfz18_0 := blk_frozen BK708.out 0; have hfz18_1 := blk_frozen BK708.out 1; have hfz18_2 := blk_frozen BK708.out 2; have hfz18_3 := blk_frozen BK708.out 3) | ((with_reducible refine gate_callee (f := 129) rfl ?_); refine goesL_ (some 24) rfl rfl Tryz.func129 (by kernel_rfl) rfl #[.slice A1 l1.length c1, .int .i64 ((rd_T63 l0 x10_1).f0)] rfl (by (try simp only [List.map_toArray, List.map_cons, List.map_nil]); first | done | rfl | (simp only [List.length_drop, List.length_take]; rfl)) ?_; (with_reducible refine (slices_Contains_int_int.calls k1 _ _ l1 ((rd_T63 l0 x10_1).f0) true _ ?side1 ?side2 A6.out).mono ?_); (case side1 => exact Kd.C_below HR1.out (by repeat (first | (with_reducible first | exact HB.out | apply below_alloc | apply pw_below_drewN | apply below_drew1 | refine below_set ?_ GE708.out) | exact HB.out))); (case side2 => exact HC1.out); rintro e w' ⟨rfl, ⟨nd, rfl⟩⟩; refine ⟨_, rfl, ?_⟩))
          have n0_ : Aside0 (Kd.R k71 71 ((((w17.setCell ⟨gb708, 0, none⟩ (.int .i64 ((rd_T63 l0 x10_1).f0))).setCell ⟨gb708, 1, none⟩ (.string ((rd_T63 l0 x10_1).f1))).setCell ⟨gb708, 2, none⟩ (.string ((rd_T63 l0 x10_1).f2))).setCell ⟨gb708, 3, none⟩ (.int .u64 ((rd_T63 l0 x10_1).f3))) w.heap.size (fun _ => True) u5 x5_1) := ⟨by (with_reducible repeat (first | apply Kd.R_alloc | apply Kd.R_drewN | apply Kd.R_drew)); exact Kd.R_mono (Kd.R_far (p := ⟨gb708, 3, none⟩) (Kd.R_far (p := ⟨gb708, 2, none⟩) (Kd.R_far (p := ⟨gb708, 1, none⟩) (Kd.R_far (p := ⟨gb708, 0, none⟩) (Kd.R_types HO_5.out BK708.out (by decide)) (fun _ hk => hk.2) (.int .i64 ((rd_T63 l0 x10_1).f0))) (fun _ hk => hk.2) (.string ((rd_T63 l0 x10_1).f1))) (fun _ hk => hk.2) (.string ((rd_T63 l0 x10_1).f2))) (fun _ hk => hk.2) (.int .u64 ((rd_T63 l0 x10_1).f3))) (fun _ hk => trivial)⟩
          have n1_ : Aside0 (((((w17.setCell ⟨gb708, 0, none⟩ (.int .i64 ((rd_T63 l0 x10_1).f0))).setCell ⟨gb708, 1, none⟩ (.string ((rd_T63 l0 x10_1).f1))).setCell ⟨gb708, 2, none⟩ (.string ((rd_T63 l0 x10_1).f2))).setCell ⟨gb708, 3, none⟩ (.int .u64 ((rd_T63 l0 x10_1).f3))).heap[gb708]? = some (.cells #[.int .i64 ((rd_T63 l0 x10_1).f0), .string ((rd_T63 l0 x10_1).f1), .string ((rd_T63 l0 x10_1).f2), .int .u64 ((rd_T63 l0 x10_1).f3)] 63 (0, 0))) := ⟨by (with_reducible repeat (first | refine blk_drewN ?_ _ | refine blk_drew ?_ | refine blk_alloc ?_ _)); refine blk_put (cs := #[.int .i64 ((rd_T63 l0 x10_1).f0), .string ((rd_T63 l0 x10_1).f1), .string ((rd_T63 l0 x10_1).f2), .int .u64 0]) ?_ 3 _ rfl; (with_reducible repeat (first | refine blk_drewN ?_ _ | refine blk_drew ?_ | refine blk_alloc ?_ _)); refine blk_put (cs := #[.int .i64 ((rd_T63 l0 x10_1).f0), .string ((rd_T63 l0 x10_1).f1), .string (⟨#[]⟩ : ByteArray), .int .u64 0]) ?_ 2 _ rfl; (with_reducible repeat (first | refine blk_drewN ?_ _ | refine blk_drew ?_ | refine blk_alloc ?_ _)); refine blk_put (cs := #[.int .i64 ((rd_T63 l0 x10_1).f0), .string (⟨#[]⟩ : ByteArray), .string (⟨#[]⟩ : ByteArray), .int .u64 0]) ?_ 1 _ rfl; (with_reducible repeat (first | refine blk_drewN ?_ _ | refine blk_drew ?_ | refine blk_alloc ?_ _)); refine blk_put (cs := #[.int .i64 0, .string (⟨#[]⟩ : ByteArray), .string (⟨#[]⟩ : ByteArray), .int .u64 0]) ?_ 0 _ rfl; (with_reducible repeat (first | refine blk_drewN ?_ _ | refine blk_drew ?_ | refine blk_alloc ?_ _)); exact BK708.out⟩
          have n2_ : Aside0 (Below w.heap.size w ((((w17.setCell ⟨gb708, 0, none⟩ (.int .i64 ((rd_T63 l0 x10_1).f0))).setCell ⟨gb708, 1, none⟩ (.string ((rd_T63 l0 x10_1).f1))).setCell ⟨gb708, 2, none⟩ (.string ((rd_T63 l0 x10_1).f2))).setCell ⟨gb708, 3, none⟩ (.int .u64 ((rd_T63 l0 x10_1).f3)))) := ⟨by repeat (first | (with_reducible first | exact HB.out | apply below_alloc | apply pw_below_drewN | apply below_drew1 | refine below_set ?_ GE708.out) | exact HB.out)⟩
          (try clear HO_5);(try clear BK708);(try clear HB)
          generalize ((((w17.setCell ⟨gb708, 0, none⟩ (.int .i64 ((rd_T63 l0 x10_1).f0))).setCell ⟨gb708, 1, none⟩ (.string ((rd_T63 l0 x10_1).f1))).setCell ⟨gb708, 2, none⟩ (.string ((rd_T63 l0 x10_1).f2))).setCell ⟨gb708, 3, none⟩ (.int .u64 ((rd_T63 l0 x10_1).f3))) = w19 at n0_ n1_ n2_ ⊢
          have HO_5 := n0_;have BK708 := n1_;have HB := n2_;clear n0_ n1_ n2_
          (try (rw [drewN_self w19]; generalize hq_ : World.drewN w19 _ = w19; have n0_ : Aside0 (Kd.R k71 71 w19 w.heap.size (fun _ => True) u5 x5_1) := ⟨by rw [← hq_]; exact (rR_ HO_5.out)⟩; have n1_ : Aside0 (w19.heap[gb708]? = some (.cells #[.int .i64 ((rd_T63 l0 x10_1).f0), .string ((rd_T63 l0 x10_1).f1), .string ((rd_T63 l0 x10_1).f2), .int .u64 ((rd_T63 l0 x10_1).f3)] 63 (0, 0))) := ⟨by rw [← hq_]; exact (by (with_reducible repeat (first | refine blk_drewN ?_ _ | refine blk_drew ?_ | refine blk_alloc ?_ _)); exact BK708.out)⟩; have n2_ : Aside0 (Below w.heap.size w w19) := ⟨by rw [← hq_]; exact (by repeat (first | (with_reducible first | exact HB.out | apply below_alloc | apply pw_below_drewN | apply below_drew1 | refine below_set ?_ GE708.out) | exact HB.out))⟩; clear HO_5 BK708 HB hq_; have HO_5 := n0_; have BK708 := n1_; have HB := n2_; clear n0_ n1_ n2_))
          have n0_ := Aside0.mk (Kd.R_drew HO_5.out)
          have n1_ := Aside0.mk (blk_drew BK708.out)
          have n2_ := Aside0.mk (below_drew1 HB.out)
          clear HO_5 BK708 HB;have HO_5 := n0_;have BK708 := n1_;have HB := n2_;clear n0_ n1_ n2_;refine start_ (n := 10) (S := fun w' => w'.cell? ⟨gb708, 0, none⟩ = some (.int .i64 ((rd_T63 l0 x10_1).f0)) ∧ w'.cell? ⟨gb708, 1, none⟩ = some (.string ((rd_T63 l0 x10_1).f1)) ∧ w'.cell? ⟨gb708, 2, none⟩ = some (.string ((rd_T63 l0 x10_1).f2)) ∧ w'.cell? ⟨gb708, 3, none⟩ = some (.int .u64 ((rd_T63 l0 x10_1).f3))) (ds := []) #[false,false,false,false,false,false,false,false,false,false] (by kernel_rfl) rfl rfl ⟨(blk_cell BK708.out 0).trans rfl, (blk_cell BK708.out 1).trans rfl, (blk_cell BK708.out 2).trans rfl, (blk_cell BK708.out 3).trans rfl⟩ (fun hHeld => ?_); refine with_tabW txn_set.tab10 txn_set.bits10 (fun HT_ HW_ => ?_)
          generalize w19.drew = w20 at HO_5 BK708 HB hHeld ⊢
          refine pu_ 0 42 ?_;refine pu_ 1 43 ?_;refine pu_ 4 46 ?_;refine ta_ 2 44 hHeld ?_;refine ta_ 5 47 hHeld ?_;refine one_ (i := 3) (N := some 45) #[true,true,true,true,true,true,false,false,false,false] rfl rfl (one_of HT_.out (by kernel_rfl)) (by decide) (fun K hK => ?_);refine goes_ Tryz.func130 (by kernel_rfl) rfl #[.string ((rd_T63 l0 x10_1).f1)] (by rfl) rfl rfl (by (try simp only [List.map_toArray, List.map_cons, List.map_nil]); first | done | rfl | (simp only [List.length_drop, List.length_take]; rfl)) ?_
          with_reducible refine (span_Point.calls ((rd_T63 l0 x10_1).f1) t713 t714 _ A14.out).mono ?_
          rintro e w21 ⟨rfl, hb⟩
          refine ⟨_, rfl, ?_⟩
          have n0_ := Aside0.mk (Kd.R_below (rR_ HO_5.out) hb)
          have n1_ := Aside0.mk (blk_below (g := gb708) (o := .cells #[.int .i64 ((rd_T63 l0 x10_1).f0), .string ((rd_T63 l0 x10_1).f1), .string ((rd_T63 l0 x10_1).f2), .int .u64 ((rd_T63 l0 x10_1).f3)] 63 (0, 0)) (by (with_reducible repeat (first | refine blk_drewN ?_ _ | refine blk_drew ?_ | refine blk_alloc ?_ _)); exact BK708.out) hb)
          have n2_ := Aside0.mk (below_step (by repeat (first | (with_reducible first | exact HB.out | apply below_alloc | apply pw_below_drewN | apply below_drew1 | refine below_set ?_ GE708.out) | exact HB.out)) hb)
          clear HO_5 BK708 HB;have HO_5 := n0_;have BK708 := n1_;have HB := n2_;clear n0_ n1_ n2_;(try clear hb);(try clear hb2);(try clear hk);(try clear hi);refine hK.out _ _ ⟨(blk_cell BK708.out 0).trans rfl, (blk_cell BK708.out 1).trans rfl, (blk_cell BK708.out 2).trans rfl, (blk_cell BK708.out 3).trans rfl⟩ (fun hHeld => ?_);clear hK K;refine norm_ (a' := ?_) ?_ ?_;rotate_left
          ·show Act.put _ (some 45) _ = _
           simp only [Act.put, List.setIfInBounds_toArray, List.set_cons_zero, List.set_cons_succ, i64_w, i32_w];rfl
          refine one_ (i := 6) (N := some 48) #[true,true,true,true,true,true,true,false,false,false] rfl rfl (one_of HT_.out (by kernel_rfl)) (by decide) (fun K hK => ?_);refine goes_ Tryz.func130 (by kernel_rfl) rfl #[.string ((rd_T63 l0 x10_1).f2)] (by rfl) rfl rfl (by (try simp only [List.map_toArray, List.map_cons, List.map_nil]); first | done | rfl | (simp only [List.length_drop, List.length_take]; rfl)) ?_
          with_reducible refine (span_Point.calls ((rd_T63 l0 x10_1).f2) t715 t716 _ A15.out).mono ?_
          rintro e w22 ⟨rfl, hb⟩
          refine ⟨_, rfl, ?_⟩
          have n0_ := Aside0.mk (Kd.R_below (rR_ HO_5.out) hb)
          have n1_ := Aside0.mk (blk_below (g := gb708) (o := .cells #[.int .i64 ((rd_T63 l0 x10_1).f0), .string ((rd_T63 l0 x10_1).f1), .string ((rd_T63 l0 x10_1).f2), .int .u64 ((rd_T63 l0 x10_1).f3)] 63 (0, 0)) (by (with_reducible repeat (first | refine blk_drewN ?_ _ | refine blk_drew ?_ | refine blk_alloc ?_ _)); exact BK708.out) hb)
          have n2_ := Aside0.mk (below_step (by repeat (first | (with_reducible first | exact HB.out | apply below_alloc | apply pw_below_drewN | apply below_drew1 | refine below_set ?_ GE708.out) | exact HB.out)) hb)
          clear HO_5 BK708 HB;have HO_5 := n0_;have BK708 := n1_;have HB := n2_;clear n0_ n1_ n2_;(try clear hb);(try clear hb2);(try clear hk);(try clear hi);refine hK.out _ _ ⟨(blk_cell BK708.out 0).trans rfl, (blk_cell BK708.out 1).trans rfl, (blk_cell BK708.out 2).trans rfl, (blk_cell BK708.out 3).trans rfl⟩ (fun hHeld => ?_);clear hK K;refine norm_ (a' := ?_) ?_ ?_;rotate_left
          ·show Act.put _ (some 48) _ = _
           simp only [Act.put, List.setIfInBounds_toArray, List.set_cons_zero, List.set_cons_succ, i64_w, i32_w];rfl
          refine one_ (i := 7) (N := some 49) #[true,true,true,true,true,true,true,true,false,false] rfl rfl (one_of HT_.out (by kernel_rfl)) (by decide) (fun K hK => ?_);refine Kd.R_lit_step k71 _ 71 ?hg (N := 49) ?hd (xs := ([(⟨t713, t714⟩ : S71), (⟨t715, t716⟩ : S71)] : List (S71))) (inner := [.string t713, .string t714, .string t715, .string t716]) (ok := fun _ => True) (okp := fun _ => True) ?hr ?hp (fun _ hk => hk) trivial (Below.refl _ _) (Nat.le_refl _) (by simp) ?_; (case hd => rfl); (case hg => rfl); (case hr => first | (go_simp; done) | (go_simp; rfl)); (case hp => exact (Reps.c2 (show Kd.M k71 _ _ _ (⟨t713, t714⟩ : S71) [.string t713, .string t714] from (k71_mkM _ _ _ (⟨t713, t714⟩ : S71) )) (Reps.c2 (show Kd.M k71 _ _ _ (⟨t715, t716⟩ : S71) [.string t715, .string t716] from (k71_mkM _ _ _ (⟨t715, t716⟩ : S71) )) (Reps.none _ _))));intro v718 w23 ho24 hb hg_ hnew_;clear hg_ hnew_
          (first | rw [← Ny717.out] at ho24 | (simp only [Int.reduceToNat] at ho24; rw [← Ny717.out] at ho24))
          have n0_ := Aside0.mk (Kd.R_elder' (rR_ HO_5.out) (Kd.R_base ho24) hb)
          have n1_ := Aside0.mk (Kd.R_lower (Kd.R_new' ho24 (Kd.R_lt (rR_ HO_5.out))) (below_size (by repeat (first | (with_reducible first | exact HB.out | apply below_alloc | apply pw_below_drewN | apply below_drew1 | refine below_set ?_ GE708.out) | exact HB.out))))
          have n2_ := Aside0.mk (blk_below (g := gb708) (o := .cells #[.int .i64 ((rd_T63 l0 x10_1).f0), .string ((rd_T63 l0 x10_1).f1), .string ((rd_T63 l0 x10_1).f2), .int .u64 ((rd_T63 l0 x10_1).f3)] 63 (0, 0)) (by (with_reducible repeat (first | refine blk_drewN ?_ _ | refine blk_drew ?_ | refine blk_alloc ?_ _)); exact BK708.out) hb)
          have n3_ := Aside0.mk (below_step (by repeat (first | (with_reducible first | exact HB.out | apply below_alloc | apply pw_below_drewN | apply below_drew1 | refine below_set ?_ GE708.out) | exact HB.out)) hb)
          clear HO_5 BK708 HB;have HO_5 := n0_;have HO719 := n1_;have BK708 := n2_;have HB := n3_;clear n0_ n1_ n2_ n3_ hb ho24
          obtain ⟨Ao26, co26, eo26⟩ := Kd.R_slice HO719.out
          (first | subst eo26 | (injection eo26 with f1_ f2_ f3_; have f4_ := f1_.symm; have f5_ := f3_.symm; clear f1_ f2_ f3_; subst f4_; subst f5_))
          refine hK.out _ _ ⟨(blk_cell BK708.out 0).trans rfl, (blk_cell BK708.out 1).trans rfl, (blk_cell BK708.out 2).trans rfl, (blk_cell BK708.out 3).trans rfl⟩ (fun hHeld => ?_);clear hK K;refine norm_ (a' := ?_) ?_ ?_;rotate_left
          ·show Act.put _ (some 49) _ = _
           simp only [Act.put, List.setIfInBounds_toArray, List.set_cons_zero, List.set_cons_succ, i64_w, i32_w];rfl
          refine one_ (i := 8) (N := some 50) #[true,true,true,true,true,true,true,true,true,false] rfl rfl (one_of HT_.out (by kernel_rfl)) (by decide) (fun K hK => ?_);refine Kd.R_append_rows_step k71 (w0 := w) w.heap.size (by rfl) (.tmp 42) (.tmp 49) 40 71 (.agg #[(.string ⟨#[]⟩), (.string ⟨#[]⟩)]) 32 rfl Tryz.underlying40 info71 rfl (by decide) (by omega) u5 x5_1 y717 _ _ _ (fun k_ => some k_ ≠ (.slice Ao26 y717.length co26 : Value).ownBlock) (fun _ => False) rfl rfl ?aO ?aR (fun _ _ h => h) (fun _ h => h.elim) ?aF ?aB ?aS ?aL ?_
          (case aR => repeat (first | exact (Kd.R_reads' HO719.out).2.2 | (with_reducible refine Kd.C_alloc ?_ _) | (with_reducible refine Kd.C_drewN ?_ _) | (with_reducible refine Kd.C_drew ?_)))
          (case aB => exact (by repeat (first | (with_reducible first | exact HB.out | apply below_alloc | apply pw_below_drewN | apply below_drew1 | refine below_set ?_ GE708.out) | exact HB.out)))
          (case aF => exact (fun k_ hk => Kd.fresh' (Kd.R_lt (rR_ HO719.out)) k_ hk))
          (case aO => exact (by (with_reducible repeat (first | apply Kd.R_alloc | apply Kd.R_drewN | apply Kd.R_drew)); exact Kd.R_mono HO_5.out (fun _ hk => hk.2)))
          (case aS => exact (below_size (by repeat (first | (with_reducible first | exact HB.out | apply below_alloc | apply pw_below_drewN | apply below_drew1 | refine below_set ?_ GE708.out) | exact HB.out))))
          (case aL => have := LMc16.out; omega)
          intro v721 w25 ho hb hg hat
          rw [← Ny720.out] at ho
          have n0_ := Aside0.mk (blk_grown (g := gb708) (o := .cells #[.int .i64 ((rd_T63 l0 x10_1).f0), .string ((rd_T63 l0 x10_1).f1), .string ((rd_T63 l0 x10_1).f2), .int .u64 ((rd_T63 l0 x10_1).f3)] 63 (0, 0)) (by (with_reducible repeat (first | refine blk_drewN ?_ _ | refine blk_drew ?_ | refine blk_alloc ?_ _)); exact BK708.out) hg (Kd.R_ne HO_5.out BK708.out (by decide)))
          have n1_ := Aside0.mk (Kd.R_after (ok := (fun _ => True)) (rR_ HO719.out) hg hat)
          have n2_ := Aside0.mk (hb)
          have n3_ := Aside0.mk (ho)
          clear BK708 HO719 HB HO_5;have BK708 := n0_;have HO719 := n1_;have HB := n2_;have HO722 := n3_;clear n0_ n1_ n2_ n3_ ho hb hg hat;refine hK.out _ _ ⟨(blk_cell BK708.out 0).trans rfl, (blk_cell BK708.out 1).trans rfl, (blk_cell BK708.out 2).trans rfl, (blk_cell BK708.out 3).trans rfl⟩ (fun hHeld => ?_);clear hK K;refine norm_ (a' := ?_) ?_ ?_;rotate_left
          ·show Act.put _ (some 50) _ = _
           simp only [Act.put, List.setIfInBounds_toArray, List.set_cons_zero, List.set_cons_succ, i64_w, i32_w];rfl
          refine pu_ 9 5 ?_;refine done_ (done_of HT_.out (by kernel_rfl)) ?_
          try go_wp2
          go_roundg k1
          case measure => have := HK1.out; omega
          case rel => exact ⟨(y720), (wrap64 (x10_1 + 1)), (by first | rfl | (rw [bl_gt] <;> rfl) | (simp; done) | (simp [*]; done)), H', ⟨by have := HK1.out; omega⟩, ⟨by (with_reducible repeat (first | apply Kd.R_alloc | apply Kd.R_drewN | apply Kd.R_drew)); exact Kd.R_mono HO722.out (fun _ hk => trivial)⟩, ⟨by repeat (first | (with_reducible first | exact HB.out | apply below_alloc | apply pw_below_drewN | apply below_drew1 | refine below_set ?_ GE708.out) | exact HB.out)⟩⟩
         ·rw [if_neg c16] at H
          exact absurd H (by simp)
        ·rw [if_neg c13] at H
         have c13b0 : (((rd_T63 l0 x10_1).f0) == 6) = false := beq_eq_false_iff_ne.mpr c13
         have c13b1 : (((rd_T63 l0 x10_1).f0) != 6) = true := bne_iff_ne.mpr c13
         replace H := Option.bind_eq_some_iff.mp H
         obtain ⟨⟨t723, t724⟩, A270, H⟩ := H
         replace H : (if x5_1.length < 4398046511104 then (txn_set.l0 k1 l1 (x5_1 ++ [(⟨t723, t724⟩ : S71)]) l0 (l0.length : Int) (wrap64 (x10_1 + 1))) else (none)) = some r := H
         have A27 := Aside0.mk A270
         clear A270
         by_cases c28 : x5_1.length < 4398046511104
         ·rw [if_pos c28] at H
          have LMc28 := Aside0.mk c28
          clear c28
          obtain ⟨y725, hy725⟩ : ∃ y_ : List (S71), y_ = (x5_1 ++ [(⟨t723, t724⟩ : S71)]) := ⟨_, rfl⟩
          replace H : (txn_set.l0 k1 l1 y725 l0 (l0.length : Int) (wrap64 (x10_1 + 1))) = some r := by first | (rw [hy725]; with_reducible exact H) | (have H2_ := (Option.bind_some _ _).symm.trans H; rw [hy725]; with_reducible exact H2_) | (have H2_ := (Option.bind_some _ _).symm.trans H; with_reducible exact H2_) | with_reducible exact H | (rw [hy725]; exact H) | exact H
          have Ny725 := Aside0.mk hy725
          clear hy725
          have H' := Aside0.mk H
          clear H
          have p707 : 0 ≤ (x10_1 : Int) := of_decide_eq_true (by first | (with_reducible assumption) | assumption)
          have q707 : x10_1 < (l0.length : Int) := of_decide_eq_true (by first | (with_reducible assumption) | assumption)
          obtain ⟨ad707, e707, hx707_0, hx707_1, hx707_2, hx707_3⟩ := at_T63 HR0.out x10_1 p707 q707
          cases e707
          replace hx707_0 := (HB.out.cell (World.block_lt_of_cell? w _ hx707_0)).trans hx707_0
          replace hx707_1 := (HB.out.cell (World.block_lt_of_cell? w _ hx707_1)).trans hx707_1
          replace hx707_2 := (HB.out.cell (World.block_lt_of_cell? w _ hx707_2)).trans hx707_2
          replace hx707_3 := (HB.out.cell (World.block_lt_of_cell? w _ hx707_3)).trans hx707_3
          replace p707 := eq_true p707
          replace q707 := eq_true q707
          go_wp2_with (first | ((with_reducible refine gate_dst (N := 7) rfl ?_); refine box_event ?hg (N := 7) ?hd (cs := #[.int .i64 0, .string (⟨#[]⟩ : ByteArray), .string (⟨#[]⟩ : ByteArray), .int .u64 0]) (t := 63) ?hr ?_; (case hd => rfl); (case hg => rfl); (case hr => first | (go_simp; done) | (go_simp; rfl)); intro gb708 hg w29 hbox hb; have n0_ := Aside0.mk (Kd.R_below (rR_ HO_5.out) hb); have n1_ := Aside0.mk (below_step bB_ hb); have n2_ := Aside0.mk (hbox); have n3_ := Aside0.mk ((by rw [hg]; exact (below_size bB_) : w.heap.size ≤ gb708)); have n4_ := Aside0.mk ((by rw [hg]; exact (below_size bB_) : w.heap.size ≤ gb708)); clear HO_5; clear HB; have HO_5 := n0_; have HB := n1_; have BK708 := n2_; have GW708 := n3_; have GE708 := n4_; clear n0_ n1_ n2_ n3_ n4_; clear hb hbox hg; have hcz30_0 : w29.cell? ⟨gb708, 0, none⟩ = some (.int .i64 0) := (blk_cell BK708.out 0).trans rfl; have hcz30_1 : w29.cell? ⟨gb708, 1, none⟩ = some (.string (⟨#[]⟩ : ByteArray)) := (blk_cell BK708.out 1).trans rfl; have hcz30_2 : w29.cell? ⟨gb708, 2, none⟩ = some (.string (⟨#[]⟩ : ByteArray)) := (blk_cell BK708.out 2).trans rfl; have hcz30_3 : w29.cell? ⟨gb708, 3, none⟩ = some (.int .u64 0) := (blk_cell BK708.out 3).trans rfl; have hfz30_0 := blk_frozen BK708.out 0; have hfz30_1 := blk_frozen BK708.out 1; have hfz30_2 := blk_frozen BK708.out 2; have hfz30_3 := blk_frozen BK708.out 3) | ((with_reducible refine gate_callee (f := 129) rfl ?_); refine goesL_ (some 24) rfl rfl Tryz.func129 (by kernel_rfl) rfl #[.slice A1 l1.length c1, .int .i64 ((rd_T63 l0 x10_1).f0)] rfl (by (try simp only [List.map_toArray, List.map_cons, List.map_nil]); first | done | rfl | (simp only [List.length_drop, List.length_take]; rfl)) ?_; (with_reducible refine (slices_Contains_int_int.calls k1 _ _ l1 ((rd_T63 l0 x10_1).f0) true _ ?side1 ?side2 A6.out).mono ?_); (case side1 => exact Kd.C_below HR1.out (by repeat (first | (with_reducible first | exact HB.out | apply below_alloc | apply pw_below_drewN | apply below_drew1 | refine below_set ?_ GE708.out) | exact HB.out))); (case side2 => exact HC1.out); rintro e w' ⟨rfl, ⟨nd, rfl⟩⟩; refine ⟨_, rfl, ?_⟩) | ((with_reducible refine gate_callee (f := 130) rfl ?_); refine goesL_ (some 17) rfl rfl Tryz.func130 (by kernel_rfl) rfl #[.string ((rd_T63 l0 x10_1).f1)] rfl (by (try simp only [List.map_toArray, List.map_cons, List.map_nil]); first | done | rfl | (simp only [List.length_drop, List.length_take]; rfl)) ?_; (with_reducible refine (span_Point.calls ((rd_T63 l0 x10_1).f1) t723 t724 _ A27.out).mono ?_); rintro e w31 ⟨rfl, hb⟩; refine ⟨_, rfl, ?_⟩; have n0_ := Aside0.mk (Kd.R_below (by (with_reducible repeat (first | apply Kd.R_alloc | apply Kd.R_drewN | apply Kd.R_drew)); exact (Kd.R_mono (Kd.R_far (p := ⟨gb708, 3, none⟩) (Kd.R_far (p := ⟨gb708, 2, none⟩) (Kd.R_far (p := ⟨gb708, 1, none⟩) (Kd.R_far (p := ⟨gb708, 0, none⟩) (Kd.R_types HO_5.out BK708.out (by decide)) (fun _ hk => hk.2) (.int .i64 ((rd_T63 l0 x10_1).f0))) (fun _ hk => hk.2) (.string ((rd_T63 l0 x10_1).f1))) (fun _ hk => hk.2) (.string ((rd_T63 l0 x10_1).f2))) (fun _ hk => hk.2) (.int .u64 ((rd_T63 l0 x10_1).f3))) (fun _ h_ => h_.1))) hb); have n1_ := Aside0.mk (blk_below (g := gb708) (o := .cells #[.int .i64 ((rd_T63 l0 x10_1).f0), .string ((rd_T63 l0 x10_1).f1), .string ((rd_T63 l0 x10_1).f2), .int .u64 ((rd_T63 l0 x10_1).f3)] 63 (0, 0)) (by (with_reducible repeat (first | refine blk_drewN ?_ _ | refine blk_drew ?_ | refine blk_alloc ?_ _)); refine blk_put (cs := #[.int .i64 ((rd_T63 l0 x10_1).f0), .string ((rd_T63 l0 x10_1).f1), .string ((rd_T63 l0 x10_1).f2), .int .u64 0]) ?_ 3 _ rfl; (with_reducible repeat (first | refine blk_drewN ?_ _ | refine blk_drew ?_ | refine blk_alloc ?_ _)); refine blk_put (cs := #[.int .i64 ((rd_T63 l0 x10_1).f0), .string ((rd_T63 l0 x10_1).f1), .string (⟨#[]⟩ : ByteArray), .int .u64 0]) ?_ 2 _ rfl; (with_reducible repeat (first | refine blk_drewN ?_ _ | refine blk_drew ?_ | refine blk_alloc ?_ _)); refine blk_put (cs := #[.int .i64 ((rd_T63 l0 x10_1).f0), .string (⟨#[]⟩ : ByteArray), .string (⟨#[]⟩ : ByteArray), .int .u64 0]) ?_ 1 _ rfl; (with_reducible repeat (first | refine blk_drewN ?_ _ | refine blk_drew ?_ | refine blk_alloc ?_ _)); refine blk_put (cs := #[.int .i64 0, .string (⟨#[]⟩ : ByteArray), .string (⟨#[]⟩ : ByteArray), .int .u64 0]) ?_ 0 _ rfl; (with_reducible repeat (first | refine blk_drewN ?_ _ | refine blk_drew ?_ | refine blk_alloc ?_ _)); exact BK708.out) hb); have n2_ := Aside0.mk (below_step (by repeat (first | (with_reducible first | exact HB.out | apply below_alloc | apply pw_below_drewN | apply below_drew1 | refine below_set ?_ GE708.out) | exact HB.out)) hb); clear HO_5; clear BK708; clear HB; have HO_5 := n0_; have BK708 := n1_; have HB := n2_; clear n0_ n1_ n2_; (try clear hb); (try clear hb2); (try clear hk); (try clear hi)) | ((with_reducible refine gate_builtin (b := .append) (xs := #[.tmp 14, .tmp 18]) rfl ?_); at_builtin; refine Kd.R_append k71 (w0 := w) w.heap.size rfl (.tmp 14) (.tmp 18) 40 71 (.agg #[(.string ⟨#[]⟩), (.string ⟨#[]⟩)]) 32 rfl Tryz.underlying40 info71 rfl (by decide) (by omega) u5 x5_1 (⟨t723, t724⟩ : S71) [.string t723, .string t724] (fun _ => True) (fun _ => False) rfl rfl ?aP (fun _ hk => hk.elim) ?aF ?aO ?aB ?aS ?aL ?_; (case aP => exact k71_mkM _ _ _ (⟨t723, t724⟩ : S71)); (case aB => exact (by repeat (first | (with_reducible first | exact HB.out | apply below_alloc | apply pw_below_drewN | apply below_drew1 | refine below_set ?_ GE708.out) | exact HB.out))); (case aF => exact (fun _ _ => trivial)); (case aO => exact (rR_ HO_5.out)); (case aS => exact (below_size (by repeat (first | (with_reducible first | exact HB.out | apply below_alloc | apply pw_below_drewN | apply below_drew1 | refine below_set ?_ GE708.out) | exact HB.out)))); (case aL => have := LMc28.out; omega); intro v726 w32 ho hb hg hat; rw [← Ny725.out] at ho; have n0_ := Aside0.mk (blk_grown (g := gb708) (o := .cells #[.int .i64 ((rd_T63 l0 x10_1).f0), .string ((rd_T63 l0 x10_1).f1), .string ((rd_T63 l0 x10_1).f2), .int .u64 ((rd_T63 l0 x10_1).f3)] 63 (0, 0)) (by (with_reducible repeat (first | refine blk_drewN ?_ _ | refine blk_drew ?_ | refine blk_alloc ?_ _)); exact BK708.out) hg (Kd.R_ne HO_5.out BK708.out (by decide))); have n1_ := Aside0.mk (hb); have n2_ := Aside0.mk (ho); clear BK708; clear HB; clear HO_5; have BK708 := n0_; have HB := n1_; have HO727 := n2_; clear n0_ n1_ n2_; clear ho hb hg hat))
          go_roundg k1
          case measure => have := HK1.out; omega
          case rel => exact ⟨(y725), (wrap64 (x10_1 + 1)), (by first | rfl | (rw [bl_gt] <;> rfl) | (simp; done) | (simp [*]; done)), H', ⟨by have := HK1.out; omega⟩, ⟨rR_ HO727.out⟩, ⟨by repeat (first | (with_reducible first | exact HB.out | apply below_alloc | apply pw_below_drewN | apply below_drew1 | refine below_set ?_ GE708.out) | exact HB.out)⟩⟩
         ·rw [if_neg c28] at H
          exact absurd H (by simp)
      ·replace c7 := Bool.eq_false_iff.mpr c7
       subst c7
       have H1 : (txn_set.l0 k1 l1 x5_1 l0 (l0.length : Int) (wrap64 (x10_1 + 1))) = some r := by rw [if_neg (show ¬ (false = true) by decide)] at H; exact H
       clear H;have H := H1;clear H1
       have H' := Aside0.mk H
       clear H
       have p707 : 0 ≤ (x10_1 : Int) := of_decide_eq_true (by first | (with_reducible assumption) | assumption)
       have q707 : x10_1 < (l0.length : Int) := of_decide_eq_true (by first | (with_reducible assumption) | assumption)
       obtain ⟨ad707, e707, hx707_0, hx707_1, hx707_2, hx707_3⟩ := at_T63 HR0.out x10_1 p707 q707
       cases e707
       replace hx707_0 := (HB.out.cell (World.block_lt_of_cell? w _ hx707_0)).trans hx707_0
       replace hx707_1 := (HB.out.cell (World.block_lt_of_cell? w _ hx707_1)).trans hx707_1
       replace hx707_2 := (HB.out.cell (World.block_lt_of_cell? w _ hx707_2)).trans hx707_2
       replace hx707_3 := (HB.out.cell (World.block_lt_of_cell? w _ hx707_3)).trans hx707_3
       replace p707 := eq_true p707
       replace q707 := eq_true q707
       go_wp2_with (first | ((with_reducible refine gate_dst (N := 7) rfl ?_); refine box_event ?hg (N := 7) ?hd (cs := #[.int .i64 0, .string (⟨#[]⟩ : ByteArray), .string (⟨#[]⟩ : ByteArray), .int .u64 0]) (t := 63) ?hr ?_; (case hd => rfl); (case hg => rfl); (case hr => first | (go_simp; done) | (go_simp; rfl)); intro gb708 hg w33 hbox hb; have n0_ := Aside0.mk (Kd.R_below (rR_ HO_5.out) hb); have n1_ := Aside0.mk (below_step bB_ hb); have n2_ := Aside0.mk (hbox); have n3_ := Aside0.mk ((by rw [hg]; exact (below_size bB_) : w.heap.size ≤ gb708)); have n4_ := Aside0.mk ((by rw [hg]; exact (below_size bB_) : w.heap.size ≤ gb708)); clear HO_5; clear HB; have HO_5 := n0_; have HB := n1_; have BK708 := n2_; have GW708 := n3_; have GE708 := n4_; clear n0_ n1_ n2_ n3_ n4_; clear hb hbox hg; have hcz34_0 : w33.cell? ⟨gb708, 0, none⟩ = some (.int .i64 0) := (blk_cell BK708.out 0).trans rfl; have hcz34_1 : w33.cell? ⟨gb708, 1, none⟩ = some (.string (⟨#[]⟩ : ByteArray)) := (blk_cell BK708.out 1).trans rfl; have hcz34_2 : w33.cell? ⟨gb708, 2, none⟩ = some (.string (⟨#[]⟩ : ByteArray)) := (blk_cell BK708.out 2).trans rfl; have hcz34_3 : w33.cell? ⟨gb708, 3, none⟩ = some (.int .u64 0) := (blk_cell BK708.out 3).trans rfl; have hfz34_0 := blk_frozen BK708.out 0; have hfz34_1 := blk_frozen BK708.out 1; have hfz34_2 := blk_frozen BK708.out 2; have hfz34_3 := blk_frozen BK708.out 3) | ((with_reducible refine gate_callee (f := 129) rfl ?_); refine goesL_ (some 24) rfl rfl Tryz.func129 (by kernel_rfl) rfl #[.slice A1 l1.length c1, .int .i64 ((rd_T63 l0 x10_1).f0)] rfl (by (try simp only [List.map_toArray, List.map_cons, List.map_nil]); first | done | rfl | (simp only [List.length_drop, List.length_take]; rfl)) ?_; (with_reducible refine (slices_Contains_int_int.calls k1 _ _ l1 ((rd_T63 l0 x10_1).f0) false _ ?side1 ?side2 A6.out).mono ?_); (case side1 => exact Kd.C_below HR1.out (by repeat (first | (with_reducible first | exact HB.out | apply below_alloc | apply pw_below_drewN | apply below_drew1 | refine below_set ?_ GE708.out) | exact HB.out))); (case side2 => exact HC1.out); rintro e w' ⟨rfl, ⟨nd, rfl⟩⟩; refine ⟨_, rfl, ?_⟩))
       go_roundg k1
       case measure => have := HK1.out; omega
       case rel => exact ⟨(x5_1), (wrap64 (x10_1 + 1)), (by first | rfl | (rw [bl_gt] <;> rfl) | (simp; done) | (simp [*]; done)), H', ⟨by have := HK1.out; omega⟩, ⟨by (with_reducible repeat (first | apply Kd.R_alloc | apply Kd.R_drewN | apply Kd.R_drew)); exact Kd.R_mono (Kd.R_far (p := ⟨gb708, 3, none⟩) (Kd.R_far (p := ⟨gb708, 2, none⟩) (Kd.R_far (p := ⟨gb708, 1, none⟩) (Kd.R_far (p := ⟨gb708, 0, none⟩) (Kd.R_types HO_5.out BK708.out (by decide)) (fun _ hk => hk.2) (.int .i64 ((rd_T63 l0 x10_1).f0))) (fun _ hk => hk.2) (.string ((rd_T63 l0 x10_1).f1))) (fun _ hk => hk.2) (.string ((rd_T63 l0 x10_1).f2))) (fun _ hk => hk.2) (.int .u64 ((rd_T63 l0 x10_1).f3))) (fun _ hk => trivial)⟩, ⟨by repeat (first | (with_reducible first | exact HB.out | apply below_alloc | apply pw_below_drewN | apply below_drew1 | refine below_set ?_ GE708.out) | exact HB.out)⟩⟩
     ·rw [if_neg c5] at H
      exact absurd H (by simp)
    ·rw [if_neg c4] at H
     exact absurd H (by simp)
   ·rw [if_neg c3] at H
    have c3b0 : decide (x10_1 < (l0.length : Int)) = false := decide_eq_false c3
    clear c3
    replace H := Option.bind_eq_some_iff.mp H
    obtain ⟨t704, A350, H⟩ := H
    replace H : (some t704) = some r := H
    have A35 := Aside0.mk A350
    clear A350;obtain rfl := Option.some.inj H
    obtain ⟨Ao36, co36, eo36⟩ := Kd.R_slice HO_5.out
    subst eo36
    go_wp2_with (first | ((with_reducible refine gate_callee (f := 88) rfl ?_); refine goesL_ (some 53) rfl rfl Tryz.func88 (by kernel_rfl) rfl #[.slice Ao36 x5_1.length co36] rfl (by (try simp only [List.map_toArray, List.map_cons, List.map_nil]); first | done | rfl | (simp only [List.length_drop, List.length_take]; rfl)) ?_; (with_reducible refine (span_Union.calls _ _ x5_1 t704 _ ?side1 ?side2 A35.out).mono ?_); (case side1 => repeat (first | exact (Kd.R_reads' HO_5.out).2.2 | (with_reducible refine Kd.C_alloc ?_ _) | (with_reducible refine Kd.C_drewN ?_ _) | (with_reducible refine Kd.C_drew ?_))); (case side2 => exact (Kd.R_reads' HO_5.out).2.1); rintro e w37 ⟨v705, rfl, ho0, hb⟩; refine ⟨_, rfl, ?_⟩; have n0_ := Aside0.mk (Kd.R_elder' (rR_ HO_5.out) (Kd.R_base ho0) hb); have n1_ := Aside0.mk (Kd.R_lower (Kd.R_new' ho0 (Kd.R_lt (rR_ HO_5.out))) (below_size bB_)); have n2_ := Aside0.mk (below_step bB_ hb); clear HO_5; clear HB; have HO_5 := n0_; have HO706 := n1_; have HB := n2_; clear n0_ n1_ n2_; (try clear hb); (try clear hb2); (try clear hk); (try clear hi); (try clear ho0)))
    go_ret
    exact ⟨_, by first | rfl | (rw [bl_gt] <;> rfl) | (simp [errW_none, errW_some] <;> rfl) | (simp [*, errW_none, errW_some] <;> rfl), by (with_reducible repeat (first | apply Kd.R_alloc | apply Kd.R_drewN | apply Kd.R_drew)); exact Kd.R_mono HO706.out (fun _ hk => trivial), bB_⟩
end Go.Proofs.YtgmlenpcchhmbaaGreat.P
end
section
set_option linter.unusedVariables false
set_option linter.unusedSimpArgs false
namespace Go.Proofs.YtgmlenpcchhmbaaGreat.P
open Go.RowKit Go.Proofs.YtgmlenpcchhmbaaGreatW.PrintWords Go.Proofs.YtgmlenpcchhmbaaGreatW.PrintLast
theorem index_l0 (ks : List Int) (x : Int) (hl : ks.length ≤ 100) : ∀ (m i : Nat), i + m = ks.length → Ev (fun k => slices_Index_int_int.l0 k ks x (ks.length : Int) (i : Int)) (if (ks.drop i).contains x = true then ((i + (ks.drop i).idxOf x : Nat) : Int) else -1)
  | 0, i, h => by
    refine Ev.succ ?_;simp only [slices_Index_int_int.l0]
    rw [List.drop_of_length_le (by omega)]
    exact Ev.no (by omega) (Ev.some _)
  | m + 1, i, h => by
    have hi : i < ks.length := by omega
    have hrd : rd ks (i : Int) = ks[i] := by unfold rd; rw [Int.toNat_natCast, List.getD_eq_getElem?_getD, List.getElem?_eq_getElem hi]; rfl
    have hd : ks.drop i = ks[i] :: ks.drop (i + 1) := (List.drop_eq_getElem_cons hi)
    refine Ev.succ ?_;simp only [slices_Index_int_int.l0]
    rw [w64_succ (by omega), hrd, hd]
    refine Ev.yes (by omega) (Ev.yes (by omega) (Ev.yes (by omega) (Ev.cond (fun e => ?_) (fun e => ?_))))
    · subst e
      rw [if_pos (by rw [List.contains_cons]; simp), List.idxOf_cons_self]
      exact Ev.some _
    · have ih := index_l0 ks x hl m (i + 1) (by omega)
      refine Ev.eq ih ?_
      have e2 : ¬ ks[i] = x := fun h => e h.symm
      have e3 : (ks[i] :: ks.drop (i + 1)).contains x = (ks.drop (i + 1)).contains x := by rw [List.contains_cons, beq_eq_false_iff_ne.2 e, Bool.false_or]
      have e4 : (ks[i] :: ks.drop (i + 1)).idxOf x = (ks.drop (i + 1)).idxOf x + 1 := by rw [List.idxOf_cons, beq_eq_false_iff_ne.2 e2]; rfl
      rw [e3, e4]
      split
      · omega
      · rfl
theorem ev_contains (ks : List Int) (x : Int) (hl : ks.length ≤ 100) : Ev (fun k => slices_Contains_int_int.f k ks x) (ks.contains x) := by
  unfold slices_Contains_int_int.f slices_Index_int_int.f
  refine Ev.bind (index_l0 ks x hl ks.length 0 (by omega)) ?_
  rw [List.drop_zero]
  by_cases h : ks.contains x = true
  · rw [if_pos h, h]
    have e : decide (((0 + ks.idxOf x : Nat) : Int) ≥ 0) = true := decide_eq_true (by omega)
    rw [e]; exact Ev.some _
  · rw [if_neg h, Bool.eq_false_iff.2 h]
    exact Ev.some _
theorem setSp_snoc (ks : List Int) (l : List S63) {i : Nat} (hi : i < l.length) : setSp ks (l.take (i + 1)) = setSp ks (l.take i) ++ (if ks.contains l[i].f0 = true then spO l[i] else []) := by
  rw [(List.take_append_getElem hi).symm]
  unfold setSp
  rw [List.filter_append, List.flatMap_append]
  congr 1
  by_cases h : ks.contains l[i].f0 = true
  · rw [if_pos h, List.filter_cons, if_pos h]; simp
  · rw [if_neg h, List.filter_cons, if_neg h]; simp
theorem spO_len (o : S63) : (spO o).length ≤ 2 := by
  unfold spO
  repeat' split
  all_goals simp
theorem setSp_len (ks : List Int) : ∀ (l : List S63) (i : Nat), i ≤ l.length → (setSp ks (l.take i)).length ≤ 2 * i
  | l, 0, _ => by simp [setSp]
  | l, i + 1, h => by
    rw [setSp_snoc ks l (by omega), List.length_append]
    have := setSp_len ks l i (by omega)
    have := spO_len l[i]
    split <;> simp <;> omega
theorem point_f (k : ByteArray) (h : k.size ≤ 16) : span_Point.f k = some ((ptS k).f0, (ptS k).f1) := by
  unfold span_Point.f
  rw [if_pos (by omega)]; rfl
theorem set_l0 (ks : List Int) (hk : ks.length ≤ 100) (l : List S63) (hl : l.length ≤ 8) (hs : ∀ o ∈ l, o.f1.size ≤ 16 ∧ o.f2.size ≤ 16) : ∀ (m i : Nat), i + m = l.length → Ev (fun k => txn_set.l0 k ks (setSp ks (l.take i)) l (l.length : Int) (i : Int)) (unionT (setSp ks l))
  | 0, i, h => by
    have hlen := setSp_len ks l l.length (Nat.le_refl _)
    rw [List.take_length] at hlen
    refine Ev.succ ?_;simp only [txn_set.l0]
    rw [List.take_of_length_le (by omega)]
    refine Ev.no (by omega) (Ev.bind1 (r := unionT (setSp ks l)) ?_ (Ev.some _))
    unfold span_Union.f
    rw [if_pos (by omega)]
  | m + 1, i, h => by
    have hi : i < l.length := by omega
    have hrd : rd_T63 l (i : Int) = l[i] := by unfold rd_T63; rw [Int.toNat_natCast, List.getD_eq_getElem?_getD, List.getElem?_eq_getElem hi]; rfl
    have ih := set_l0 ks hk l hl hs m (i + 1) (by omega)
    rw [setSp_snoc ks l hi] at ih
    have hlen := setSp_len ks l i (by omega)
    obtain ⟨z1, z2⟩ := hs l[i] (List.getElem_mem hi)
    refine Ev.succ ?_;simp only [txn_set.l0]
    rw [w64_succ (by omega), hrd]
    refine Ev.yes (by omega) (Ev.yes (by omega) (Ev.yes (by omega) (Ev.bind (ev_contains ks _ hk) (Ev.cond (fun hc => ?_) (fun hc => ?_)))))
    · rw [if_pos hc] at ih
      unfold spO at ih
      refine Ev.cond (fun h2 => ?_) (fun h2 => Ev.cond (fun h6 => ?_) (fun h6 => ?_))
      · rw [if_pos h2] at ih
        exact Ev.yes (by omega) ih
      · rw [if_neg h2, if_pos h6] at ih
        exact Ev.bind1 (point_f _ z1) (Ev.bind1 (point_f _ z2) (Ev.bind1 rfl (Ev.yes (by simp; omega) ih)))
      · rw [if_neg h2, if_neg h6] at ih
        exact Ev.bind1 (point_f _ z1) (Ev.yes (by omega) ih)
    · rw [if_neg hc, List.append_nil] at ih
      exact ih
theorem ev_set (ks : List Int) (hk : ks.length ≤ 100) (l : List S63) (hl : l.length ≤ 8) (hs : ∀ o ∈ l, o.f1.size ≤ 16 ∧ o.f2.size ≤ 16) : Ev (fun k => txn_set.f k l ks) (unionT (setSp ks l)) := by
  unfold txn_set.f
  exact set_l0 ks hk l hl hs l.length 0 (by omega)
theorem in_f (s : S71) (k : ByteArray) : folkmootref03_in.f s.f0 s.f1 k = some (hasS s k) := by
  unfold folkmootref03_in.f hasS
  rw [klt_list, klt_list]
  cases h : klt k s.f0 with
  | true => rw [if_pos rfl]; rfl
  | false =>
    rw [if_neg (by simp)]
    by_cases e : s.f1 = emptyB
    · rw [if_pos ((toList_nil _).2 e)]; simp [e]
    · rw [if_neg (fun h => e ((toList_nil _).1 h))]; simp [e]
theorem has_l0 (l : List S71) (x : ByteArray) (hl : l.length ≤ 9223372036854775807) : ∀ (m i : Nat), i + m = l.length → Ev (fun k => folkmootref03_Has.l0 k l x (i : Int)) (hasSs (l.drop i) x)
  | 0, i, h => by
    refine Ev.succ ?_;simp only [folkmootref03_Has.l0]
    rw [List.drop_of_length_le (by omega)]
    exact Ev.no (by omega) (Ev.some _)
  | m + 1, i, h => by
    have hi : i < l.length := by omega
    have hrd : rd_T71 l (i : Int) = l[i] := by unfold rd_T71; rw [Int.toNat_natCast, List.getD_eq_getElem?_getD, List.getElem?_eq_getElem hi]; rfl
    have ih := has_l0 l x hl m (i + 1) (by omega)
    have hd : hasSs (l.drop i) x = (hasS l[i] x || hasSs (l.drop (i + 1)) x) := by rw [List.drop_eq_getElem_cons hi]; rfl
    refine Ev.succ ?_;simp only [folkmootref03_Has.l0]
    rw [w64_succ (by omega), hrd, hd]
    refine Ev.yes (by omega) (Ev.yes (by omega) (Ev.bind1 (in_f l[i] x) (Ev.cond (fun e => ?_) (fun e => ?_))))
    · rw [e]; exact Ev.some _
    · rw [Bool.eq_false_iff.2 e]; exact ih
theorem ev_has (l : List S71) (x : ByteArray) (hl : l.length ≤ 9223372036854775807) : Ev (fun k => folkmootref03_Has.f k l x) (hasSs l x) := by
  unfold folkmootref03_Has.f
  exact has_l0 l x hl l.length 0 (by omega)
end Go.Proofs.YtgmlenpcchhmbaaGreat.P
end
section
set_option linter.unusedVariables false
set_option linter.unusedSimpArgs false
namespace Go.Proofs.YtgmlenpcchhmbaaGreat.P
open Go.RowKit Go.Proofs.YtgmlenpcchhmbaaGreatW.PrintWords Go.Proofs.YtgmlenpcchhmbaaGreatW.PrintLast Go.Proofs.YtgmlenpcchhmbaaGreatW.PrintMore
attribute [local go_sem] max2_int min2_int max_two min_two max_three min_three max_four min_four   -- for this text's walks alone
def txn_Reads.f (k : Nat) (l0 : List (S63)) : Option ((List (S71))) := (txn_set.f k l0 (([1, 2, 4, 5, 6] : List Int))).bind fun t731 => (some t731)
set_option maxHeartbeats 8000000 in
set_option maxRecDepth 100000 in
theorem txn_Reads.calls (k : Nat) (A0 : Option Addr) (c0 : Nat) (l0 : List (S63)) (r : List (S71)) (w : World) (hr0 : Kd.C k63 w A0 l0.length l0) (hc0 : l0.length ≤ c0) (h : txn_Reads.f k l0 = some r) :
  Calls Tryz.prog 38 #[.slice A0 l0.length c0] w fun e w' => ∃ v0_ : Value, e = .returned (v0_) ∧ Kd.R k71 71 w' w.heap.size (fun _ => True) v0_ r ∧ Below w.heap.size w w' := by
 have HR0 := Aside0.mk hr0
 have HC0 := Aside0.mk hc0
 clear hr0 hc0
 have HB := Aside0.mk (Below.refl w.heap.size w)
 have H : ((txn_set.f k l0 (([1, 2, 4, 5, 6] : List Int))).bind fun t731 => (some t731)) = some r := h
 clear h
 obtain ⟨y728, hy728⟩ : ∃ y_ : List Int, y_ = (([1, 2, 4, 5, 6] : List Int)) := ⟨_, rfl⟩
 replace H : ((txn_set.f k l0 y728).bind fun t731 => (some t731)) = some r := by first | (rw [hy728]; with_reducible exact H) | (have H2_ := (Option.bind_some _ _).symm.trans H; rw [hy728]; with_reducible exact H2_) | (have H2_ := (Option.bind_some _ _).symm.trans H; with_reducible exact H2_) | with_reducible exact H | (rw [hy728]; exact H) | exact H
 have Ny728 := Aside0.mk hy728
 clear hy728
 replace H := Option.bind_eq_some_iff.mp H
 obtain ⟨t731, A20, H⟩ := H
 replace H : (some t731) = some r := H
 have A2 := Aside0.mk A20
 clear A20;obtain rfl := Option.some.inj H
 go_enter Tryz.func38, Tryz.ntmps38
 go_wp2_with (first | ((with_reducible refine gate_dst (N := 4) rfl ?_); refine Kd.R_lit (Kd.int .i64) _ 3 ?hg (N := 4) ?hd (xs := ([1, 2, 4, 5, 6] : List Int)) (inner := [.int .i64 1, .int .i64 2, .int .i64 4, .int .i64 5, .int .i64 6]) (ok := fun _ => True) (okp := fun _ => True) ?hr ?hp (fun _ hk => hk) trivial (Below.refl _ _) (Nat.le_refl _) (by simp) ?_; (case hd => rfl); (case hg => rfl); (case hr => first | (go_simp; done) | (go_simp; rfl)); (case hp => exact (Reps.one (show Kd.M (Kd.int .i64) _ _ _ 1 [.int .i64 1] from rfl) (Reps.one (show Kd.M (Kd.int .i64) _ _ _ 2 [.int .i64 2] from rfl) (Reps.one (show Kd.M (Kd.int .i64) _ _ _ 4 [.int .i64 4] from rfl) (Reps.one (show Kd.M (Kd.int .i64) _ _ _ 5 [.int .i64 5] from rfl) (Reps.one (show Kd.M (Kd.int .i64) _ _ _ 6 [.int .i64 6] from rfl) (Reps.none _ _))))))); intro v729 w3 ho4 hb hg_ hnew_; clear hg_ hnew_; (first | rw [← Ny728.out] at ho4 | (simp only [Int.reduceToNat] at ho4; rw [← Ny728.out] at ho4)); have n0_ := Aside0.mk (Kd.R_lower ho4 (below_size bB_)); have n1_ := Aside0.mk (below_step bB_ hb); clear HB; have HO730 := n0_; have HB := n1_; clear n0_ n1_; clear hb ho4; obtain ⟨Ao5, co5, eo5⟩ := Kd.R_slice HO730.out; subst eo5) | ((with_reducible refine gate_callee (f := 86) rfl ?_); refine goesL_ (some 5) rfl rfl Tryz.func86 (by kernel_rfl) rfl #[.slice A0 l0.length c0, .slice Ao5 y728.length co5] rfl (by (try simp only [List.map_toArray, List.map_cons, List.map_nil]); first | done | rfl | (simp only [List.length_drop, List.length_take]; rfl)) ?_; (with_reducible refine (txn_set.calls k _ _ l0 _ _ y728 t731 _ ?side1 ?side2 ?side3 ?side4 A2.out).mono ?_); (case side1 => repeat (first | exact (Kd.C_below HR0.out HB.out) | (with_reducible refine Kd.C_alloc ?_ _) | (with_reducible refine Kd.C_drewN ?_ _) | (with_reducible refine Kd.C_drew ?_))); (case side2 => exact HC0.out); (case side3 => repeat (first | exact (Kd.R_reads' HO730.out).2.2 | (with_reducible refine Kd.C_alloc ?_ _) | (with_reducible refine Kd.C_drewN ?_ _) | (with_reducible refine Kd.C_drew ?_))); (case side4 => exact (Kd.R_reads' HO730.out).2.1); rintro e w6 ⟨v732, rfl, ho0, hb⟩; refine ⟨_, rfl, ?_⟩; have n0_ := Aside0.mk (Kd.R_below (rR_ HO730.out) hb); have n1_ := Aside0.mk (Kd.R_lower ho0 (below_size bB_)); have n2_ := Aside0.mk (below_step bB_ hb); clear HO730; clear HB; have HO730 := n0_; have HO733 := n1_; have HB := n2_; clear n0_ n1_ n2_; (try clear hb); (try clear hb2); (try clear hk); (try clear hi); (try clear ho0)))
 go_ret
 exact ⟨_, by first | rfl | (rw [bl_gt] <;> rfl) | (simp [errW_none, errW_some] <;> rfl) | (simp [*, errW_none, errW_some] <;> rfl), by (with_reducible repeat (first | apply Kd.R_alloc | apply Kd.R_drewN | apply Kd.R_drew)); exact HO733.out, bB_⟩
end Go.Proofs.YtgmlenpcchhmbaaGreat.P
end
section
set_option linter.unusedVariables false
set_option linter.unusedSimpArgs false
namespace Go.Proofs.YtgmlenpcchhmbaaGreat.P
open Go.RowKit Go.Proofs.YtgmlenpcchhmbaaGreatW.PrintWords Go.Proofs.YtgmlenpcchhmbaaGreatW.PrintLast Go.Proofs.YtgmlenpcchhmbaaGreatW.PrintMore
attribute [local go_sem] max2_int min2_int max_two min_two max_three min_three max_four min_four   -- for this text's walks alone
def txn_Writes.f (k : Nat) (l0 : List (S63)) : Option ((List (S71))) := (txn_set.f k l0 (([3, 4, 5, 6] : List Int))).bind fun t737 => (some t737)
set_option maxHeartbeats 8000000 in
set_option maxRecDepth 100000 in
theorem txn_Writes.calls (k : Nat) (A0 : Option Addr) (c0 : Nat) (l0 : List (S63)) (r : List (S71)) (w : World) (hr0 : Kd.C k63 w A0 l0.length l0) (hc0 : l0.length ≤ c0) (h : txn_Writes.f k l0 = some r) :
  Calls Tryz.prog 39 #[.slice A0 l0.length c0] w fun e w' => ∃ v0_ : Value, e = .returned (v0_) ∧ Kd.R k71 71 w' w.heap.size (fun _ => True) v0_ r ∧ Below w.heap.size w w' := by
 have HR0 := Aside0.mk hr0
 have HC0 := Aside0.mk hc0
 clear hr0 hc0
 have HB := Aside0.mk (Below.refl w.heap.size w)
 have H : ((txn_set.f k l0 (([3, 4, 5, 6] : List Int))).bind fun t737 => (some t737)) = some r := h
 clear h
 obtain ⟨y734, hy734⟩ : ∃ y_ : List Int, y_ = (([3, 4, 5, 6] : List Int)) := ⟨_, rfl⟩
 replace H : ((txn_set.f k l0 y734).bind fun t737 => (some t737)) = some r := by first | (rw [hy734]; with_reducible exact H) | (have H2_ := (Option.bind_some _ _).symm.trans H; rw [hy734]; with_reducible exact H2_) | (have H2_ := (Option.bind_some _ _).symm.trans H; with_reducible exact H2_) | with_reducible exact H | (rw [hy734]; exact H) | exact H
 have Ny734 := Aside0.mk hy734
 clear hy734
 replace H := Option.bind_eq_some_iff.mp H
 obtain ⟨t737, A20, H⟩ := H
 replace H : (some t737) = some r := H
 have A2 := Aside0.mk A20
 clear A20;obtain rfl := Option.some.inj H
 go_enter Tryz.func39, Tryz.ntmps39
 go_wp2_with (first | ((with_reducible refine gate_dst (N := 4) rfl ?_); refine Kd.R_lit (Kd.int .i64) _ 3 ?hg (N := 4) ?hd (xs := ([3, 4, 5, 6] : List Int)) (inner := [.int .i64 3, .int .i64 4, .int .i64 5, .int .i64 6]) (ok := fun _ => True) (okp := fun _ => True) ?hr ?hp (fun _ hk => hk) trivial (Below.refl _ _) (Nat.le_refl _) (by simp) ?_; (case hd => rfl); (case hg => rfl); (case hr => first | (go_simp; done) | (go_simp; rfl)); (case hp => exact (Reps.one (show Kd.M (Kd.int .i64) _ _ _ 3 [.int .i64 3] from rfl) (Reps.one (show Kd.M (Kd.int .i64) _ _ _ 4 [.int .i64 4] from rfl) (Reps.one (show Kd.M (Kd.int .i64) _ _ _ 5 [.int .i64 5] from rfl) (Reps.one (show Kd.M (Kd.int .i64) _ _ _ 6 [.int .i64 6] from rfl) (Reps.none _ _)))))); intro v735 w3 ho4 hb hg_ hnew_; clear hg_ hnew_; (first | rw [← Ny734.out] at ho4 | (simp only [Int.reduceToNat] at ho4; rw [← Ny734.out] at ho4)); have n0_ := Aside0.mk (Kd.R_lower ho4 (below_size bB_)); have n1_ := Aside0.mk (below_step bB_ hb); clear HB; have HO736 := n0_; have HB := n1_; clear n0_ n1_; clear hb ho4; obtain ⟨Ao5, co5, eo5⟩ := Kd.R_slice HO736.out; subst eo5) | ((with_reducible refine gate_callee (f := 86) rfl ?_); refine goesL_ (some 5) rfl rfl Tryz.func86 (by kernel_rfl) rfl #[.slice A0 l0.length c0, .slice Ao5 y734.length co5] rfl (by (try simp only [List.map_toArray, List.map_cons, List.map_nil]); first | done | rfl | (simp only [List.length_drop, List.length_take]; rfl)) ?_; (with_reducible refine (txn_set.calls k _ _ l0 _ _ y734 t737 _ ?side1 ?side2 ?side3 ?side4 A2.out).mono ?_); (case side1 => repeat (first | exact (Kd.C_below HR0.out HB.out) | (with_reducible refine Kd.C_alloc ?_ _) | (with_reducible refine Kd.C_drewN ?_ _) | (with_reducible refine Kd.C_drew ?_))); (case side2 => exact HC0.out); (case side3 => repeat (first | exact (Kd.R_reads' HO736.out).2.2 | (with_reducible refine Kd.C_alloc ?_ _) | (with_reducible refine Kd.C_drewN ?_ _) | (with_reducible refine Kd.C_drew ?_))); (case side4 => exact (Kd.R_reads' HO736.out).2.1); rintro e w6 ⟨v738, rfl, ho0, hb⟩; refine ⟨_, rfl, ?_⟩; have n0_ := Aside0.mk (Kd.R_below (rR_ HO736.out) hb); have n1_ := Aside0.mk (Kd.R_lower ho0 (below_size bB_)); have n2_ := Aside0.mk (below_step bB_ hb); clear HO736; clear HB; have HO736 := n0_; have HO739 := n1_; have HB := n2_; clear n0_ n1_ n2_; (try clear hb); (try clear hb2); (try clear hk); (try clear hi); (try clear ho0)))
 go_ret
 exact ⟨_, by first | rfl | (rw [bl_gt] <;> rfl) | (simp [errW_none, errW_some] <;> rfl) | (simp [*, errW_none, errW_some] <;> rfl), by (with_reducible repeat (first | apply Kd.R_alloc | apply Kd.R_drewN | apply Kd.R_drew)); exact HO739.out, bB_⟩
end Go.Proofs.YtgmlenpcchhmbaaGreat.P
end
section
set_option linter.unusedVariables false
set_option linter.unusedSimpArgs false
namespace Go.Proofs.YtgmlenpcchhmbaaGreat.P
open Go.RowKit Go.Proofs.YtgmlenpcchhmbaaGreatW.PrintWords Go.Proofs.YtgmlenpcchhmbaaGreatW.PrintLast Go.Proofs.YtgmlenpcchhmbaaGreatW.PrintMore
attribute [local go_sem] max2_int min2_int max_two min_two max_three min_three max_four min_four   -- for this text's walks alone
end Go.Proofs.YtgmlenpcchhmbaaGreat.P
end
section
set_option linter.unusedVariables false
set_option linter.unusedSimpArgs false
namespace Go.Proofs.YtgmlenpcchhmbaaGreat.P
open Go.RowKit Go.Proofs.YtgmlenpcchhmbaaGreatW.PrintWords Go.Proofs.YtgmlenpcchhmbaaGreatW.PrintLast
abbrev rK : List Int := [1, 2, 4, 5, 6]
abbrev wK : List Int := [3, 4, 5, 6]
theorem union_len (l : List S71) : (unionT l).length ≤ l.length := by
  have h1 := foldU_le ((l.filter fun x => !emptyS x).mergeSort fun x y => !klt y.f0 x.f0) []
  have h2 : (l.filter fun x => !emptyS x).length ≤ l.length := List.length_filter_le _ _
  rw [List.length_mergeSort, List.length_nil] at h1
  unfold unionT mergeU
  omega
theorem setSp_le (ks : List Int) (l : List S63) : (setSp ks l).length ≤ 2 * l.length := by
  have := setSp_len ks l l.length (Nat.le_refl _)
  rwa [List.take_length] at this
theorem ev_reads (l : List S63) (hl : l.length ≤ 8) (hs : ∀ o ∈ l, o.f1.size ≤ 16 ∧ o.f2.size ≤ 16) : Ev (fun k => txn_Reads.f k l) (unionT (setSp rK l)) := by
  unfold txn_Reads.f
  exact Ev.bind (ev_set rK (by decide) l hl hs) (Ev.some _)
theorem ev_writes (l : List S63) (hl : l.length ≤ 8) (hs : ∀ o ∈ l, o.f1.size ≤ 16 ∧ o.f2.size ≤ 16) : Ev (fun k => txn_Writes.f k l) (unionT (setSp wK l)) := by
  unfold txn_Writes.f
  exact Ev.bind (ev_set wK (by decide) l hl hs) (Ev.some _)
end Go.Proofs.YtgmlenpcchhmbaaGreat.P
end
section
set_option linter.unusedVariables false
set_option linter.unusedSimpArgs false
namespace Go.Proofs.YtgmlenpcchhmbaaGreat.P
open Go.RowKit Go.Sort Go.Shelf Go.Proofs.YtgmlenpcchhmbaaGreatW.PrintWords Go.Proofs.YtgmlenpcchhmbaaGreatW.PrintLast Go.Proofs.YtgmlenpcchhmbaaGreatW.PrintMore
def leastE (e f : ByteArray) : ByteArray := if e = emptyB ∨ (f ≠ emptyB ∧ klt f e = true) then f else e
theorem least_any (e f : ByteArray) (w : World) : Calls Tryz.prog 158 #[.string e, .string f] w fun x w' => x = .returned (.string (leastE e f)) ∧ w' = w := by
  obtain ⟨v, hv⟩ : ∃ v, leastE e f = v := ⟨_, rfl⟩
  rw [hv]
  have hE : ∀ x : ByteArray, x ≠ emptyB → x.toList.isEmpty = false := fun x hx => by
    cases h : x.toList with
    | nil => exact absurd ((toList_nil _).1 h) hx
    | cons y l => rfl
  have hb : klt f e = Op.bytesLess f.toList e.toList := (klt_list f e).symm
  by_cases he : e = emptyB
  · have e1 : e.toList.isEmpty = true := by rw [(toList_nil _).2 he]; rfl
    obtain rfl : v = f := by rw [← hv]; unfold leastE; simp [he]
    clear he hv hb hE
    go_enter Tryz.func158, Tryz.ntmps158
    go_wp2
    go_ret
    exact ⟨rfl, rfl⟩
  · have e1 := hE e he
    by_cases hf : f = emptyB
    · have f1 : f.toList.isEmpty = true := by rw [(toList_nil _).2 hf]; rfl
      obtain rfl : v = e := by rw [← hv]; unfold leastE; simp [he, hf]
      clear he hv hb hf hE
      go_enter Tryz.func158, Tryz.ntmps158
      go_wp2
      go_ret
      exact ⟨rfl, rfl⟩
    · have f1 := hE f hf
      cases hk : klt f e with
      | true =>
        obtain rfl : v = f := by rw [← hv]; unfold leastE; simp [hf, hk]
        rw [hk] at hb
        have hb2 := hb.symm;clear he hv hb hf hE hk
        go_enter Tryz.func158, Tryz.ntmps158
        go_wp2
        go_ret
        exact ⟨rfl, rfl⟩
      | false =>
        obtain rfl : v = e := by rw [← hv]; unfold leastE; simp [he, hk]
        rw [hk] at hb
        have hb2 := hb.symm;clear he hv hb hf hE hk
        go_enter Tryz.func158, Tryz.ntmps158
        go_wp2
        go_ret
        exact ⟨rfl, rfl⟩
def cutS (s t : S71) : S71 := ⟨if klt s.f0 t.f0 = true then t.f0 else s.f0, leastE s.f1 t.f1⟩
theorem hasS_cut (s t : S71) (k : ByteArray) : hasS (cutS s t) k = (hasS s k && hasS t k) := by
  rw [Bool.eq_iff_iff, Bool.and_eq_true, hasS_iff, hasS_iff, hasS_iff]
  unfold cutS leastE
  simp only
  have h1 : klt k (if klt s.f0 t.f0 = true then t.f0 else s.f0) = false ↔ klt k s.f0 = false ∧ klt k t.f0 = false := by
    by_cases h : klt s.f0 t.f0 = true
    · rw [if_pos h]
      exact ⟨fun g => ⟨kle_trans (klt_asymm h) g, g⟩, fun g => g.2⟩
    · rw [if_neg h]
      exact ⟨fun g => ⟨g, kle_trans (Bool.eq_false_iff.2 h) g⟩, fun g => g.1⟩
  have h2 : ((if s.f1 = emptyB ∨ (t.f1 ≠ emptyB ∧ klt t.f1 s.f1 = true) then t.f1 else s.f1) = emptyB ∨ klt k (if s.f1 = emptyB ∨ (t.f1 ≠ emptyB ∧ klt t.f1 s.f1 = true) then t.f1 else s.f1) = true) ↔ (s.f1 = emptyB ∨ klt k s.f1 = true) ∧ (t.f1 = emptyB ∨ klt k t.f1 = true) := by
    by_cases e1 : s.f1 = emptyB
    · rw [if_pos (.inl e1)]
      exact ⟨fun g => ⟨.inl e1, g⟩, fun g => g.2⟩
    · by_cases e2 : t.f1 = emptyB
      · rw [if_neg (by rintro (h | h); exact e1 h; exact h.1 e2)]
        exact ⟨fun g => ⟨g, .inl e2⟩, fun g => g.1⟩
      · by_cases h : klt t.f1 s.f1 = true
        · rw [if_pos (.inr ⟨e2, h⟩)]
          refine ⟨fun g => ⟨.inr (klt_trans (g.resolve_left e2) h), g⟩, fun g => g.2⟩
        · rw [if_neg (by rintro (g | g); exact e1 g; exact h g.2)]
          refine ⟨fun g => ⟨g, .inr (klt_kle (g.resolve_left e1) (Bool.eq_false_iff.2 h))⟩, fun g => g.1⟩
  rw [h1, h2]
  exact ⟨fun ⟨⟨a, b⟩, c, d⟩ => ⟨⟨a, c⟩, b, d⟩, fun ⟨⟨a, c⟩, b, d⟩ => ⟨⟨a, b⟩, c, d⟩⟩
end Go.Proofs.YtgmlenpcchhmbaaGreat.P
end
section
set_option linter.unusedVariables false
set_option linter.unusedSimpArgs false
namespace Go.Proofs.YtgmlenpcchhmbaaGreat.P
def cutL : List S71 → List S71 → List S71
  | [], _ => []
  | _ :: _, [] => []
  | s :: a, t :: b => (if noneS (cutS s t) = true then [] else [cutS s t]) ++ (if (cutS s t).f1 = s.f1 then cutL a (t :: b) else cutL (s :: a) b)
  termination_by a b => a.length + b.length
theorem canon_tail {x : S71} {l : List S71} (h : CanonU (x :: l)) : CanonU l := ⟨fun s hs => h.1 s (List.mem_cons_of_mem _ hs), (List.pairwise_cons.1 h.2).2⟩
theorem hasS_none {s : S71} (h : noneS s = true) (k : ByteArray) : hasS s k = false := by
  cases e : hasS s k with
  | false => rfl
  | true =>
    obtain ⟨h1, h2⟩ := (hasS_iff s k).1 e
    have : noneS s = false := by
      rw [noneS_false]
      rcases h2 with h2 | h2
      · exact .inl h2
      · exact .inr (kle_klt h1 h2)
    rw [this] at h; cases h
theorem rest_none {x y : S71} {l : List S71} (h : CanonU (y :: l)) (hxy : y.f1 = emptyB ∨ (x.f1 ≠ emptyB ∧ klt y.f1 x.f1 = false)) {k : ByteArray} (hk : hasS x k = true) : hasSs l k = false := by
  cases e : hasSs l k with
  | false => rfl
  | true =>
    obtain ⟨z, hz, hzk⟩ := List.any_eq_true.1 e
    have h1 := (List.pairwise_cons.1 h.2).1 z hz
    have h2 := ((hasS_iff z k).1 hzk).1
    have h3 := ((hasS_iff x k).1 hk).2
    rcases hxy with hxy | ⟨g1, g2⟩
    · exact absurd hxy h1.1
    · have h4 := h3.resolve_left g1
      have h5 := klt_kle h1.2 h2
      have h6 := klt_trans h5 h4
      rw [h6] at g2; cases g2
theorem hasSs_cons (s : S71) (l : List S71) (k : ByteArray) : hasSs (s :: l) k = (hasS s k || hasSs l k) := rfl
theorem cutL_has : ∀ (n : Nat) (a b : List S71), a.length + b.length ≤ n → CanonU a → CanonU b → ∀ k, hasSs (cutL a b) k = (hasSs a k && hasSs b k)
  | _, [], b, _, _, _, k => by rw [cutL]; rfl
  | _, s :: a, [], _, _, _, k => by rw [cutL]; simp [hasSs]
  | 0, s :: a, t :: b, h, _, _, _ => by simp at h
  | n + 1, s :: a, t :: b, h, ha, hb, k => by
    have hone : hasSs (if noneS (cutS s t) = true then [] else [cutS s t]) k = (hasS s k && hasS t k) := by
      rw [← hasS_cut]
      split
      · rename_i e; rw [hasS_none e]; rfl
      · rw [hasSs_one]
    rw [cutL, hasSs_app, hone]
    simp only [List.length_cons] at h
    by_cases e : (cutS s t).f1 = s.f1
    · rw [if_pos e, cutL_has n a (t :: b) (by simp only [List.length_cons]; omega) (canon_tail ha) hb k, hasSs_cons s a, hasSs_cons t b]
      have hr : hasS s k = true → hasSs b k = false := fun hk => by
        refine rest_none hb ?_ hk
        unfold cutS leastE at e
        simp only at e
        by_cases c : s.f1 = emptyB ∨ (t.f1 ≠ emptyB ∧ klt t.f1 s.f1 = true)
        · rw [if_pos c] at e
          rcases c with c | c
          · exact .inl (e.trans c)
          · rw [e, klt_irrefl] at c; exact absurd c.2 (by simp)
        · by_cases ct : t.f1 = emptyB
          · exact .inl ct
          · refine .inr ⟨fun h => c (.inl h), ?_⟩
            cases hh : klt t.f1 s.f1 with
            | false => rfl
            | true => exact absurd (.inr ⟨ct, hh⟩) c
      cases h1 : hasS s k with
      | true => rw [hr h1]; cases hasS t k <;> cases hasSs a k <;> rfl
      | false => cases hasS t k <;> cases hasSs a k <;> cases hasSs b k <;> rfl
    · rw [if_neg e, cutL_has n (s :: a) b (by simp only [List.length_cons]; omega) ha (canon_tail hb) k, hasSs_cons s a, hasSs_cons t b]
      have hr : hasS t k = true → hasSs a k = false := fun hk => by
        refine rest_none ha ?_ hk
        unfold cutS leastE at e
        simp only at e
        by_cases c : s.f1 = emptyB ∨ (t.f1 ≠ emptyB ∧ klt t.f1 s.f1 = true)
        · rcases c with c | c
          · exact .inl c
          · exact .inr ⟨c.1, klt_asymm c.2⟩
        · rw [if_neg c] at e; exact absurd rfl e
      cases h1 : hasS t k with
      | true => rw [hr h1]; cases hasS s k <;> cases hasSs b k <;> rfl
      | false => cases hasS s k <;> cases hasSs a k <;> cases hasSs b k <;> rfl
theorem cutL_mem : ∀ (n : Nat) (a b : List S71), a.length + b.length ≤ n → ∀ d ∈ cutL a b, noneS d = false ∧ ∃ s ∈ a, ∃ t ∈ b, d = cutS s t
  | _, [], b, _, d, hd => by rw [cutL] at hd; cases hd
  | _, s :: a, [], _, d, hd => by rw [cutL] at hd; cases hd
  | 0, s :: a, t :: b, h, _, _ => by simp at h
  | n + 1, s :: a, t :: b, h, d, hd => by
    simp only [List.length_cons] at h
    rw [cutL] at hd
    rcases List.mem_append.1 hd with hd | hd
    · split at hd
      · cases hd
      · rename_i e
        rw [List.mem_singleton.1 hd]
        exact ⟨Bool.eq_false_iff.2 e, s, List.mem_cons_self .., t, List.mem_cons_self .., rfl⟩
    · split at hd
      · obtain ⟨h0, s', hs, t', ht, e⟩ := cutL_mem n a (t :: b) (by simp only [List.length_cons]; omega) d hd
        exact ⟨h0, s', List.mem_cons_of_mem _ hs, t', ht, e⟩
      · obtain ⟨h0, s', hs, t', ht, e⟩ := cutL_mem n (s :: a) b (by simp only [List.length_cons]; omega) d hd
        exact ⟨h0, s', hs, t', List.mem_cons_of_mem _ ht, e⟩
theorem cutS_from (s t : S71) : klt (cutS s t).f0 s.f0 = false ∧ klt (cutS s t).f0 t.f0 = false := by
  unfold cutS
  simp only
  by_cases h : klt s.f0 t.f0 = true
  · rw [if_pos h]; exact ⟨klt_asymm h, klt_irrefl _⟩
  · rw [if_neg h]; exact ⟨klt_irrefl _, Bool.eq_false_iff.2 h⟩
theorem cutL_canon : ∀ (n : Nat) (a b : List S71), a.length + b.length ≤ n → CanonU a → CanonU b → CanonU (cutL a b)
  | _, [], b, _, _, _ => by rw [cutL]; exact ⟨fun x hx => (by cases hx), List.Pairwise.nil⟩
  | _, s :: a, [], _, _, _ => by rw [cutL]; exact ⟨fun x hx => (by cases hx), List.Pairwise.nil⟩
  | 0, s :: a, t :: b, h, _, _ => by simp at h
  | n + 1, s :: a, t :: b, h, ha, hb => by
    refine ⟨fun d hd => (cutL_mem (n + 1) _ _ h d hd).1, ?_⟩
    simp only [List.length_cons] at h
    have hap : ∀ (x y z d : S71), Apart x y → z.f1 = x.f1 → klt d.f0 y.f0 = false → Apart z d := fun x y z d h1 h2 h3 => ⟨by rw [h2]; exact h1.1, by rw [h2]; exact klt_kle h1.2 h3⟩
    rw [cutL]
    by_cases e : (cutS s t).f1 = s.f1
    · rw [if_pos e]
      have ih := cutL_canon n a (t :: b) (by simp only [List.length_cons]; omega) (canon_tail ha) hb
      refine List.pairwise_append.2 ⟨by split <;> simp, ih.2, fun x hx d hd => ?_⟩
      split at hx
      · cases hx
      · rw [List.mem_singleton.1 hx]
        obtain ⟨_, s', hs, t', ht, rfl⟩ := cutL_mem n a (t :: b) (by simp only [List.length_cons]; omega) d hd
        exact hap s s' _ _ ((List.pairwise_cons.1 ha.2).1 s' hs) e (cutS_from s' t').1
    · rw [if_neg e]
      have ih := cutL_canon n (s :: a) b (by simp only [List.length_cons]; omega) ha (canon_tail hb)
      have e2 : (cutS s t).f1 = t.f1 := by
        unfold cutS leastE at e ⊢
        simp only at e ⊢
        by_cases c : s.f1 = emptyB ∨ (t.f1 ≠ emptyB ∧ klt t.f1 s.f1 = true)
        · rw [if_pos c]
        · rw [if_neg c] at e; exact absurd rfl e
      refine List.pairwise_append.2 ⟨by split <;> simp, ih.2, fun x hx d hd => ?_⟩
      split at hx
      · cases hx
      · rw [List.mem_singleton.1 hx]
        obtain ⟨_, s', hs, t', ht, rfl⟩ := cutL_mem n (s :: a) b (by simp only [List.length_cons]; omega) d hd
        exact hap t t' _ _ ((List.pairwise_cons.1 hb.2).1 t' ht) e2 (cutS_from s' t').2
end Go.Proofs.YtgmlenpcchhmbaaGreat.P
end
section
set_option linter.unusedVariables false
set_option linter.unusedSimpArgs false
namespace Go.Proofs.YtgmlenpcchhmbaaGreat.P
def floorP (P : ByteArray → Bool) (p : List ByteArray) (k : ByteArray) : Bool := p.foldl (fun b m => if klt k m = true then b else P m) false
theorem floor_snoc (P : ByteArray → Bool) (p : List ByteArray) (m k : ByteArray) : floorP P (p ++ [m]) k = if klt k m = true then floorP P p k else P m := by unfold floorP; rw [List.foldl_append]; rfl
theorem floor_at (P : ByteArray → Bool) : ∀ (n : Nat) (p : List ByteArray), p.length = n → RiseK p → ∀ k, ((∀ m ∈ p, klt k m = true) ∧ floorP P p k = false) ∨ ∃ m ∈ p, klt k m = false ∧ (∀ x ∈ p, klt m x = true → klt k x = true) ∧ floorP P p k = P m
  | 0, [], _, _, k => .inl ⟨fun m hm => by (cases hm), rfl⟩
  | 0, _ :: _, h, _, _ => by simp at h
  | n + 1, p, hn, hr, k => by
    rcases List.eq_nil_or_concat p with rfl | ⟨q, m, rfl⟩
    · simp at hn
    rw [List.concat_eq_append] at *
    have hp := List.pairwise_append.1 hr
    rw [floor_snoc]
    by_cases h : klt k m = true
    · rw [if_pos h]
      rcases floor_at P n q (by simpa using hn) hp.1 k with ⟨h1, h2⟩ | ⟨x, hx, h1, h2, h3⟩
      · refine .inl ⟨fun y hy => ?_, h2⟩
        rcases List.mem_append.1 hy with hy | hy
        · exact h1 y hy
        · rw [List.mem_singleton.1 hy]; exact h
      · refine .inr ⟨x, List.mem_append_left _ hx, h1, fun y hy hxy => ?_, h3⟩
        rcases List.mem_append.1 hy with hy | hy
        · exact h2 y hy hxy
        · rw [List.mem_singleton.1 hy]; exact h
    · rw [if_neg h]
      refine .inr ⟨m, by simp, Bool.eq_false_iff.2 h, fun y hy hmy => ?_, rfl⟩
      rcases List.mem_append.1 hy with hy | hy
      · have := hp.2.2 y hy m (by simp)
        rw [klt_asymm this] at hmy; cases hmy
      · rw [List.mem_singleton.1 hy, klt_irrefl] at hmy; cases hmy
theorem hasS_const {Ms : List ByteArray} {s : S71} (h0 : s.f0 ∈ Ms) (h1 : s.f1 ≠ emptyB → s.f1 ∈ Ms) {m k : ByteArray} (hm : klt k m = false) (hmk : ∀ x ∈ Ms, klt m x = true → klt k x = true) : hasS s k = hasS s m := by
  rw [Bool.eq_iff_iff, hasS_iff, hasS_iff]
  have e0 : klt k s.f0 = false ↔ klt m s.f0 = false := by
    constructor
    · intro h
      cases g : klt m s.f0 with
      | false => rfl
      | true => rw [hmk _ h0 g] at h; cases h
    · intro h; exact kle_trans h hm
  rw [e0]
  refine and_congr_right fun _ => ?_
  by_cases hne : s.f1 = emptyB
  · simp only [hne, true_or]
  simp only [hne, false_or];constructor
  · intro h; exact kle_klt hm h
  · intro h; exact hmk _ (h1 hne) h
theorem hasSs_const {Ms : List ByteArray} {l : List S71} (h : ∀ s ∈ l, s.f0 ∈ Ms ∧ (s.f1 ≠ emptyB → s.f1 ∈ Ms)) {m k : ByteArray} (hm : klt k m = false) (hmk : ∀ x ∈ Ms, klt m x = true → klt k x = true) : hasSs l k = hasSs l m := by
  unfold hasSs
  rw [Bool.eq_iff_iff, List.any_eq_true, List.any_eq_true]
  constructor
  · rintro ⟨s, hs, e⟩; exact ⟨s, hs, by rw [← hasS_const (h s hs).1 (h s hs).2 hm hmk]; exact e⟩
  · rintro ⟨s, hs, e⟩; exact ⟨s, hs, by rw [hasS_const (h s hs).1 (h s hs).2 hm hmk]; exact e⟩
theorem hasSs_ahead {Ms : List ByteArray} {l : List S71} (h : ∀ s ∈ l, s.f0 ∈ Ms) {k : ByteArray} (hk : ∀ x ∈ Ms, klt k x = true) : hasSs l k = false := by
  cases e : hasSs l k with
  | false => rfl
  | true =>
    obtain ⟨s, hs, e⟩ := List.any_eq_true.1 e
    have := ((hasS_iff s k).1 e).1
    rw [hk _ (h s hs)] at this; cases this
def setTo (out : List S71) (m : ByteArray) : List S71 := match out.getLast? with
  | none => out
  | some t => out.dropLast ++ [⟨t.f0, m⟩]
theorem setTo_snoc (init : List S71) (t : S71) (m : ByteArray) : setTo (init ++ [t]) m = init ++ [⟨t.f0, m⟩] := by unfold setTo; simp
def stepM (P : ByteArray → Bool) (st : Bool × List S71) (m : ByteArray) : Bool × List S71 :=
  (P m, if P m = true then (if st.1 = true then st.2 else st.2 ++ [⟨m, emptyB⟩]) else (if st.1 = true then setTo st.2 m else st.2))
def setM (P : ByteArray → Bool) (ms : List ByteArray) : Bool × List S71 := ms.foldl (stepM P) (false, [])
structure InvM (P : ByteArray → Bool) (p : List ByteArray) (st : Bool × List S71) : Prop where
  canon : CanonU st.2
  f0 : ∀ s ∈ st.2, s.f0 ∈ p
  f1 : ∀ s ∈ st.2, s.f1 ≠ emptyB → s.f1 ∈ p
  opn : st.1 = true → ∃ init f, st.2 = init ++ [⟨f, emptyB⟩]
  shut : st.1 = false → ∀ s ∈ st.2, s.f1 ≠ emptyB
  has : ∀ k, hasSs st.2 k = floorP P p k
theorem klt_nil (k : ByteArray) : klt k emptyB = false := by
  unfold klt
  show Op.bytesLess k.data.toList [] = false
  cases k.data.toList <;> rfl
theorem inv_step {P : ByteArray → Bool} {p : List ByteArray} {st : Bool × List S71} {m : ByteArray} (hr : RiseK (p ++ [m])) (h : InvM P p st) : InvM P (p ++ [m]) (stepM P st m) := by
  obtain ⟨o, out⟩ := st
  have hp := List.pairwise_append.1 hr
  have hlt : ∀ x ∈ p, klt x m = true := fun x hx => hp.2.2 x hx m (by simp)
  have up : ∀ {x : ByteArray}, x ∈ p → x ∈ p ++ [m] := fun hx => List.mem_append_left _ hx
  cases hP : P m with
  | true =>
    cases o with
    | true =>
      have e : stepM P (true, out) m = (true, out) := by unfold stepM; rw [hP]; rfl
      rw [e]
      refine ⟨h.canon, fun s hs => up (h.f0 s hs), fun s hs g => up (h.f1 s hs g), h.opn, h.shut, fun k => ?_⟩
      rw [floor_snoc, hP]
      split
      · exact h.has k
      · rename_i hk
        obtain ⟨init, f, e2⟩ := h.opn rfl
        have e3 : out = init ++ [⟨f, emptyB⟩] := e2
        show hasSs out k = true
        rw [e3, hasSs_app, hasSs_one]
        have hf : klt k f = false := kle_trans (klt_asymm (hlt f (h.f0 ⟨f, emptyB⟩ (by rw [e2]; simp)))) (Bool.eq_false_iff.2 hk)
        rw [(hasS_iff ⟨f, emptyB⟩ k).2 ⟨hf, .inl rfl⟩, Bool.or_true]
    | false =>
      have e : stepM P (false, out) m = (true, out ++ [⟨m, emptyB⟩]) := by unfold stepM; rw [hP]; rfl
      rw [e]
      refine ⟨⟨fun s hs => ?_, List.pairwise_append.2 ⟨h.canon.2, List.pairwise_singleton _ _, fun a ha b hb => ?_⟩⟩, fun s hs => ?_, fun s hs g => ?_, fun _ => ⟨out, m, rfl⟩, fun g => (by cases g), fun k => ?_⟩
      · rcases List.mem_append.1 hs with hs | hs
        · exact h.canon.1 s hs
        · rw [List.mem_singleton.1 hs]; exact noneS_false.2 (.inl rfl)
      · rw [List.mem_singleton.1 hb]
        exact ⟨h.shut rfl a ha, hlt _ (h.f1 a ha (h.shut rfl a ha))⟩
      · rcases List.mem_append.1 hs with hs | hs
        · exact up (h.f0 s hs)
        · rw [List.mem_singleton.1 hs]; simp
      · rcases List.mem_append.1 hs with hs | hs
        · exact up (h.f1 s hs g)
        · rw [List.mem_singleton.1 hs] at g; exact absurd rfl g
      · show hasSs (out ++ [⟨m, emptyB⟩]) k = _
        rw [hasSs_app, hasSs_one, floor_snoc, hP, show hasSs out k = _ from h.has k]
        by_cases hk : klt k m = true
        · rw [if_pos hk]
          have : hasS ⟨m, emptyB⟩ k = false := by
            cases g : hasS ⟨m, emptyB⟩ k with
            | false => rfl
            | true => have := ((hasS_iff _ _).1 g).1; rw [show klt k m = false from this] at hk; cases hk
          rw [this, Bool.or_false]
        · rw [if_neg hk, (hasS_iff ⟨m, emptyB⟩ k).2 ⟨Bool.eq_false_iff.2 hk, .inl rfl⟩, Bool.or_true]
  | false =>
    cases o with
    | false =>
      have e : stepM P (false, out) m = (false, out) := by unfold stepM; rw [hP]; rfl
      rw [e]
      refine ⟨h.canon, fun s hs => up (h.f0 s hs), fun s hs g => up (h.f1 s hs g), h.opn, h.shut, fun k => ?_⟩
      rw [floor_snoc, hP]
      split
      · exact h.has k
      · rename_i hk
        cases g : hasSs out k with
        | false => rfl
        | true =>
          obtain ⟨s, hs, g⟩ := List.any_eq_true.1 g
          have h1 := h.shut rfl s hs
          have h2 := ((hasS_iff s k).1 g).2.resolve_left h1
          have h3 := hlt _ (h.f1 s hs h1)
          exact absurd (klt_trans h2 h3) hk
    | true =>
      obtain ⟨init, f, e2⟩ := h.opn rfl
      have e3 : out = init ++ [⟨f, emptyB⟩] := e2
      subst e3
      have e : stepM P (true, init ++ [⟨f, emptyB⟩]) m = (false, init ++ [⟨f, m⟩]) := by
        unfold stepM
        rw [hP]
        show (false, setTo (init ++ [⟨f, emptyB⟩]) m) = _
        rw [setTo_snoc]
      rw [e]
      have hfm : klt f m = true := hlt f (h.f0 ⟨f, emptyB⟩ (by simp))
      have hme : m ≠ emptyB := fun g => by rw [g, klt_nil] at hfm; cases hfm
      have hpc := List.pairwise_append.1 h.canon.2
      have hin : ∀ s ∈ init, s.f1 ≠ emptyB ∧ klt s.f1 f = true := fun s hs => hpc.2.2 s hs ⟨f, emptyB⟩ (by simp)
      refine ⟨⟨fun s hs => ?_, List.pairwise_append.2 ⟨hpc.1, List.pairwise_singleton _ _, fun a ha b hb => ?_⟩⟩, fun s hs => ?_, fun s hs g => ?_, fun g => (by cases g), fun _ s hs => ?_, fun k => ?_⟩
      · rcases List.mem_append.1 hs with hs | hs
        · exact h.canon.1 s (List.mem_append_left _ hs)
        · rw [List.mem_singleton.1 hs]; exact noneS_false.2 (.inr hfm)
      · rw [List.mem_singleton.1 hb]; exact hin a ha
      · rcases List.mem_append.1 hs with hs | hs
        · exact up (h.f0 s (List.mem_append_left _ hs))
        · rw [List.mem_singleton.1 hs]; exact up (h.f0 ⟨f, emptyB⟩ (by simp))
      · rcases List.mem_append.1 hs with hs | hs
        · exact up (h.f1 s (List.mem_append_left _ hs) g)
        · rw [List.mem_singleton.1 hs]; simp
      · rcases List.mem_append.1 hs with hs | hs
        · exact (hin s hs).1
        · rw [List.mem_singleton.1 hs]; exact hme
      · show hasSs (init ++ [⟨f, m⟩]) k = _
        have ho : hasSs (init ++ [⟨f, emptyB⟩]) k = _ := h.has k
        rw [hasSs_app, hasSs_one] at ho
        rw [hasSs_app, hasSs_one, floor_snoc, hP, ← ho]
        by_cases hk : klt k m = true
        · rw [if_pos hk]
          congr 1
          rw [Bool.eq_iff_iff, hasS_iff, hasS_iff]
          simp [hk]
        · rw [if_neg hk]
          have h1 : hasSs init k = false := by
            cases g : hasSs init k with
            | false => rfl
            | true =>
              obtain ⟨s, hs, g⟩ := List.any_eq_true.1 g
              have h2 := ((hasS_iff s k).1 g).2.resolve_left (hin s hs).1
              exact absurd (klt_trans (klt_trans h2 (hin s hs).2) hfm) hk
          have h2 : hasS ⟨f, m⟩ k = false := by
            cases g : hasS ⟨f, m⟩ k with
            | false => rfl
            | true =>
              rcases ((hasS_iff _ _).1 g).2 with g | g
              · exact absurd g hme
              · exact absurd g hk
          rw [h1, h2]; rfl
theorem inv_fold {P : ByteArray → Bool} : ∀ (ms p : List ByteArray) (st : Bool × List S71), RiseK (p ++ ms) → InvM P p st → InvM P (p ++ ms) (ms.foldl (stepM P) st)
  | [], p, st, _, h => by rw [List.append_nil]; exact h
  | m :: ms, p, st, hr, h => by
    have e : p ++ m :: ms = (p ++ [m]) ++ ms := by simp
    rw [e] at hr ⊢
    exact inv_fold ms (p ++ [m]) _ hr (inv_step (List.pairwise_append.1 hr).1 h)
theorem setM_inv (P : ByteArray → Bool) (ms : List ByteArray) (hr : RiseK ms) : InvM P ms (setM P ms) := by
  have h0 : InvM P [] (false, []) := ⟨⟨fun s hs => by (cases hs), List.Pairwise.nil⟩, fun s hs => by (cases hs), fun s hs => by (cases hs), fun g => (by cases g), fun _ s hs => by (cases hs), fun k => rfl⟩
  have := inv_fold (P := P) ms [] (false, []) hr h0
  exact this
theorem setM_ok (a b : List S71) (q : Bool → Bool → Bool) (hq : q false false = false) :
    CanonU (setM (fun k => q (hasSs a k) (hasSs b k)) (marksL (a ++ b))).2 ∧ ∀ k, hasSs (setM (fun k => q (hasSs a k) (hasSs b k)) (marksL (a ++ b))).2 k = q (hasSs a k) (hasSs b k) := by
  have hi := setM_inv (fun k => q (hasSs a k) (hasSs b k)) (marksL (a ++ b)) (marks_rise _)
  refine ⟨hi.canon, fun k => ?_⟩
  rw [hi.has]
  have ha : ∀ s ∈ a, s.f0 ∈ marksL (a ++ b) ∧ (s.f1 ≠ emptyB → s.f1 ∈ marksL (a ++ b)) := fun s hs => ⟨(marks_mem _ _).2 ⟨s, List.mem_append_left _ hs, .inl rfl⟩, fun g => (marks_mem _ _).2 ⟨s, List.mem_append_left _ hs, .inr ⟨g, rfl⟩⟩⟩
  have hb : ∀ s ∈ b, s.f0 ∈ marksL (a ++ b) ∧ (s.f1 ≠ emptyB → s.f1 ∈ marksL (a ++ b)) := fun s hs => ⟨(marks_mem _ _).2 ⟨s, List.mem_append_right _ hs, .inl rfl⟩, fun g => (marks_mem _ _).2 ⟨s, List.mem_append_right _ hs, .inr ⟨g, rfl⟩⟩⟩
  rcases floor_at (fun k => q (hasSs a k) (hasSs b k)) _ (marksL (a ++ b)) rfl (marks_rise _) k with ⟨h1, h2⟩ | ⟨m, hm, h1, h2, h3⟩
  · rw [h2, hasSs_ahead (fun s hs => (ha s hs).1) h1, hasSs_ahead (fun s hs => (hb s hs).1) h1, hq]
  · rw [h3, hasSs_const ha h1 h2, hasSs_const hb h1 h2]
theorem setM_union (l : List S71) : (setM (fun k => hasSs l k || hasSs [] k) (marksL (l ++ []))).2 = unionT l := by
  obtain ⟨h1, h2⟩ := setM_ok l [] (· || ·) rfl
  have hp := List.mergeSort_perm (l.filter fun x => !emptyS x) fun x y => !klt y.f0 x.f0
  have hs := List.pairwise_mergeSort (le := fun (x y : S71) => !klt y.f0 x.f0) (fun a b c h1 h2 => by
      simp only [Bool.not_eq_true'] at *
      exact kle_trans h1 h2) (fun a b => by
      cases h : klt b.f0 a.f0 with
      | false => rfl
      | true => simp [klt_asymm h]) (l.filter fun x => !emptyS x)
  obtain ⟨g1, g2, _⟩ := unionT_of hp (hs.imp fun h => by simpa using h)
  refine canon_ext h1 g1 fun k => ?_
  rw [h2, g2]
  show (hasSs l k || hasSs [] k) = _
  rw [show hasSs [] k = false from rfl, Bool.or_false]
theorem setM_cut (a b : List S71) (ha : CanonU a) (hb : CanonU b) : (setM (fun k => hasSs a k && hasSs b k) (marksL (a ++ b))).2 = cutL a b := by
  obtain ⟨h1, h2⟩ := setM_ok a b (· && ·) rfl
  exact canon_ext h1 (cutL_canon _ a b (Nat.le_refl _) ha hb) fun k => by rw [h2, cutL_has _ a b (Nat.le_refl _) ha hb]
theorem unionT_canon (l : List S71) : CanonU (unionT l) ∧ ∀ k, hasSs (unionT l) k = hasSs l k := by
  have hp := List.mergeSort_perm (l.filter fun x => !emptyS x) fun x y => !klt y.f0 x.f0
  have hs := List.pairwise_mergeSort (le := fun (x y : S71) => !klt y.f0 x.f0) (fun a b c h1 h2 => by
      simp only [Bool.not_eq_true'] at *
      exact kle_trans h1 h2) (fun a b => by
      cases h : klt b.f0 a.f0 with
      | false => rfl
      | true => simp [klt_asymm h]) (l.filter fun x => !emptyS x)
  obtain ⟨g1, g2, _⟩ := unionT_of hp (hs.imp fun h => by simpa using h)
  exact ⟨g1, g2⟩
end Go.Proofs.YtgmlenpcchhmbaaGreat.P
end
