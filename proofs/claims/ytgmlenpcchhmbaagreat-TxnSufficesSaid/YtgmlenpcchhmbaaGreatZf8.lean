/- what the claim's row stands on, part 8. -/
import Derived.Test.YtgmlenpcchhmbaaGreatZf7
import Derived.Test.YtgmlenpcchhmbaaGreatZf2
import Derived.Test.YtgmlenpcchhmbaaGreatZf4
section
set_option linter.unusedVariables false
set_option linter.unusedSimpArgs false
namespace Go.Proofs.YtgmlenpcchhmbaaGreat.P
open Go.RowKit Go.Proofs.YtgmlenpcchhmbaaGreatW.PrintWords Go.Proofs.YtgmlenpcchhmbaaGreatW.PrintLast Go.Proofs.YtgmlenpcchhmbaaGreatW.PrintMore
def StepOut (w : World) (g mb cb : Nat) (a : S65) (s' : St) (e : Ending) (w' : World) : Prop :=
  ∃ vs, e = .returned (.agg #[.bool a.f0, .int .u64 a.f1, vs]) ∧ Kd.R k61 61 w' w.heap.size (fun _ => True) vs a.f2 ∧ RunIs w' g mb cb s' ∧ Upd w w' (fun b => b = mb ∨ b = cb)
abbrev opV (o : S63) : Value := .agg #[.int .i64 o.f0, .string o.f1, .string o.f2, .int .u64 o.f3]
theorem StepOut.drew {w : World} {g mb cb : Nat} {a : S65} {s' : St} {e : Ending} {w' : World} (h : StepOut w g mb cb a s' e w') : StepOut w g mb cb a s' e w'.drew := by
  obtain ⟨vs, he, hv, hr, hu⟩ := h
  exact ⟨vs, he, Kd.R_drew hv, hr.below (below_drew (Below.refl _ _)), hu.drew⟩
structure Boxed (w W : World) (g mb cb : Nat) (s : St) (o : S63) (y : Bool) (n : Int) (v : Value) : Prop where
  upd : Upd w W (fun b => b = mb ∨ b = cb)
  run : RunIs W g mb cb s
  op : Blk W w.heap.size 63 #[.int .i64 o.f0, .string o.f1, .string o.f2, .int .u64 o.f3]
  ans : Blk W (w.heap.size + 1) 65 #[.bool y, .int .u64 n, v]
theorem boxed {w : World} {g mb cb : Nat} {s : St} (h : RunIs w g mb cb s) (o : S63) : Boxed w ((w.alloc (.cells #[.int .i64 o.f0, .string o.f1, .string o.f2, .int .u64 o.f3] 63)).alloc (.cells #[.bool false, .int .u64 0, .slice none 0 0] 65)) g mb cb s o false 0 (.slice none 0 0) := by
  have hb : Below w.heap.size w ((w.alloc (.cells #[.int .i64 o.f0, .string o.f1, .string o.f2, .int .u64 o.f3] 63)).alloc (.cells #[.bool false, .int .u64 0, .slice none 0 0] 65)) := ((Below.refl _ _).alloc (Nat.le_refl _) _).alloc (by simp) _
  refine ⟨Upd.of_below hb _, h.below hb, (Blk.new w 63 _).alloc _, ?_⟩
  have := Blk.new (w.alloc (.cells #[.int .i64 o.f0, .string o.f1, .string o.f2, .int .u64 o.f3] 63)) 65 #[.bool false, .int .u64 0, .slice none 0 0]
  simpa using this
theorem Boxed.lt {w W : World} {g mb cb : Nat} {s : St} {o : S63} {y : Bool} {n : Int} {v : Value} (h : Boxed w W g mb cb s o y n v) (hr : RunIs w g mb cb s) : g < w.heap.size ∧ mb < w.heap.size ∧ cb < w.heap.size := ⟨hr.blk.lt, hr.d.lt, hr.c.lt⟩
theorem Boxed.drew {w W : World} {g mb cb : Nat} {s : St} {o : S63} {y : Bool} {n : Int} {v : Value} (h : Boxed w W g mb cb s o y n v) : Boxed w W.drew g mb cb s o y n v := ⟨h.upd.drew, h.run.below (below_drew (Below.refl _ _)), h.op.drew, h.ans.drew⟩
theorem Boxed.out {w W : World} {g mb cb : Nat} {s : St} {o : S63} {y y' : Bool} {n n' : Int} {v vs : Value} {ps : List S61} (h : Boxed w W g mb cb s o y n v) (hl : g < w.heap.size ∧ mb < w.heap.size ∧ cb < w.heap.size) (hv : Kd.R k61 61 W w.heap.size (fun q => q ≠ w.heap.size + 1) vs ps) :
    StepOut w g mb cb ⟨y', n', ps⟩ s (.returned (.agg #[.bool y', .int .u64 n', vs])) (((W.setCell ⟨w.heap.size + 1, 0, none⟩ (.bool y')).setCell ⟨w.heap.size + 1, 1, none⟩ (.int .u64 n')).setCell ⟨w.heap.size + 1, 2, none⟩ vs) := by
  have hu : Upd W (((W.setCell ⟨w.heap.size + 1, 0, none⟩ (.bool y')).setCell ⟨w.heap.size + 1, 1, none⟩ (.int .u64 n')).setCell ⟨w.heap.size + 1, 2, none⟩ vs) (· = w.heap.size + 1) :=
    (((Upd.refl W (· = w.heap.size + 1)).setCell (p := ⟨w.heap.size + 1, 0, none⟩) (.inl rfl) _).setCell (p := ⟨w.heap.size + 1, 1, none⟩) (.inl rfl) _).setCell (p := ⟨w.heap.size + 1, 2, none⟩) (.inl rfl) _
  refine ⟨vs, rfl, Kd.R_mono (Kd.R_step hv (fun k hk hlt => hu.block k hlt hk)) (fun _ _ => trivial), h.run.upd hu (by omega) (by omega) (by omega), ?_⟩
  exact ((h.upd.setCell (p := ⟨w.heap.size + 1, 0, none⟩) (.inr (Nat.le_succ _)) _).setCell (p := ⟨w.heap.size + 1, 1, none⟩) (.inr (Nat.le_succ _)) _).setCell (p := ⟨w.heap.size + 1, 2, none⟩) (.inr (Nat.le_succ _)) _
theorem Boxed.fin {w W : World} {g mb cb : Nat} {s : St} {o : S63} {y y' : Bool} {n n' : Int} {v vs : Value} (h : Boxed w W g mb cb s o y n v) : Blk (((W.setCell ⟨w.heap.size + 1, 0, none⟩ (.bool y')).setCell ⟨w.heap.size + 1, 1, none⟩ (.int .u64 n')).setCell ⟨w.heap.size + 1, 2, none⟩ vs) (w.heap.size + 1) 65 #[.bool y', .int .u64 n', vs] :=
  ((h.ans.set_ 0 _).set_ 1 _).set_ 2 _
theorem Boxed.put {w W W' : World} {g mb cb : Nat} {s s' : St} {o : S63} {y : Bool} {n : Int} {v : Value} (h : Boxed w W g mb cb s o y n v) (hl : g < w.heap.size ∧ mb < w.heap.size ∧ cb < w.heap.size) (hr : RunIs W' g mb cb s') (hu : Upd W W' (fun b => b = mb ∨ b = cb)) : Boxed w W' g mb cb s' o y n v :=
  ⟨h.upd.trans hu, hr, h.op.upd hu (by omega), h.ans.upd hu (by omega)⟩
theorem Boxed.drewN {w W : World} {g mb cb : Nat} {s : St} {o : S63} {y : Bool} {n : Int} {v : Value} (h : Boxed w W g mb cb s o y n v) (m : Nat) : Boxed w (W.drewN m) g mb cb s o y n v := ⟨h.upd.drewN m, h.run.below (pw_below_drewN (Below.refl _ _) m), h.op.drewN m, h.ans.drewN m⟩
section
variable {w : World} {g mb cb : Nat} {s : St}
set_option maxHeartbeats 1000000 in
set_option maxRecDepth 100000 in
theorem rnget_any (h : RunIs w g mb cb s) (o : S63) (hk : o.f1.size ≤ maxLen) : Calls Tryz.prog 109 #[ptrR g, opV o] w (StepOut w g mb cb ⟨s.has o.f1, s.at o.f1, []⟩ s) := by
  have hX := boxed h o
  obtain ⟨W, hW⟩ : ∃ W, ((w.alloc (.cells #[.int .i64 o.f0, .string o.f1, .string o.f2, .int .u64 o.f3] 63)).alloc (.cells #[.bool false, .int .u64 0, .slice none 0 0] 65)) = W := ⟨_, rfl⟩
  rw [hW] at hX
  have hlt := hX.lt h
  have hg : W.cell? ⟨g, 0, none⟩ = some (.map (some mb)) := hX.run.blk.cell 0
  have hk1 : W.cell? ⟨w.heap.size, 1, none⟩ = some (.string o.f1) := hX.op.cell 1
  have hl := (hX.drew.run.d).look Tryz.underlying103 (zeroNum _) hk
  have hy : (getL s.d o.f1).isSome = s.has o.f1 := rfl
  have hn : ((getL s.d o.f1).map encN).getD (.int .u64 0) = .int .u64 (s.at o.f1) := by unfold St.at; cases getL s.d o.f1 <;> rfl
  rw [hy, hn] at hl
  clear hy hn
  generalize s.has o.f1 = y at *
  generalize s.at o.f1 = n at *
  have HX := Lib.hid (And.intro hX hlt); clear h hX hlt
  go_enter Tryz.func109, Tryz.ntmps109
  go_upto_region 1 with fail
  clear hW
  refine wp_region_held (S := (fun W => W.cell? ⟨g, 0, none⟩ = some (.map (some mb)) ∧ W.cell? ⟨w.heap.size, 1, none⟩ = some (.string o.f1) ∧ (Instr.lookup 103 (.map (some mb)) (.string o.f1) true).run Tryz.prog W = .ok (.tuple #[.int .u64 n, .bool y]) W)) (by kernel_rfl) ?_
  simp only [List.size_toArray, List.length_cons, List.length_nil, Nat.zero_add, Nat.reduceAdd]
  have hHeld : ((fun W => W.cell? ⟨g, 0, none⟩ = some (.map (some mb)) ∧ W.cell? ⟨w.heap.size, 1, none⟩ = some (.string o.f1) ∧ (Instr.lookup 103 (.map (some mb)) (.string o.f1) true).run Tryz.prog W = .ok (.tuple #[.int .u64 n, .bool y]) W)) W.drew := ⟨hg, hk1, hl⟩
  refine wpAnyH_take (i := 0) (v := ?_) rfl (by kernel_rfl) (by kernel_rfl) (by kernel_rfl) (fun _ _ _ h => h) (Or.inl ⟨by rfl, ?_⟩) (by assumption) ?_
  rotate_left
  · (intro w hSw; (try dsimp only at hSw); go_split_ands; go_simp; try with_reducible rfl)
  try simp only [List.getElem_toArray, List.getElem_cons_succ, List.getElem_cons_zero, Act.put, List.setIfInBounds_toArray, List.set_cons_zero, List.set_cons_succ]
  refine wpAnyH_take (i := 1) (v := ?_) rfl (by kernel_rfl) (by kernel_rfl) (by kernel_rfl) (fun _ _ _ h => h) (Or.inl ⟨by rfl, ?_⟩) (by assumption) ?_
  rotate_left
  · (intro w hSw; (try dsimp only at hSw); go_split_ands; go_simp; try with_reducible rfl)
  try simp only [List.getElem_toArray, List.getElem_cons_succ, List.getElem_cons_zero, Act.put, List.setIfInBounds_toArray, List.set_cons_zero, List.set_cons_succ]
  refine wpAnyH_take (i := 2) (v := ?_) rfl (by kernel_rfl) (by kernel_rfl) (by kernel_rfl) (fun _ _ _ h => h) (Or.inl ⟨by rfl, ?_⟩) (by assumption) ?_
  rotate_left
  · (intro w hSw; (try dsimp only at hSw); go_split_ands; go_simp; try with_reducible rfl)
  try simp only [List.getElem_toArray, List.getElem_cons_succ, List.getElem_cons_zero, Act.put, List.setIfInBounds_toArray, List.set_cons_zero, List.set_cons_succ]
  refine wpAnyH_take (i := 3) (v := ?_) rfl (by kernel_rfl) (by kernel_rfl) (by kernel_rfl) (fun _ _ _ h => h) (Or.inl ⟨by rfl, ?_⟩) (by assumption) ?_
  rotate_left
  · (intro w hSw; (try dsimp only at hSw); go_split_ands; go_simp; try with_reducible rfl)
  try simp only [List.getElem_toArray, List.getElem_cons_succ, List.getElem_cons_zero, Act.put, List.setIfInBounds_toArray, List.set_cons_zero, List.set_cons_succ]
  refine wpAnyH_take (i := 4) (v := ?_) rfl (by kernel_rfl) (by kernel_rfl) (by kernel_rfl) (fun _ _ _ h => h) (Or.inl ⟨by rfl, ?_⟩) (by assumption) ?_
  rotate_left
  · (intro w hSw; (try dsimp only at hSw); go_split_ands; go_simp; try with_reducible rfl)
  try simp only [List.getElem_toArray, List.getElem_cons_succ, List.getElem_cons_zero, Act.put, List.setIfInBounds_toArray, List.set_cons_zero, List.set_cons_succ]
  refine wpAnyH_take (i := 5) (v := ?_) rfl (by kernel_rfl) (by kernel_rfl) (by kernel_rfl) (fun _ _ _ h => h) (Or.inl ⟨by rfl, ?_⟩) (by assumption) ?_
  rotate_left
  · (intro w hSw; (try dsimp only at hSw); go_split_ands; go_simp; try with_reducible rfl)
  try simp only [List.getElem_toArray, List.getElem_cons_succ, List.getElem_cons_zero, Act.put, List.setIfInBounds_toArray, List.set_cons_zero, List.set_cons_succ]
  refine wpAnyH_take (i := 6) (v := ?_) rfl (by kernel_rfl) (by kernel_rfl) (by kernel_rfl) (fun _ _ _ h => h) (Or.inl ⟨by rfl, ?_⟩) (by assumption) ?_
  rotate_left
  · (intro w hSw; (try dsimp only at hSw); go_split_ands; go_simp; try with_reducible rfl)
  try simp only [List.getElem_toArray, List.getElem_cons_succ, List.getElem_cons_zero, Act.put, List.setIfInBounds_toArray, List.set_cons_zero, List.set_cons_succ]
  refine wpAnyH_take (i := 7) (v := ?_) rfl (by kernel_rfl) (by kernel_rfl) (by kernel_rfl) (fun _ _ _ h => h) (Or.inl ⟨by rfl, ?_⟩) (by assumption) ?_
  rotate_left
  · (intro w hSw; (try dsimp only at hSw); go_split_ands; go_simp; try with_reducible rfl)
  try simp only [List.getElem_toArray, List.getElem_cons_succ, List.getElem_cons_zero, Act.put, List.setIfInBounds_toArray, List.set_cons_zero, List.set_cons_succ]
  refine wpAnyH_take (i := 8) (v := ?_) rfl (by kernel_rfl) (by kernel_rfl) (by kernel_rfl) (fun _ _ _ h => h) (Or.inl ⟨by rfl, ?_⟩) (by assumption) ?_
  rotate_left
  · (intro w hSw; (try dsimp only at hSw); go_split_ands; go_simp; try with_reducible rfl)
  try simp only [List.getElem_toArray, List.getElem_cons_succ, List.getElem_cons_zero, Act.put, List.setIfInBounds_toArray, List.set_cons_zero, List.set_cons_succ]
  refine wpAnyH_take (i := 9) (v := ?_) rfl (by kernel_rfl) (by kernel_rfl) (by kernel_rfl) (fun _ _ _ h => h) (Or.inl ⟨by rfl, ?_⟩) (by assumption) ?_
  rotate_left
  · (intro w hSw; (try dsimp only at hSw); go_split_ands; go_simp; try with_reducible rfl)
  try simp only [List.getElem_toArray, List.getElem_cons_succ, List.getElem_cons_zero, Act.put, List.setIfInBounds_toArray, List.set_cons_zero, List.set_cons_succ]
  refine wpAnyH_take (i := 10) (v := ?_) rfl (by kernel_rfl) (by kernel_rfl) (by kernel_rfl) (fun _ _ _ h => h) (Or.inl ⟨by rfl, ?_⟩) (by assumption) ?_
  rotate_left
  · (intro w hSw; (try dsimp only at hSw); go_split_ands; go_simp; try with_reducible rfl)
  try simp only [List.getElem_toArray, List.getElem_cons_succ, List.getElem_cons_zero, Act.put, List.setIfInBounds_toArray, List.set_cons_zero, List.set_cons_succ]
  refine wpAnyH_take (i := 11) (v := ?_) rfl (by kernel_rfl) (by kernel_rfl) (by kernel_rfl) (fun _ _ _ h => h) (Or.inl ⟨by rfl, ?_⟩) (by assumption) ?_
  rotate_left
  · (intro w hSw; (try dsimp only at hSw); go_split_ands; go_simp; try with_reducible rfl)
  try simp only [List.getElem_toArray, List.getElem_cons_succ, List.getElem_cons_zero, Act.put, List.setIfInBounds_toArray, List.set_cons_zero, List.set_cons_succ]
  refine wpAnyH_done (by kernel_rfl) ?_ _
  clear hHeld hl hg hk1
  have a0 : W.cell? ⟨w.heap.size + 1, 0, none⟩ = some (.bool false) := HX.out.1.ans.cell 0
  have a1 : W.cell? ⟨w.heap.size + 1, 1, none⟩ = some (.int .u64 0) := HX.out.1.ans.cell 1
  have a2 : W.cell? ⟨w.heap.size + 1, 2, none⟩ = some (.slice none 0 0) := HX.out.1.ans.cell 2
  have z0 := HX.out.1.ans.frozen 0
  have z1 := HX.out.1.ans.frozen 1
  have z2 := HX.out.1.ans.frozen 2
  go_wp2
  refine bodyPost_ret (results_cell_row (by rfl) _ _ (w.heap.size + 1) 65 #[.bool y, .int .u64 n, .slice none 0 0] (0, 0) _ (by rfl) HX.out.1.fin.drew Tryz.underlying65 (by rfl) (by kernel_rfl)) rfl ?_
  exact (HX.out.1.out HX.out.2 (Kd.R_nil _ _ _ _ _)).drew
set_option maxHeartbeats 1000000 in
set_option maxRecDepth 100000 in
theorem rnset_any (h : RunIs w g mb cb s) (hs : s.small) (o : S63) (hk : o.f1.size ≤ maxLen) : Calls Tryz.prog 111 #[ptrR g, opV o] w (StepOut w g mb cb ⟨true, 0, []⟩ (s.put o.f1 o.f3)) := by
  have hX := boxed h o
  obtain ⟨W, hW⟩ : ∃ W, ((w.alloc (.cells #[.int .i64 o.f0, .string o.f1, .string o.f2, .int .u64 o.f3] 63)).alloc (.cells #[.bool false, .int .u64 0, .slice none 0 0] 65)) = W := ⟨_, rfl⟩
  rw [hW] at hX
  have hlt := hX.lt h
  have hk1 : W.cell? ⟨w.heap.size, 1, none⟩ = some (.string o.f1) := hX.op.cell 1
  have hk3 : W.cell? ⟨w.heap.size, 3, none⟩ = some (.int .u64 o.f3) := hX.op.cell 3
  have HP := Lib.hid (rnput_any hX.run hs o.f1 hk o.f3)
  have HX := Lib.hid (And.intro hX hlt); clear h hX hlt
  go_enter Tryz.func111, Tryz.ntmps111
  go_wp2_with fail
  refine HP.out.mono ?_
  rintro e w1 ⟨rfl, hr1, hu1⟩
  have HX1 := Lib.hid (And.intro (HX.out.1.put HX.out.2 hr1 hu1) HX.out.2)
  clear hr1 hu1 hW hk1 hk3
  have a0 : w1.cell? ⟨w.heap.size + 1, 0, none⟩ = some (.bool false) := HX1.out.1.ans.cell 0
  have a1 : w1.cell? ⟨w.heap.size + 1, 1, none⟩ = some (.int .u64 0) := HX1.out.1.ans.cell 1
  have a2 : w1.cell? ⟨w.heap.size + 1, 2, none⟩ = some (.slice none 0 0) := HX1.out.1.ans.cell 2
  have z0 := HX1.out.1.ans.frozen 0
  have z1 := HX1.out.1.ans.frozen 1
  have z2 := HX1.out.1.ans.frozen 2
  go_wp2
  refine bodyPost_ret (results_cell_row (by rfl) _ _ (w.heap.size + 1) 65 #[.bool true, .int .u64 0, .slice none 0 0] (0, 0) _ (by rfl) HX1.out.1.fin Tryz.underlying65 (by rfl) (by kernel_rfl)) rfl ?_
  exact HX1.out.1.out HX1.out.2 (Kd.R_nil _ _ _ _ _)
set_option maxHeartbeats 1000000 in
set_option maxRecDepth 100000 in
theorem rnadd_any (h : RunIs w g mb cb s) (hs : s.small) (o : S63) (hk : o.f1.size ≤ maxLen) : Calls Tryz.prog 112 #[ptrR g, opV o] w (StepOut w g mb cb ⟨s.has o.f1, addN (s.at o.f1) o.f3, []⟩ (s.put o.f1 (addN (s.at o.f1) o.f3))) := by
  have hX := boxed h o
  obtain ⟨W, hW⟩ : ∃ W, ((w.alloc (.cells #[.int .i64 o.f0, .string o.f1, .string o.f2, .int .u64 o.f3] 63)).alloc (.cells #[.bool false, .int .u64 0, .slice none 0 0] 65)) = W := ⟨_, rfl⟩
  rw [hW] at hX
  have hlt := hX.lt h
  have hg : W.cell? ⟨g, 0, none⟩ = some (.map (some mb)) := hX.run.blk.cell 0
  have hk1 : W.cell? ⟨w.heap.size, 1, none⟩ = some (.string o.f1) := hX.op.cell 1
  have hl := (hX.drew.run.d).look Tryz.underlying103 (zeroNum _) hk
  have hy : (getL s.d o.f1).isSome = s.has o.f1 := rfl
  have hn : ((getL s.d o.f1).map encN).getD (.int .u64 0) = .int .u64 (s.at o.f1) := by unfold St.at; cases getL s.d o.f1 <;> rfl
  rw [hy, hn] at hl
  clear hy hn
  have hnew : ((getL (s.put o.f1 (addN (s.at o.f1) o.f3)).d o.f1).map encN).getD (.int .u64 0) = .int .u64 (addN (s.at o.f1) o.f3) := by
    show ((getL (putL s.d o.f1 (addN (s.at o.f1) o.f3)) o.f1).map encN).getD _ = _
    rw [getL_put, if_pos rfl]; rfl
  have HA := Lib.hid (nAdd_any (s.at o.f1) o.f3)
  generalize s.has o.f1 = y at *
  generalize s.at o.f1 = n at *
  generalize addN n o.f3 = m at *
  have HNEW := Lib.hid hnew; clear hnew
  have HX := Lib.hid (And.intro hX hlt); clear h hX hlt
  go_enter Tryz.func112, Tryz.ntmps112
  go_upto_region 1 with fail
  clear hW
  refine wp_region_held (S := (fun W => W.cell? ⟨g, 0, none⟩ = some (.map (some mb)) ∧ W.cell? ⟨w.heap.size, 1, none⟩ = some (.string o.f1) ∧ (Instr.lookup 103 (.map (some mb)) (.string o.f1) true).run Tryz.prog W = .ok (.tuple #[.int .u64 n, .bool y]) W)) (by kernel_rfl) ?_
  simp only [List.size_toArray, List.length_cons, List.length_nil, Nat.zero_add, Nat.reduceAdd]
  have hHeld : ((fun W => W.cell? ⟨g, 0, none⟩ = some (.map (some mb)) ∧ W.cell? ⟨w.heap.size, 1, none⟩ = some (.string o.f1) ∧ (Instr.lookup 103 (.map (some mb)) (.string o.f1) true).run Tryz.prog W = .ok (.tuple #[.int .u64 n, .bool y]) W)) W.drew := ⟨hg, hk1, hl⟩
  refine wpAnyH_take (i := 0) (v := ?_) rfl (by kernel_rfl) (by kernel_rfl) (by kernel_rfl) (fun _ _ _ h => h) (Or.inl ⟨by rfl, ?_⟩) (by assumption) ?_
  rotate_left
  · (intro w hSw; (try dsimp only at hSw); go_split_ands; go_simp; try with_reducible rfl)
  try simp only [List.getElem_toArray, List.getElem_cons_succ, List.getElem_cons_zero, Act.put, List.setIfInBounds_toArray, List.set_cons_zero, List.set_cons_succ]
  refine wpAnyH_take (i := 1) (v := ?_) rfl (by kernel_rfl) (by kernel_rfl) (by kernel_rfl) (fun _ _ _ h => h) (Or.inl ⟨by rfl, ?_⟩) (by assumption) ?_
  rotate_left
  · (intro w hSw; (try dsimp only at hSw); go_split_ands; go_simp; try with_reducible rfl)
  try simp only [List.getElem_toArray, List.getElem_cons_succ, List.getElem_cons_zero, Act.put, List.setIfInBounds_toArray, List.set_cons_zero, List.set_cons_succ]
  refine wpAnyH_take (i := 2) (v := ?_) rfl (by kernel_rfl) (by kernel_rfl) (by kernel_rfl) (fun _ _ _ h => h) (Or.inl ⟨by rfl, ?_⟩) (by assumption) ?_
  rotate_left
  · (intro w hSw; (try dsimp only at hSw); go_split_ands; go_simp; try with_reducible rfl)
  try simp only [List.getElem_toArray, List.getElem_cons_succ, List.getElem_cons_zero, Act.put, List.setIfInBounds_toArray, List.set_cons_zero, List.set_cons_succ]
  refine wpAnyH_take (i := 3) (v := ?_) rfl (by kernel_rfl) (by kernel_rfl) (by kernel_rfl) (fun _ _ _ h => h) (Or.inl ⟨by rfl, ?_⟩) (by assumption) ?_
  rotate_left
  · (intro w hSw; (try dsimp only at hSw); go_split_ands; go_simp; try with_reducible rfl)
  try simp only [List.getElem_toArray, List.getElem_cons_succ, List.getElem_cons_zero, Act.put, List.setIfInBounds_toArray, List.set_cons_zero, List.set_cons_succ]
  refine wpAnyH_take (i := 4) (v := ?_) rfl (by kernel_rfl) (by kernel_rfl) (by kernel_rfl) (fun _ _ _ h => h) (Or.inl ⟨by rfl, ?_⟩) (by assumption) ?_
  rotate_left
  · (intro w hSw; (try dsimp only at hSw); go_split_ands; go_simp; try with_reducible rfl)
  try simp only [List.getElem_toArray, List.getElem_cons_succ, List.getElem_cons_zero, Act.put, List.setIfInBounds_toArray, List.set_cons_zero, List.set_cons_succ]
  refine wpAnyH_take (i := 5) (v := ?_) rfl (by kernel_rfl) (by kernel_rfl) (by kernel_rfl) (fun _ _ _ h => h) (Or.inl ⟨by rfl, ?_⟩) (by assumption) ?_
  rotate_left
  · (intro w hSw; (try dsimp only at hSw); go_split_ands; go_simp; try with_reducible rfl)
  try simp only [List.getElem_toArray, List.getElem_cons_succ, List.getElem_cons_zero, Act.put, List.setIfInBounds_toArray, List.set_cons_zero, List.set_cons_succ]
  refine wpAnyH_take (i := 6) (v := ?_) rfl (by kernel_rfl) (by kernel_rfl) (by kernel_rfl) (fun _ _ _ h => h) (Or.inl ⟨by rfl, ?_⟩) (by assumption) ?_
  rotate_left
  · (intro w hSw; (try dsimp only at hSw); go_split_ands; go_simp; try with_reducible rfl)
  try simp only [List.getElem_toArray, List.getElem_cons_succ, List.getElem_cons_zero, Act.put, List.setIfInBounds_toArray, List.set_cons_zero, List.set_cons_succ]
  refine wpAnyH_take (i := 7) (v := ?_) rfl (by kernel_rfl) (by kernel_rfl) (by kernel_rfl) (fun _ _ _ h => h) (Or.inl ⟨by rfl, ?_⟩) (by assumption) ?_
  rotate_left
  · (intro w hSw; (try dsimp only at hSw); go_split_ands; go_simp; try with_reducible rfl)
  try simp only [List.getElem_toArray, List.getElem_cons_succ, List.getElem_cons_zero, Act.put, List.setIfInBounds_toArray, List.set_cons_zero, List.set_cons_succ]
  refine wpAnyH_take (i := 8) (v := ?_) rfl (by kernel_rfl) (by kernel_rfl) (by kernel_rfl) (fun _ _ _ h => h) (Or.inl ⟨by rfl, ?_⟩) (by assumption) ?_
  rotate_left
  · (intro w hSw; (try dsimp only at hSw); go_split_ands; go_simp; try with_reducible rfl)
  try simp only [List.getElem_toArray, List.getElem_cons_succ, List.getElem_cons_zero, Act.put, List.setIfInBounds_toArray, List.set_cons_zero, List.set_cons_succ]
  refine wpAnyH_take (i := 9) (v := ?_) rfl (by kernel_rfl) (by kernel_rfl) (by kernel_rfl) (fun _ _ _ h => h) (Or.inl ⟨by rfl, ?_⟩) (by assumption) ?_
  rotate_left
  · (intro w hSw; (try dsimp only at hSw); go_split_ands; go_simp; try with_reducible rfl)
  try simp only [List.getElem_toArray, List.getElem_cons_succ, List.getElem_cons_zero, Act.put, List.setIfInBounds_toArray, List.set_cons_zero, List.set_cons_succ]
  refine wpAnyH_take (i := 10) (v := ?_) rfl (by kernel_rfl) (by kernel_rfl) (by kernel_rfl) (fun _ _ _ h => h) (Or.inl ⟨by rfl, ?_⟩) (by assumption) ?_
  rotate_left
  · (intro w hSw; (try dsimp only at hSw); go_split_ands; go_simp; try with_reducible rfl)
  try simp only [List.getElem_toArray, List.getElem_cons_succ, List.getElem_cons_zero, Act.put, List.setIfInBounds_toArray, List.set_cons_zero, List.set_cons_succ]
  refine wpAnyH_take (i := 11) (v := ?_) rfl (by kernel_rfl) (by kernel_rfl) (by kernel_rfl) (fun _ _ _ h => h) (Or.inl ⟨by rfl, ?_⟩) (by assumption) ?_
  rotate_left
  · (intro w hSw; (try dsimp only at hSw); go_split_ands; go_simp; try with_reducible rfl)
  try simp only [List.getElem_toArray, List.getElem_cons_succ, List.getElem_cons_zero, Act.put, List.setIfInBounds_toArray, List.set_cons_zero, List.set_cons_succ]
  refine wpAnyH_done (by kernel_rfl) ?_ _
  clear hHeld hl hg
  have hk3 : W.cell? ⟨w.heap.size, 3, none⟩ = some (.int .u64 o.f3) := HX.out.1.op.cell 3
  go_upto_region 2 with fail
  refine wp_region_last1_held (S := (fun V => Drawn0 W V ∧ V.cell? ⟨w.heap.size, 1, none⟩ = some (.string o.f1) ∧ V.cell? ⟨w.heap.size, 3, none⟩ = some (.int .u64 o.f3))) (l := [_, _, _, _, _, _, _]) (o := _) (by kernel_rfl) (by kernel_rfl) ?_
  simp only [List.size_toArray, List.length_cons, List.length_nil, Nat.zero_add, Nat.reduceAdd]
  have hHeld : ((fun V => Drawn0 W V ∧ V.cell? ⟨w.heap.size, 1, none⟩ = some (.string o.f1) ∧ V.cell? ⟨w.heap.size, 3, none⟩ = some (.int .u64 o.f3))) W.drew.drew := ⟨⟨2, rfl⟩, hk1, hk3⟩
  refine wpAnyH_take (i := 0) (v := ?_) rfl (by kernel_rfl) (by kernel_rfl) (by kernel_rfl) (fun _ _ _ h => h) (Or.inl ⟨by rfl, ?_⟩) (by assumption) ?_
  rotate_left
  · (intro w hSw; (try dsimp only at hSw); go_split_ands; go_simp; try with_reducible rfl)
  try simp only [List.getElem_toArray, List.getElem_cons_succ, List.getElem_cons_zero, Act.put, List.setIfInBounds_toArray, List.set_cons_zero, List.set_cons_succ]
  refine wpAnyH_take (i := 1) (v := ?_) rfl (by kernel_rfl) (by kernel_rfl) (by kernel_rfl) (fun _ _ _ h => h) (Or.inl ⟨by rfl, ?_⟩) (by assumption) ?_
  rotate_left
  · (intro w hSw; (try dsimp only at hSw); go_split_ands; go_simp; try with_reducible rfl)
  try simp only [List.getElem_toArray, List.getElem_cons_succ, List.getElem_cons_zero, Act.put, List.setIfInBounds_toArray, List.set_cons_zero, List.set_cons_succ]
  refine wpAnyH_take (i := 2) (v := ?_) rfl (by kernel_rfl) (by kernel_rfl) (by kernel_rfl) (fun _ _ _ h => h) (Or.inl ⟨by rfl, ?_⟩) (by assumption) ?_
  rotate_left
  · (intro w hSw; (try dsimp only at hSw); go_split_ands; go_simp; try with_reducible rfl)
  try simp only [List.getElem_toArray, List.getElem_cons_succ, List.getElem_cons_zero, Act.put, List.setIfInBounds_toArray, List.set_cons_zero, List.set_cons_succ]
  refine wpAnyH_take (i := 3) (v := ?_) rfl (by kernel_rfl) (by kernel_rfl) (by kernel_rfl) (fun _ _ _ h => h) (Or.inl ⟨by rfl, ?_⟩) (by assumption) ?_
  rotate_left
  · (intro w hSw; (try dsimp only at hSw); go_split_ands; go_simp; try with_reducible rfl)
  try simp only [List.getElem_toArray, List.getElem_cons_succ, List.getElem_cons_zero, Act.put, List.setIfInBounds_toArray, List.set_cons_zero, List.set_cons_succ]
  refine wpAnyH_take (i := 4) (v := ?_) rfl (by kernel_rfl) (by kernel_rfl) (by kernel_rfl) (fun _ _ _ h => h) (Or.inl ⟨by rfl, ?_⟩) (by assumption) ?_
  rotate_left
  · (intro w hSw; (try dsimp only at hSw); go_split_ands; go_simp; try with_reducible rfl)
  try simp only [List.getElem_toArray, List.getElem_cons_succ, List.getElem_cons_zero, Act.put, List.setIfInBounds_toArray, List.set_cons_zero, List.set_cons_succ]
  refine wpAnyH_take (i := 5) (v := ?_) rfl (by kernel_rfl) (by kernel_rfl) (by kernel_rfl) (fun _ _ _ h => h) (Or.inl ⟨by rfl, ?_⟩) (by assumption) ?_
  rotate_left
  · (intro w hSw; (try dsimp only at hSw); go_split_ands; go_simp; try with_reducible rfl)
  try simp only [List.getElem_toArray, List.getElem_cons_succ, List.getElem_cons_zero, Act.put, List.setIfInBounds_toArray, List.set_cons_zero, List.set_cons_succ]
  refine wpAnyH_ready (rs := [6]) (by kernel_rfl) (by simp) ?_
  refine (AllReadyH.cons rfl (fun K hK => ?_) AllReadyH.nil)
  go_simp
  refine (HA.out _).mono ?_
  rintro e w1 ⟨rfl, n1, rfl⟩
  refine hK.out _ _ ?_ (fun hHeld => ?_)
  · exact ⟨hHeld.1.step n1, hHeld.2.1, hHeld.2.2⟩
  clear hK K
  try simp only [List.getElem_toArray, List.getElem_cons_succ, List.getElem_cons_zero, Act.put, List.setIfInBounds_toArray, List.set_cons_zero, List.set_cons_succ]
  refine wpAnyH_done (by kernel_rfl) ?_ _
  refine lastPost_wp ?_
  obtain ⟨⟨q, hq⟩, _, _⟩ := hHeld
  rw [hq]
  clear hq
  have hXq := HX.out.1.drewN q
  have HP := Lib.hid (rnput_any hXq.run hs o.f1 hk m)
  have HXq := Lib.hid hXq
  clear hXq hk1 hk3
  generalize W.drewN q = V at *
  go_wp2_with fail
  refine HP.out.mono ?_
  rintro e w3 ⟨rfl, hr3, hu3⟩
  have hX3 := HXq.out.put HX.out.2 hr3 hu3
  have hg3 : w3.cell? ⟨g, 0, none⟩ = some (.map (some mb)) := hX3.run.blk.cell 0
  have hk3 : w3.cell? ⟨w.heap.size, 1, none⟩ = some (.string o.f1) := hX3.op.cell 1
  have hl3 := (hX3.drew.run.d).look1 Tryz.underlying103 (zeroNum _) hk
  rw [HNEW.out] at hl3
  have HX3 := Lib.hid (And.intro hX3 HX.out.2)
  clear hr3 hu3 hX3
  go_upto_region 3 with fail
  refine wp_region_last1_held (S := (fun V => V.cell? ⟨g, 0, none⟩ = some (.map (some mb)) ∧ V.cell? ⟨w.heap.size, 1, none⟩ = some (.string o.f1) ∧ (Instr.lookup 103 (.map (some mb)) (.string o.f1) false).run Tryz.prog V = .ok (.int .u64 m) V)) (l := [_, _, _, _, _, _, _, _, _]) (o := _) (by kernel_rfl) (by kernel_rfl) ?_
  simp only [List.size_toArray, List.length_cons, List.length_nil, Nat.zero_add, Nat.reduceAdd]
  have hHeld : ((fun V => V.cell? ⟨g, 0, none⟩ = some (.map (some mb)) ∧ V.cell? ⟨w.heap.size, 1, none⟩ = some (.string o.f1) ∧ (Instr.lookup 103 (.map (some mb)) (.string o.f1) false).run Tryz.prog V = .ok (.int .u64 m) V)) w3.drew := ⟨hg3, hk3, hl3⟩
  refine wpAnyH_take (i := 0) (v := ?_) rfl (by kernel_rfl) (by kernel_rfl) (by kernel_rfl) (fun _ _ _ h => h) (Or.inl ⟨by rfl, ?_⟩) (by assumption) ?_
  rotate_left
  · (intro w hSw; (try dsimp only at hSw); go_split_ands; go_simp; try with_reducible rfl)
  try simp only [List.getElem_toArray, List.getElem_cons_succ, List.getElem_cons_zero, Act.put, List.setIfInBounds_toArray, List.set_cons_zero, List.set_cons_succ]
  refine wpAnyH_take (i := 1) (v := ?_) rfl (by kernel_rfl) (by kernel_rfl) (by kernel_rfl) (fun _ _ _ h => h) (Or.inl ⟨by rfl, ?_⟩) (by assumption) ?_
  rotate_left
  · (intro w hSw; (try dsimp only at hSw); go_split_ands; go_simp; try with_reducible rfl)
  try simp only [List.getElem_toArray, List.getElem_cons_succ, List.getElem_cons_zero, Act.put, List.setIfInBounds_toArray, List.set_cons_zero, List.set_cons_succ]
  refine wpAnyH_take (i := 2) (v := ?_) rfl (by kernel_rfl) (by kernel_rfl) (by kernel_rfl) (fun _ _ _ h => h) (Or.inl ⟨by rfl, ?_⟩) (by assumption) ?_
  rotate_left
  · (intro w hSw; (try dsimp only at hSw); go_split_ands; go_simp; try with_reducible rfl)
  try simp only [List.getElem_toArray, List.getElem_cons_succ, List.getElem_cons_zero, Act.put, List.setIfInBounds_toArray, List.set_cons_zero, List.set_cons_succ]
  refine wpAnyH_take (i := 3) (v := ?_) rfl (by kernel_rfl) (by kernel_rfl) (by kernel_rfl) (fun _ _ _ h => h) (Or.inl ⟨by rfl, ?_⟩) (by assumption) ?_
  rotate_left
  · (intro w hSw; (try dsimp only at hSw); go_split_ands; go_simp; try with_reducible rfl)
  try simp only [List.getElem_toArray, List.getElem_cons_succ, List.getElem_cons_zero, Act.put, List.setIfInBounds_toArray, List.set_cons_zero, List.set_cons_succ]
  refine wpAnyH_take (i := 4) (v := ?_) rfl (by kernel_rfl) (by kernel_rfl) (by kernel_rfl) (fun _ _ _ h => h) (Or.inl ⟨by rfl, ?_⟩) (by assumption) ?_
  rotate_left
  · (intro w hSw; (try dsimp only at hSw); go_split_ands; go_simp; try with_reducible rfl)
  try simp only [List.getElem_toArray, List.getElem_cons_succ, List.getElem_cons_zero, Act.put, List.setIfInBounds_toArray, List.set_cons_zero, List.set_cons_succ]
  refine wpAnyH_take (i := 5) (v := ?_) rfl (by kernel_rfl) (by kernel_rfl) (by kernel_rfl) (fun _ _ _ h => h) (Or.inl ⟨by rfl, ?_⟩) (by assumption) ?_
  rotate_left
  · (intro w hSw; (try dsimp only at hSw); go_split_ands; go_simp; try with_reducible rfl)
  try simp only [List.getElem_toArray, List.getElem_cons_succ, List.getElem_cons_zero, Act.put, List.setIfInBounds_toArray, List.set_cons_zero, List.set_cons_succ]
  refine wpAnyH_take (i := 6) (v := ?_) rfl (by kernel_rfl) (by kernel_rfl) (by kernel_rfl) (fun _ _ _ h => h) (Or.inl ⟨by rfl, ?_⟩) (by assumption) ?_
  rotate_left
  · (intro w hSw; (try dsimp only at hSw); go_split_ands; go_simp; try with_reducible rfl)
  try simp only [List.getElem_toArray, List.getElem_cons_succ, List.getElem_cons_zero, Act.put, List.setIfInBounds_toArray, List.set_cons_zero, List.set_cons_succ]
  refine wpAnyH_take (i := 7) (v := ?_) rfl (by kernel_rfl) (by kernel_rfl) (by kernel_rfl) (fun _ _ _ h => h) (Or.inl ⟨by rfl, ?_⟩) (by assumption) ?_
  rotate_left
  · (intro w hSw; (try dsimp only at hSw); go_split_ands; go_simp; try with_reducible rfl)
  try simp only [List.getElem_toArray, List.getElem_cons_succ, List.getElem_cons_zero, Act.put, List.setIfInBounds_toArray, List.set_cons_zero, List.set_cons_succ]
  refine wpAnyH_take (i := 8) (v := ?_) rfl (by kernel_rfl) (by kernel_rfl) (by kernel_rfl) (fun _ _ _ h => h) (Or.inl ⟨by rfl, ?_⟩) (by assumption) ?_
  rotate_left
  · (intro w hSw; (try dsimp only at hSw); go_split_ands; go_simp; try with_reducible rfl)
  try simp only [List.getElem_toArray, List.getElem_cons_succ, List.getElem_cons_zero, Act.put, List.setIfInBounds_toArray, List.set_cons_zero, List.set_cons_succ]
  refine wpAnyH_done (by kernel_rfl) ?_ _
  refine lastPost_wp ?_
  clear hHeld hg3 hk3 hl3
  have a0 : w3.cell? ⟨w.heap.size + 1, 0, none⟩ = some (.bool false) := HX3.out.1.ans.cell 0
  have a1 : w3.cell? ⟨w.heap.size + 1, 1, none⟩ = some (.int .u64 0) := HX3.out.1.ans.cell 1
  have a2 : w3.cell? ⟨w.heap.size + 1, 2, none⟩ = some (.slice none 0 0) := HX3.out.1.ans.cell 2
  have z0 := HX3.out.1.ans.frozen 0
  have z1 := HX3.out.1.ans.frozen 1
  have z2 := HX3.out.1.ans.frozen 2
  go_wp2
  refine bodyPost_ret (results_cell_row (by rfl) _ _ (w.heap.size + 1) 65 #[.bool y, .int .u64 m, .slice none 0 0] (0, 0) _ (by rfl) HX3.out.1.fin.drew Tryz.underlying65 (by rfl) (by kernel_rfl)) rfl ?_
  exact (HX3.out.1.out HX3.out.2 (Kd.R_nil _ _ _ _ _)).drew
set_option maxHeartbeats 1000000 in
set_option maxRecDepth 100000 in
theorem rndrop_any (h : RunIs w g mb cb s) (hs : s.small) (o : S63) (hk : o.f1.size ≤ maxLen) : Calls Tryz.prog 113 #[ptrR g, opV o] w (StepOut w g mb cb ⟨s.has o.f1, 0, []⟩ (s.drop o.f1)) := by
  have hX := boxed h o
  obtain ⟨W, hW⟩ : ∃ W, ((w.alloc (.cells #[.int .i64 o.f0, .string o.f1, .string o.f2, .int .u64 o.f3] 63)).alloc (.cells #[.bool false, .int .u64 0, .slice none 0 0] 65)) = W := ⟨_, rfl⟩
  rw [hW] at hX
  have hlt := hX.lt h
  have hg : W.cell? ⟨g, 0, none⟩ = some (.map (some mb)) := hX.run.blk.cell 0
  have hk1 : W.cell? ⟨w.heap.size, 1, none⟩ = some (.string o.f1) := hX.op.cell 1
  have hl := (hX.drew.run.d).look Tryz.underlying103 (zeroNum _) hk
  have hy : (getL s.d o.f1).isSome = s.has o.f1 := rfl
  have hn : ((getL s.d o.f1).map encN).getD (.int .u64 0) = .int .u64 (s.at o.f1) := by unfold St.at; cases getL s.d o.f1 <;> rfl
  rw [hy, hn] at hl
  clear hy hn
  generalize s.has o.f1 = y at *
  generalize s.at o.f1 = n at *
  have HX := Lib.hid (And.intro hX hlt); clear h hX hlt
  go_enter Tryz.func113, Tryz.ntmps113
  go_upto_region 1 with fail
  clear hW
  refine wp_region_held (S := (fun W => W.cell? ⟨g, 0, none⟩ = some (.map (some mb)) ∧ W.cell? ⟨w.heap.size, 1, none⟩ = some (.string o.f1) ∧ (Instr.lookup 103 (.map (some mb)) (.string o.f1) true).run Tryz.prog W = .ok (.tuple #[.int .u64 n, .bool y]) W)) (by kernel_rfl) ?_
  simp only [List.size_toArray, List.length_cons, List.length_nil, Nat.zero_add, Nat.reduceAdd]
  have hHeld : ((fun W => W.cell? ⟨g, 0, none⟩ = some (.map (some mb)) ∧ W.cell? ⟨w.heap.size, 1, none⟩ = some (.string o.f1) ∧ (Instr.lookup 103 (.map (some mb)) (.string o.f1) true).run Tryz.prog W = .ok (.tuple #[.int .u64 n, .bool y]) W)) W.drew := ⟨hg, hk1, hl⟩
  refine wpAnyH_take (i := 0) (v := ?_) rfl (by kernel_rfl) (by kernel_rfl) (by kernel_rfl) (fun _ _ _ h => h) (Or.inl ⟨by rfl, ?_⟩) (by assumption) ?_
  rotate_left
  · (intro w hSw; (try dsimp only at hSw); go_split_ands; go_simp; try with_reducible rfl)
  try simp only [List.getElem_toArray, List.getElem_cons_succ, List.getElem_cons_zero, Act.put, List.setIfInBounds_toArray, List.set_cons_zero, List.set_cons_succ]
  refine wpAnyH_take (i := 1) (v := ?_) rfl (by kernel_rfl) (by kernel_rfl) (by kernel_rfl) (fun _ _ _ h => h) (Or.inl ⟨by rfl, ?_⟩) (by assumption) ?_
  rotate_left
  · (intro w hSw; (try dsimp only at hSw); go_split_ands; go_simp; try with_reducible rfl)
  try simp only [List.getElem_toArray, List.getElem_cons_succ, List.getElem_cons_zero, Act.put, List.setIfInBounds_toArray, List.set_cons_zero, List.set_cons_succ]
  refine wpAnyH_take (i := 2) (v := ?_) rfl (by kernel_rfl) (by kernel_rfl) (by kernel_rfl) (fun _ _ _ h => h) (Or.inl ⟨by rfl, ?_⟩) (by assumption) ?_
  rotate_left
  · (intro w hSw; (try dsimp only at hSw); go_split_ands; go_simp; try with_reducible rfl)
  try simp only [List.getElem_toArray, List.getElem_cons_succ, List.getElem_cons_zero, Act.put, List.setIfInBounds_toArray, List.set_cons_zero, List.set_cons_succ]
  refine wpAnyH_take (i := 3) (v := ?_) rfl (by kernel_rfl) (by kernel_rfl) (by kernel_rfl) (fun _ _ _ h => h) (Or.inl ⟨by rfl, ?_⟩) (by assumption) ?_
  rotate_left
  · (intro w hSw; (try dsimp only at hSw); go_split_ands; go_simp; try with_reducible rfl)
  try simp only [List.getElem_toArray, List.getElem_cons_succ, List.getElem_cons_zero, Act.put, List.setIfInBounds_toArray, List.set_cons_zero, List.set_cons_succ]
  refine wpAnyH_take (i := 4) (v := ?_) rfl (by kernel_rfl) (by kernel_rfl) (by kernel_rfl) (fun _ _ _ h => h) (Or.inl ⟨by rfl, ?_⟩) (by assumption) ?_
  rotate_left
  · (intro w hSw; (try dsimp only at hSw); go_split_ands; go_simp; try with_reducible rfl)
  try simp only [List.getElem_toArray, List.getElem_cons_succ, List.getElem_cons_zero, Act.put, List.setIfInBounds_toArray, List.set_cons_zero, List.set_cons_succ]
  refine wpAnyH_take (i := 5) (v := ?_) rfl (by kernel_rfl) (by kernel_rfl) (by kernel_rfl) (fun _ _ _ h => h) (Or.inl ⟨by rfl, ?_⟩) (by assumption) ?_
  rotate_left
  · (intro w hSw; (try dsimp only at hSw); go_split_ands; go_simp; try with_reducible rfl)
  try simp only [List.getElem_toArray, List.getElem_cons_succ, List.getElem_cons_zero, Act.put, List.setIfInBounds_toArray, List.set_cons_zero, List.set_cons_succ]
  refine wpAnyH_take (i := 6) (v := ?_) rfl (by kernel_rfl) (by kernel_rfl) (by kernel_rfl) (fun _ _ _ h => h) (Or.inl ⟨by rfl, ?_⟩) (by assumption) ?_
  rotate_left
  · (intro w hSw; (try dsimp only at hSw); go_split_ands; go_simp; try with_reducible rfl)
  try simp only [List.getElem_toArray, List.getElem_cons_succ, List.getElem_cons_zero, Act.put, List.setIfInBounds_toArray, List.set_cons_zero, List.set_cons_succ]
  refine wpAnyH_take (i := 7) (v := ?_) rfl (by kernel_rfl) (by kernel_rfl) (by kernel_rfl) (fun _ _ _ h => h) (Or.inl ⟨by rfl, ?_⟩) (by assumption) ?_
  rotate_left
  · (intro w hSw; (try dsimp only at hSw); go_split_ands; go_simp; try with_reducible rfl)
  try simp only [List.getElem_toArray, List.getElem_cons_succ, List.getElem_cons_zero, Act.put, List.setIfInBounds_toArray, List.set_cons_zero, List.set_cons_succ]
  refine wpAnyH_take (i := 8) (v := ?_) rfl (by kernel_rfl) (by kernel_rfl) (by kernel_rfl) (fun _ _ _ h => h) (Or.inl ⟨by rfl, ?_⟩) (by assumption) ?_
  rotate_left
  · (intro w hSw; (try dsimp only at hSw); go_split_ands; go_simp; try with_reducible rfl)
  try simp only [List.getElem_toArray, List.getElem_cons_succ, List.getElem_cons_zero, Act.put, List.setIfInBounds_toArray, List.set_cons_zero, List.set_cons_succ]
  refine wpAnyH_take (i := 9) (v := ?_) rfl (by kernel_rfl) (by kernel_rfl) (by kernel_rfl) (fun _ _ _ h => h) (Or.inl ⟨by rfl, ?_⟩) (by assumption) ?_
  rotate_left
  · (intro w hSw; (try dsimp only at hSw); go_split_ands; go_simp; try with_reducible rfl)
  try simp only [List.getElem_toArray, List.getElem_cons_succ, List.getElem_cons_zero, Act.put, List.setIfInBounds_toArray, List.set_cons_zero, List.set_cons_succ]
  refine wpAnyH_take (i := 10) (v := ?_) rfl (by kernel_rfl) (by kernel_rfl) (by kernel_rfl) (fun _ _ _ h => h) (Or.inl ⟨by rfl, ?_⟩) (by assumption) ?_
  rotate_left
  · (intro w hSw; (try dsimp only at hSw); go_split_ands; go_simp; try with_reducible rfl)
  try simp only [List.getElem_toArray, List.getElem_cons_succ, List.getElem_cons_zero, Act.put, List.setIfInBounds_toArray, List.set_cons_zero, List.set_cons_succ]
  refine wpAnyH_take (i := 11) (v := ?_) rfl (by kernel_rfl) (by kernel_rfl) (by kernel_rfl) (fun _ _ _ h => h) (Or.inl ⟨by rfl, ?_⟩) (by assumption) ?_
  rotate_left
  · (intro w hSw; (try dsimp only at hSw); go_split_ands; go_simp; try with_reducible rfl)
  try simp only [List.getElem_toArray, List.getElem_cons_succ, List.getElem_cons_zero, Act.put, List.setIfInBounds_toArray, List.set_cons_zero, List.set_cons_succ]
  refine wpAnyH_done (by kernel_rfl) ?_ _
  clear hHeld hl hg
  have hg1 : W.cell? ⟨g, 1, none⟩ = some (.map (some cb)) := HX.out.1.run.blk.cell 1
  go_upto_region 2 with fail
  refine wp_region_last1_held (S := (fun V => Drawn0 W V ∧ V.cell? ⟨g, 1, none⟩ = some (.map (some cb)) ∧ V.cell? ⟨w.heap.size, 1, none⟩ = some (.string o.f1))) (l := [_, _, _, _, _, _]) (o := _) (by kernel_rfl) (by kernel_rfl) ?_
  simp only [List.size_toArray, List.length_cons, List.length_nil, Nat.zero_add, Nat.reduceAdd]
  have hHeld : ((fun V => Drawn0 W V ∧ V.cell? ⟨g, 1, none⟩ = some (.map (some cb)) ∧ V.cell? ⟨w.heap.size, 1, none⟩ = some (.string o.f1))) W.drew.drew := ⟨⟨2, rfl⟩, hg1, hk1⟩
  refine wpAnyH_take (i := 0) (v := ?_) rfl (by kernel_rfl) (by kernel_rfl) (by kernel_rfl) (fun _ _ _ h => h) (Or.inl ⟨by rfl, ?_⟩) (by assumption) ?_
  rotate_left
  · (intro w hSw; (try dsimp only at hSw); go_split_ands; go_simp; try with_reducible rfl)
  try simp only [List.getElem_toArray, List.getElem_cons_succ, List.getElem_cons_zero, Act.put, List.setIfInBounds_toArray, List.set_cons_zero, List.set_cons_succ]
  refine wpAnyH_take (i := 1) (v := ?_) rfl (by kernel_rfl) (by kernel_rfl) (by kernel_rfl) (fun _ _ _ h => h) (Or.inl ⟨by rfl, ?_⟩) (by assumption) ?_
  rotate_left
  · (intro w hSw; (try dsimp only at hSw); go_split_ands; go_simp; try with_reducible rfl)
  try simp only [List.getElem_toArray, List.getElem_cons_succ, List.getElem_cons_zero, Act.put, List.setIfInBounds_toArray, List.set_cons_zero, List.set_cons_succ]
  refine wpAnyH_take (i := 2) (v := ?_) rfl (by kernel_rfl) (by kernel_rfl) (by kernel_rfl) (fun _ _ _ h => h) (Or.inl ⟨by rfl, ?_⟩) (by assumption) ?_
  rotate_left
  · (intro w hSw; (try dsimp only at hSw); go_split_ands; go_simp; try with_reducible rfl)
  try simp only [List.getElem_toArray, List.getElem_cons_succ, List.getElem_cons_zero, Act.put, List.setIfInBounds_toArray, List.set_cons_zero, List.set_cons_succ]
  refine wpAnyH_take (i := 3) (v := ?_) rfl (by kernel_rfl) (by kernel_rfl) (by kernel_rfl) (fun _ _ _ h => h) (Or.inl ⟨by rfl, ?_⟩) (by assumption) ?_
  rotate_left
  · (intro w hSw; (try dsimp only at hSw); go_split_ands; go_simp; try with_reducible rfl)
  try simp only [List.getElem_toArray, List.getElem_cons_succ, List.getElem_cons_zero, Act.put, List.setIfInBounds_toArray, List.set_cons_zero, List.set_cons_succ]
  refine wpAnyH_take (i := 4) (v := ?_) rfl (by kernel_rfl) (by kernel_rfl) (by kernel_rfl) (fun _ _ _ h => h) (Or.inl ⟨by rfl, ?_⟩) (by assumption) ?_
  rotate_left
  · (intro w hSw; (try dsimp only at hSw); go_split_ands; go_simp; try with_reducible rfl)
  try simp only [List.getElem_toArray, List.getElem_cons_succ, List.getElem_cons_zero, Act.put, List.setIfInBounds_toArray, List.set_cons_zero, List.set_cons_succ]
  refine wpAnyH_take (i := 5) (v := ?_) rfl (by kernel_rfl) (by kernel_rfl) (by kernel_rfl) (fun _ _ _ h => h) (Or.inl ⟨by rfl, ?_⟩) (by assumption) ?_
  rotate_left
  · (intro w hSw; (try dsimp only at hSw); go_split_ands; go_simp; try with_reducible rfl)
  try simp only [List.getElem_toArray, List.getElem_cons_succ, List.getElem_cons_zero, Act.put, List.setIfInBounds_toArray, List.set_cons_zero, List.set_cons_succ]
  refine wpAnyH_done (by kernel_rfl) ?_ _
  refine lastPost_wp ?_
  clear hHeld hg1 hk1
  suffices hz : wpList _ _ _ _ _ (W.drewN 2) from hz
  have hXq := HX.out.1.drewN 2
  obtain ⟨w3, hput, hc3, hu3⟩ := hXq.run.c.put Tryz.underlying105 hk (by have := hs.2; unfold maxLen; omega) true
  have hgm : g ≠ cb := hXq.run.c.block hXq.run.blk
  have hX3 := hXq.put (s' := ⟨s.d, putL s.c o.f1 true⟩) HX.out.2 ⟨hXq.run.blk.upd hu3 hgm, hXq.run.ne, hXq.run.d.upd hu3 hXq.run.ne, hc3⟩ (hu3.mono fun _ _ e => .inr e)
  generalize W.drewN 2 = V at *
  have hg3 : w3.cell? ⟨g, 0, none⟩ = some (.map (some mb)) := hX3.run.blk.cell 0
  have hk3 : w3.cell? ⟨w.heap.size, 1, none⟩ = some (.string o.f1) := hX3.op.cell 1
  have HX3 := Lib.hid hX3
  clear hXq hc3 hu3 hgm hX3
  go_upto_region 3 with fail
  clear hput
  refine wp_region_last1_held (S := (fun U => Drawn0 w3 U ∧ U.cell? ⟨g, 0, none⟩ = some (.map (some mb)) ∧ U.cell? ⟨w.heap.size, 1, none⟩ = some (.string o.f1))) (l := [_, _, _, _, _, _]) (o := _) (by kernel_rfl) (by kernel_rfl) ?_
  simp only [List.size_toArray, List.length_cons, List.length_nil, Nat.zero_add, Nat.reduceAdd]
  have hHeld : ((fun U => Drawn0 w3 U ∧ U.cell? ⟨g, 0, none⟩ = some (.map (some mb)) ∧ U.cell? ⟨w.heap.size, 1, none⟩ = some (.string o.f1))) w3.drew := ⟨⟨1, rfl⟩, hg3, hk3⟩
  refine wpAnyH_take (i := 0) (v := ?_) rfl (by kernel_rfl) (by kernel_rfl) (by kernel_rfl) (fun _ _ _ h => h) (Or.inl ⟨by rfl, ?_⟩) (by assumption) ?_
  rotate_left
  · (intro w hSw; (try dsimp only at hSw); go_split_ands; go_simp; try with_reducible rfl)
  try simp only [List.getElem_toArray, List.getElem_cons_succ, List.getElem_cons_zero, Act.put, List.setIfInBounds_toArray, List.set_cons_zero, List.set_cons_succ]
  refine wpAnyH_take (i := 1) (v := ?_) rfl (by kernel_rfl) (by kernel_rfl) (by kernel_rfl) (fun _ _ _ h => h) (Or.inl ⟨by rfl, ?_⟩) (by assumption) ?_
  rotate_left
  · (intro w hSw; (try dsimp only at hSw); go_split_ands; go_simp; try with_reducible rfl)
  try simp only [List.getElem_toArray, List.getElem_cons_succ, List.getElem_cons_zero, Act.put, List.setIfInBounds_toArray, List.set_cons_zero, List.set_cons_succ]
  refine wpAnyH_take (i := 2) (v := ?_) rfl (by kernel_rfl) (by kernel_rfl) (by kernel_rfl) (fun _ _ _ h => h) (Or.inl ⟨by rfl, ?_⟩) (by assumption) ?_
  rotate_left
  · (intro w hSw; (try dsimp only at hSw); go_split_ands; go_simp; try with_reducible rfl)
  try simp only [List.getElem_toArray, List.getElem_cons_succ, List.getElem_cons_zero, Act.put, List.setIfInBounds_toArray, List.set_cons_zero, List.set_cons_succ]
  refine wpAnyH_take (i := 3) (v := ?_) rfl (by kernel_rfl) (by kernel_rfl) (by kernel_rfl) (fun _ _ _ h => h) (Or.inl ⟨by rfl, ?_⟩) (by assumption) ?_
  rotate_left
  · (intro w hSw; (try dsimp only at hSw); go_split_ands; go_simp; try with_reducible rfl)
  try simp only [List.getElem_toArray, List.getElem_cons_succ, List.getElem_cons_zero, Act.put, List.setIfInBounds_toArray, List.set_cons_zero, List.set_cons_succ]
  refine wpAnyH_take (i := 4) (v := ?_) rfl (by kernel_rfl) (by kernel_rfl) (by kernel_rfl) (fun _ _ _ h => h) (Or.inl ⟨by rfl, ?_⟩) (by assumption) ?_
  rotate_left
  · (intro w hSw; (try dsimp only at hSw); go_split_ands; go_simp; try with_reducible rfl)
  try simp only [List.getElem_toArray, List.getElem_cons_succ, List.getElem_cons_zero, Act.put, List.setIfInBounds_toArray, List.set_cons_zero, List.set_cons_succ]
  refine wpAnyH_take (i := 5) (v := ?_) rfl (by kernel_rfl) (by kernel_rfl) (by kernel_rfl) (fun _ _ _ h => h) (Or.inl ⟨by rfl, ?_⟩) (by assumption) ?_
  rotate_left
  · (intro w hSw; (try dsimp only at hSw); go_split_ands; go_simp; try with_reducible rfl)
  try simp only [List.getElem_toArray, List.getElem_cons_succ, List.getElem_cons_zero, Act.put, List.setIfInBounds_toArray, List.set_cons_zero, List.set_cons_succ]
  refine wpAnyH_done (by kernel_rfl) ?_ _
  refine lastPost_wp ?_
  clear hHeld hg3 hk3
  suffices hz : wpList _ _ _ _ _ (w3.drewN 1) from hz
  have hX4 := HX3.out.drewN 1
  obtain ⟨w4, hdel, hd4, hu4⟩ := hX4.run.d.del Tryz.underlying103 hk 0
  have hgm : g ≠ mb := hX4.run.d.block hX4.run.blk
  have hX5 := hX4.put (s' := s.drop o.f1) HX.out.2 ⟨hX4.run.blk.upd hu4 hgm, hX4.run.ne, hd4, hX4.run.c.upd hu4 (fun e => hX4.run.ne e.symm)⟩ (hu4.mono fun _ _ e => .inl e)
  generalize w3.drewN 1 = V2 at *
  clear hX4 hd4 hu4 hgm
  obtain ⟨w3, hw3⟩ : ∃ w3, w4 = w3 := ⟨_, rfl⟩
  rw [hw3] at hX5 hdel
  clear hw3
  have HX3 := Lib.hid (And.intro hX5 HX.out.2)
  clear hX5
  have a0 : w3.cell? ⟨w.heap.size + 1, 0, none⟩ = some (.bool false) := HX3.out.1.ans.cell 0
  have a1 : w3.cell? ⟨w.heap.size + 1, 1, none⟩ = some (.int .u64 0) := HX3.out.1.ans.cell 1
  have a2 : w3.cell? ⟨w.heap.size + 1, 2, none⟩ = some (.slice none 0 0) := HX3.out.1.ans.cell 2
  have z0 := HX3.out.1.ans.frozen 0
  have z1 := HX3.out.1.ans.frozen 1
  have z2 := HX3.out.1.ans.frozen 2
  go_wp2
  refine bodyPost_ret (results_cell_row (by rfl) _ _ (w.heap.size + 1) 65 #[.bool y, .int .u64 0, .slice none 0 0] (0, 0) _ (by rfl) HX3.out.1.fin Tryz.underlying65 (by rfl) (by kernel_rfl)) rfl ?_
  exact HX3.out.1.out HX3.out.2 (Kd.R_nil _ _ _ _ _)
end
end Go.Proofs.YtgmlenpcchhmbaaGreat.P
end
section
set_option linter.unusedVariables false
set_option linter.unusedSimpArgs false
namespace Go.Proofs.YtgmlenpcchhmbaaGreat.P
open Go.RowKit Go.Proofs.YtgmlenpcchhmbaaGreatW.PrintWords Go.Proofs.YtgmlenpcchhmbaaGreatW.PrintLast Go.Proofs.YtgmlenpcchhmbaaGreatW.PrintMore
theorem ofN_zero : ofN 0 = 0 := by decide
section
variable {w : World} {g mb cb : Nat} {s : St}
set_option maxHeartbeats 1000000 in
set_option maxRecDepth 100000 in
theorem rnmove_no1 (h : RunIs w g mb cb s) (o : S63) (hk : o.f1.size ≤ maxLen) (hc1 : geN (s.at o.f1) o.f3 = false) : Calls Tryz.prog 114 #[ptrR g, opV o] w (StepOut w g mb cb ⟨false, 0, []⟩ s) := by
  have hX := boxed h o
  obtain ⟨W, hW⟩ : ∃ W, ((w.alloc (.cells #[.int .i64 o.f0, .string o.f1, .string o.f2, .int .u64 o.f3] 63)).alloc (.cells #[.bool false, .int .u64 0, .slice none 0 0] 65)) = W := ⟨_, rfl⟩
  rw [hW] at hX
  have hlt := hX.lt h
  have hg : W.cell? ⟨g, 0, none⟩ = some (.map (some mb)) := hX.run.blk.cell 0
  have hk1 : W.cell? ⟨w.heap.size, 1, none⟩ = some (.string o.f1) := hX.op.cell 1
  have hk3 : W.cell? ⟨w.heap.size, 3, none⟩ = some (.int .u64 o.f3) := hX.op.cell 3
  have hl := (hX.drew.run.d).look1 Tryz.underlying103 (zeroNum _) hk
  have hn : ((getL s.d o.f1).map encN).getD (.int .u64 0) = .int .u64 (s.at o.f1) := by unfold St.at; cases getL s.d o.f1 <;> rfl
  rw [hn] at hl
  have HC1 := Lib.hid (nCovers_any (s.at o.f1) o.f3)
  have HC2 := Lib.hid (nCovers_any o.f3 0)
  have HOF := Lib.hid (nOf_any 0)
  rw [ofN_zero] at HOF
  clear hn
  rw [hc1] at HC1
  clear hc1
  generalize s.at o.f1 = n at *
  have HX := Lib.hid (And.intro hX hlt); clear h hX hlt
  go_enter Tryz.func114, Tryz.ntmps114
  go_upto_region 1 with fail
  clear hW
  refine wp_region_held (S := (fun W => W.cell? ⟨g, 0, none⟩ = some (.map (some mb)) ∧ W.cell? ⟨w.heap.size, 1, none⟩ = some (.string o.f1) ∧ (Instr.lookup 103 (.map (some mb)) (.string o.f1) false).run Tryz.prog W = .ok (.int .u64 n) W)) (by kernel_rfl) ?_
  simp only [List.size_toArray, List.length_cons, List.length_nil, Nat.zero_add, Nat.reduceAdd]
  have hHeld : ((fun W => W.cell? ⟨g, 0, none⟩ = some (.map (some mb)) ∧ W.cell? ⟨w.heap.size, 1, none⟩ = some (.string o.f1) ∧ (Instr.lookup 103 (.map (some mb)) (.string o.f1) false).run Tryz.prog W = .ok (.int .u64 n) W)) W.drew := ⟨hg, hk1, hl⟩
  refine wpAnyH_take (i := 0) (v := ?_) rfl (by kernel_rfl) (by kernel_rfl) (by kernel_rfl) (fun _ _ _ h => h) (Or.inl ⟨by rfl, ?_⟩) (by assumption) ?_
  rotate_left
  · (intro w hSw; (try dsimp only at hSw); go_split_ands; go_simp; try with_reducible rfl)
  try simp only [List.getElem_toArray, List.getElem_cons_succ, List.getElem_cons_zero, Act.put, List.setIfInBounds_toArray, List.set_cons_zero, List.set_cons_succ]
  refine wpAnyH_take (i := 1) (v := ?_) rfl (by kernel_rfl) (by kernel_rfl) (by kernel_rfl) (fun _ _ _ h => h) (Or.inl ⟨by rfl, ?_⟩) (by assumption) ?_
  rotate_left
  · (intro w hSw; (try dsimp only at hSw); go_split_ands; go_simp; try with_reducible rfl)
  try simp only [List.getElem_toArray, List.getElem_cons_succ, List.getElem_cons_zero, Act.put, List.setIfInBounds_toArray, List.set_cons_zero, List.set_cons_succ]
  refine wpAnyH_take (i := 2) (v := ?_) rfl (by kernel_rfl) (by kernel_rfl) (by kernel_rfl) (fun _ _ _ h => h) (Or.inl ⟨by rfl, ?_⟩) (by assumption) ?_
  rotate_left
  · (intro w hSw; (try dsimp only at hSw); go_split_ands; go_simp; try with_reducible rfl)
  try simp only [List.getElem_toArray, List.getElem_cons_succ, List.getElem_cons_zero, Act.put, List.setIfInBounds_toArray, List.set_cons_zero, List.set_cons_succ]
  refine wpAnyH_take (i := 3) (v := ?_) rfl (by kernel_rfl) (by kernel_rfl) (by kernel_rfl) (fun _ _ _ h => h) (Or.inl ⟨by rfl, ?_⟩) (by assumption) ?_
  rotate_left
  · (intro w hSw; (try dsimp only at hSw); go_split_ands; go_simp; try with_reducible rfl)
  try simp only [List.getElem_toArray, List.getElem_cons_succ, List.getElem_cons_zero, Act.put, List.setIfInBounds_toArray, List.set_cons_zero, List.set_cons_succ]
  refine wpAnyH_take (i := 4) (v := ?_) rfl (by kernel_rfl) (by kernel_rfl) (by kernel_rfl) (fun _ _ _ h => h) (Or.inl ⟨by rfl, ?_⟩) (by assumption) ?_
  rotate_left
  · (intro w hSw; (try dsimp only at hSw); go_split_ands; go_simp; try with_reducible rfl)
  try simp only [List.getElem_toArray, List.getElem_cons_succ, List.getElem_cons_zero, Act.put, List.setIfInBounds_toArray, List.set_cons_zero, List.set_cons_succ]
  refine wpAnyH_take (i := 5) (v := ?_) rfl (by kernel_rfl) (by kernel_rfl) (by kernel_rfl) (fun _ _ _ h => h) (Or.inl ⟨by rfl, ?_⟩) (by assumption) ?_
  rotate_left
  · (intro w hSw; (try dsimp only at hSw); go_split_ands; go_simp; try with_reducible rfl)
  try simp only [List.getElem_toArray, List.getElem_cons_succ, List.getElem_cons_zero, Act.put, List.setIfInBounds_toArray, List.set_cons_zero, List.set_cons_succ]
  refine wpAnyH_take (i := 6) (v := ?_) rfl (by kernel_rfl) (by kernel_rfl) (by kernel_rfl) (fun _ _ _ h => h) (Or.inl ⟨by rfl, ?_⟩) (by assumption) ?_
  rotate_left
  · (intro w hSw; (try dsimp only at hSw); go_split_ands; go_simp; try with_reducible rfl)
  try simp only [List.getElem_toArray, List.getElem_cons_succ, List.getElem_cons_zero, Act.put, List.setIfInBounds_toArray, List.set_cons_zero, List.set_cons_succ]
  refine wpAnyH_take (i := 7) (v := ?_) rfl (by kernel_rfl) (by kernel_rfl) (by kernel_rfl) (fun _ _ _ h => h) (Or.inl ⟨by rfl, ?_⟩) (by assumption) ?_
  rotate_left
  · (intro w hSw; (try dsimp only at hSw); go_split_ands; go_simp; try with_reducible rfl)
  try simp only [List.getElem_toArray, List.getElem_cons_succ, List.getElem_cons_zero, Act.put, List.setIfInBounds_toArray, List.set_cons_zero, List.set_cons_succ]
  refine wpAnyH_done (by kernel_rfl) ?_ _
  clear hHeld hl hg hk1
  go_upto_region 2 with fail
  refine wp_region_held (S := (fun V => Drawn0 W V ∧ V.cell? ⟨w.heap.size, 3, none⟩ = some (.int .u64 o.f3))) (by kernel_rfl) ?_
  simp only [List.size_toArray, List.length_cons, List.length_nil, Nat.zero_add, Nat.reduceAdd]
  have hHeld : ((fun V => Drawn0 W V ∧ V.cell? ⟨w.heap.size, 3, none⟩ = some (.int .u64 o.f3))) W.drew.drew := ⟨⟨2, rfl⟩, hk3⟩
  refine wpAnyH_take (i := 0) (v := ?_) rfl (by kernel_rfl) (by kernel_rfl) (by kernel_rfl) (fun _ _ _ h => h) (Or.inl ⟨by rfl, ?_⟩) (by assumption) ?_
  rotate_left
  · (intro w hSw; (try dsimp only at hSw); go_split_ands; go_simp; try with_reducible rfl)
  try simp only [List.getElem_toArray, List.getElem_cons_succ, List.getElem_cons_zero, Act.put, List.setIfInBounds_toArray, List.set_cons_zero, List.set_cons_succ]
  refine wpAnyH_take (i := 1) (v := ?_) rfl (by kernel_rfl) (by kernel_rfl) (by kernel_rfl) (fun _ _ _ h => h) (Or.inl ⟨by rfl, ?_⟩) (by assumption) ?_
  rotate_left
  · (intro w hSw; (try dsimp only at hSw); go_split_ands; go_simp; try with_reducible rfl)
  try simp only [List.getElem_toArray, List.getElem_cons_succ, List.getElem_cons_zero, Act.put, List.setIfInBounds_toArray, List.set_cons_zero, List.set_cons_succ]
  refine wpAnyH_take (i := 2) (v := ?_) rfl (by kernel_rfl) (by kernel_rfl) (by kernel_rfl) (fun _ _ _ h => h) (Or.inl ⟨by rfl, ?_⟩) (by assumption) ?_
  rotate_left
  · (intro w hSw; (try dsimp only at hSw); go_split_ands; go_simp; try with_reducible rfl)
  try simp only [List.getElem_toArray, List.getElem_cons_succ, List.getElem_cons_zero, Act.put, List.setIfInBounds_toArray, List.set_cons_zero, List.set_cons_succ]
  refine wpAnyH_ready (rs := [3]) (by kernel_rfl) (by simp) ?_
  refine (AllReadyH.cons rfl (fun K hK => ?_) AllReadyH.nil)
  go_simp
  refine (HC1.out _).mono ?_
  rintro e w1 ⟨rfl, rfl⟩
  refine hK.out _ _ ?_ (fun hHeld => ?_)
  · exact hHeld
  clear hK K
  try simp only [List.getElem_toArray, List.getElem_cons_succ, List.getElem_cons_zero, Act.put, List.setIfInBounds_toArray, List.set_cons_zero, List.set_cons_succ]
  refine wpAnyH_take (i := 4) (v := ?_) rfl (by kernel_rfl) (by kernel_rfl) (by kernel_rfl) (fun _ _ _ h => h) (Or.inl ⟨by rfl, ?_⟩) (by assumption) ?_
  rotate_left
  · (intro w hSw; (try dsimp only at hSw); go_split_ands; go_simp; try with_reducible rfl)
  try simp only [List.getElem_toArray, List.getElem_cons_succ, List.getElem_cons_zero, Act.put, List.setIfInBounds_toArray, List.set_cons_zero, List.set_cons_succ]
  refine wpAnyH_take (i := 5) (v := ?_) rfl (by kernel_rfl) (by kernel_rfl) (by kernel_rfl) (fun _ _ _ h => h) (Or.inl ⟨by rfl, ?_⟩) (by assumption) ?_
  rotate_left
  · (intro w hSw; (try dsimp only at hSw); go_split_ands; go_simp; try with_reducible rfl)
  try simp only [List.getElem_toArray, List.getElem_cons_succ, List.getElem_cons_zero, Act.put, List.setIfInBounds_toArray, List.set_cons_zero, List.set_cons_succ]
  refine wpAnyH_take (i := 6) (v := undef) rfl (by kernel_rfl) (by kernel_rfl) (by kernel_rfl) (fun _ _ _ h => h) (Or.inr ⟨by rfl, rfl⟩) (by assumption) ?_
  try simp only [List.getElem_toArray, List.getElem_cons_succ, List.getElem_cons_zero, Act.put, List.setIfInBounds_toArray, List.set_cons_zero, List.set_cons_succ]
  refine wpAnyH_take (i := 7) (v := undef) rfl (by kernel_rfl) (by kernel_rfl) (by kernel_rfl) (fun _ _ _ h => h) (Or.inr ⟨by rfl, rfl⟩) (by assumption) ?_
  try simp only [List.getElem_toArray, List.getElem_cons_succ, List.getElem_cons_zero, Act.put, List.setIfInBounds_toArray, List.set_cons_zero, List.set_cons_succ]
  refine wpAnyH_take (i := 8) (v := undef) rfl (by kernel_rfl) (by kernel_rfl) (by kernel_rfl) (fun _ _ _ h => h) (Or.inr ⟨by rfl, rfl⟩) (by assumption) ?_
  try simp only [List.getElem_toArray, List.getElem_cons_succ, List.getElem_cons_zero, Act.put, List.setIfInBounds_toArray, List.set_cons_zero, List.set_cons_succ]
  refine wpAnyH_take (i := 9) (v := undef) rfl (by kernel_rfl) (by kernel_rfl) (by kernel_rfl) (fun _ _ _ h => h) (Or.inr ⟨by rfl, rfl⟩) (by assumption) ?_
  try simp only [List.getElem_toArray, List.getElem_cons_succ, List.getElem_cons_zero, Act.put, List.setIfInBounds_toArray, List.set_cons_zero, List.set_cons_succ]
  refine wpAnyH_take (i := 10) (v := undef) rfl (by kernel_rfl) (by kernel_rfl) (by kernel_rfl) (fun _ _ _ h => h) (Or.inr ⟨by rfl, rfl⟩) (by assumption) ?_
  try simp only [List.getElem_toArray, List.getElem_cons_succ, List.getElem_cons_zero, Act.put, List.setIfInBounds_toArray, List.set_cons_zero, List.set_cons_succ]
  refine wpAnyH_take (i := 11) (v := ?_) rfl (by kernel_rfl) (by kernel_rfl) (by kernel_rfl) (fun _ _ _ h => h) (Or.inl ⟨by rfl, ?_⟩) (by assumption) ?_
  rotate_left
  · (intro w hSw; (try dsimp only at hSw); go_split_ands; go_simp; try with_reducible rfl)
  try simp only [List.getElem_toArray, List.getElem_cons_succ, List.getElem_cons_zero, Act.put, List.setIfInBounds_toArray, List.set_cons_zero, List.set_cons_succ]
  refine wpAnyH_done (by kernel_rfl) ?_ _
  clear hHeld hk3
  suffices hz : Exit.then _ _ _ _ (W.drewN 2) from hz
  obtain ⟨w3, hw3⟩ : ∃ w3, W.drewN 2 = w3 := ⟨_, rfl⟩
  rw [hw3]
  have HX3 := Lib.hid (And.intro (hw3 ▸ HX.out.1.drewN 2) HX.out.2)
  clear hw3 HX
  have a0 : w3.cell? ⟨w.heap.size + 1, 0, none⟩ = some (.bool false) := HX3.out.1.ans.cell 0
  have a1 : w3.cell? ⟨w.heap.size + 1, 1, none⟩ = some (.int .u64 0) := HX3.out.1.ans.cell 1
  have a2 : w3.cell? ⟨w.heap.size + 1, 2, none⟩ = some (.slice none 0 0) := HX3.out.1.ans.cell 2
  have z0 := HX3.out.1.ans.frozen 0
  have z1 := HX3.out.1.ans.frozen 1
  have z2 := HX3.out.1.ans.frozen 2
  go_wp2
  refine bodyPost_ret (results_cell_row (by rfl) _ _ (w.heap.size + 1) 65 #[.bool false, .int .u64 0, .slice none 0 0] (0, 0) _ (by rfl) HX3.out.1.fin Tryz.underlying65 (by rfl) (by kernel_rfl)) rfl ?_
  exact HX3.out.1.out HX3.out.2 (Kd.R_nil _ _ _ _ _)
set_option maxHeartbeats 1000000 in
set_option maxRecDepth 100000 in
theorem rnmove_no2 (h : RunIs w g mb cb s) (o : S63) (hk : o.f1.size ≤ maxLen) (hc1 : geN (s.at o.f1) o.f3 = true) (hc2 : geN o.f3 0 = false) : Calls Tryz.prog 114 #[ptrR g, opV o] w (StepOut w g mb cb ⟨false, 0, []⟩ s) := by
  have hX := boxed h o
  obtain ⟨W, hW⟩ : ∃ W, ((w.alloc (.cells #[.int .i64 o.f0, .string o.f1, .string o.f2, .int .u64 o.f3] 63)).alloc (.cells #[.bool false, .int .u64 0, .slice none 0 0] 65)) = W := ⟨_, rfl⟩
  rw [hW] at hX
  have hlt := hX.lt h
  have hg : W.cell? ⟨g, 0, none⟩ = some (.map (some mb)) := hX.run.blk.cell 0
  have hk1 : W.cell? ⟨w.heap.size, 1, none⟩ = some (.string o.f1) := hX.op.cell 1
  have hk3 : W.cell? ⟨w.heap.size, 3, none⟩ = some (.int .u64 o.f3) := hX.op.cell 3
  have hl := (hX.drew.run.d).look1 Tryz.underlying103 (zeroNum _) hk
  have hn : ((getL s.d o.f1).map encN).getD (.int .u64 0) = .int .u64 (s.at o.f1) := by unfold St.at; cases getL s.d o.f1 <;> rfl
  rw [hn] at hl
  have HC1 := Lib.hid (nCovers_any (s.at o.f1) o.f3)
  have HC2 := Lib.hid (nCovers_any o.f3 0)
  have HOF := Lib.hid (nOf_any 0)
  rw [ofN_zero] at HOF
  clear hn
  rw [hc1] at HC1
  rw [hc2] at HC2
  clear hc1 hc2
  generalize s.at o.f1 = n at *
  have HX := Lib.hid (And.intro hX hlt); clear h hX hlt
  go_enter Tryz.func114, Tryz.ntmps114
  go_upto_region 1 with fail
  clear hW
  refine wp_region_held (S := (fun W => W.cell? ⟨g, 0, none⟩ = some (.map (some mb)) ∧ W.cell? ⟨w.heap.size, 1, none⟩ = some (.string o.f1) ∧ (Instr.lookup 103 (.map (some mb)) (.string o.f1) false).run Tryz.prog W = .ok (.int .u64 n) W)) (by kernel_rfl) ?_
  simp only [List.size_toArray, List.length_cons, List.length_nil, Nat.zero_add, Nat.reduceAdd]
  have hHeld : ((fun W => W.cell? ⟨g, 0, none⟩ = some (.map (some mb)) ∧ W.cell? ⟨w.heap.size, 1, none⟩ = some (.string o.f1) ∧ (Instr.lookup 103 (.map (some mb)) (.string o.f1) false).run Tryz.prog W = .ok (.int .u64 n) W)) W.drew := ⟨hg, hk1, hl⟩
  refine wpAnyH_take (i := 0) (v := ?_) rfl (by kernel_rfl) (by kernel_rfl) (by kernel_rfl) (fun _ _ _ h => h) (Or.inl ⟨by rfl, ?_⟩) (by assumption) ?_
  rotate_left
  · (intro w hSw; (try dsimp only at hSw); go_split_ands; go_simp; try with_reducible rfl)
  try simp only [List.getElem_toArray, List.getElem_cons_succ, List.getElem_cons_zero, Act.put, List.setIfInBounds_toArray, List.set_cons_zero, List.set_cons_succ]
  refine wpAnyH_take (i := 1) (v := ?_) rfl (by kernel_rfl) (by kernel_rfl) (by kernel_rfl) (fun _ _ _ h => h) (Or.inl ⟨by rfl, ?_⟩) (by assumption) ?_
  rotate_left
  · (intro w hSw; (try dsimp only at hSw); go_split_ands; go_simp; try with_reducible rfl)
  try simp only [List.getElem_toArray, List.getElem_cons_succ, List.getElem_cons_zero, Act.put, List.setIfInBounds_toArray, List.set_cons_zero, List.set_cons_succ]
  refine wpAnyH_take (i := 2) (v := ?_) rfl (by kernel_rfl) (by kernel_rfl) (by kernel_rfl) (fun _ _ _ h => h) (Or.inl ⟨by rfl, ?_⟩) (by assumption) ?_
  rotate_left
  · (intro w hSw; (try dsimp only at hSw); go_split_ands; go_simp; try with_reducible rfl)
  try simp only [List.getElem_toArray, List.getElem_cons_succ, List.getElem_cons_zero, Act.put, List.setIfInBounds_toArray, List.set_cons_zero, List.set_cons_succ]
  refine wpAnyH_take (i := 3) (v := ?_) rfl (by kernel_rfl) (by kernel_rfl) (by kernel_rfl) (fun _ _ _ h => h) (Or.inl ⟨by rfl, ?_⟩) (by assumption) ?_
  rotate_left
  · (intro w hSw; (try dsimp only at hSw); go_split_ands; go_simp; try with_reducible rfl)
  try simp only [List.getElem_toArray, List.getElem_cons_succ, List.getElem_cons_zero, Act.put, List.setIfInBounds_toArray, List.set_cons_zero, List.set_cons_succ]
  refine wpAnyH_take (i := 4) (v := ?_) rfl (by kernel_rfl) (by kernel_rfl) (by kernel_rfl) (fun _ _ _ h => h) (Or.inl ⟨by rfl, ?_⟩) (by assumption) ?_
  rotate_left
  · (intro w hSw; (try dsimp only at hSw); go_split_ands; go_simp; try with_reducible rfl)
  try simp only [List.getElem_toArray, List.getElem_cons_succ, List.getElem_cons_zero, Act.put, List.setIfInBounds_toArray, List.set_cons_zero, List.set_cons_succ]
  refine wpAnyH_take (i := 5) (v := ?_) rfl (by kernel_rfl) (by kernel_rfl) (by kernel_rfl) (fun _ _ _ h => h) (Or.inl ⟨by rfl, ?_⟩) (by assumption) ?_
  rotate_left
  · (intro w hSw; (try dsimp only at hSw); go_split_ands; go_simp; try with_reducible rfl)
  try simp only [List.getElem_toArray, List.getElem_cons_succ, List.getElem_cons_zero, Act.put, List.setIfInBounds_toArray, List.set_cons_zero, List.set_cons_succ]
  refine wpAnyH_take (i := 6) (v := ?_) rfl (by kernel_rfl) (by kernel_rfl) (by kernel_rfl) (fun _ _ _ h => h) (Or.inl ⟨by rfl, ?_⟩) (by assumption) ?_
  rotate_left
  · (intro w hSw; (try dsimp only at hSw); go_split_ands; go_simp; try with_reducible rfl)
  try simp only [List.getElem_toArray, List.getElem_cons_succ, List.getElem_cons_zero, Act.put, List.setIfInBounds_toArray, List.set_cons_zero, List.set_cons_succ]
  refine wpAnyH_take (i := 7) (v := ?_) rfl (by kernel_rfl) (by kernel_rfl) (by kernel_rfl) (fun _ _ _ h => h) (Or.inl ⟨by rfl, ?_⟩) (by assumption) ?_
  rotate_left
  · (intro w hSw; (try dsimp only at hSw); go_split_ands; go_simp; try with_reducible rfl)
  try simp only [List.getElem_toArray, List.getElem_cons_succ, List.getElem_cons_zero, Act.put, List.setIfInBounds_toArray, List.set_cons_zero, List.set_cons_succ]
  refine wpAnyH_done (by kernel_rfl) ?_ _
  clear hHeld hl hg hk1
  go_upto_region 2 with fail
  refine wp_region_held (S := (fun V => Drawn0 W V ∧ V.cell? ⟨w.heap.size, 3, none⟩ = some (.int .u64 o.f3))) (by kernel_rfl) ?_
  simp only [List.size_toArray, List.length_cons, List.length_nil, Nat.zero_add, Nat.reduceAdd]
  have hHeld : ((fun V => Drawn0 W V ∧ V.cell? ⟨w.heap.size, 3, none⟩ = some (.int .u64 o.f3))) W.drew.drew := ⟨⟨2, rfl⟩, hk3⟩
  refine wpAnyH_take (i := 0) (v := ?_) rfl (by kernel_rfl) (by kernel_rfl) (by kernel_rfl) (fun _ _ _ h => h) (Or.inl ⟨by rfl, ?_⟩) (by assumption) ?_
  rotate_left
  · (intro w hSw; (try dsimp only at hSw); go_split_ands; go_simp; try with_reducible rfl)
  try simp only [List.getElem_toArray, List.getElem_cons_succ, List.getElem_cons_zero, Act.put, List.setIfInBounds_toArray, List.set_cons_zero, List.set_cons_succ]
  refine wpAnyH_take (i := 1) (v := ?_) rfl (by kernel_rfl) (by kernel_rfl) (by kernel_rfl) (fun _ _ _ h => h) (Or.inl ⟨by rfl, ?_⟩) (by assumption) ?_
  rotate_left
  · (intro w hSw; (try dsimp only at hSw); go_split_ands; go_simp; try with_reducible rfl)
  try simp only [List.getElem_toArray, List.getElem_cons_succ, List.getElem_cons_zero, Act.put, List.setIfInBounds_toArray, List.set_cons_zero, List.set_cons_succ]
  refine wpAnyH_take (i := 2) (v := ?_) rfl (by kernel_rfl) (by kernel_rfl) (by kernel_rfl) (fun _ _ _ h => h) (Or.inl ⟨by rfl, ?_⟩) (by assumption) ?_
  rotate_left
  · (intro w hSw; (try dsimp only at hSw); go_split_ands; go_simp; try with_reducible rfl)
  try simp only [List.getElem_toArray, List.getElem_cons_succ, List.getElem_cons_zero, Act.put, List.setIfInBounds_toArray, List.set_cons_zero, List.set_cons_succ]
  refine wpAnyH_ready (rs := [3]) (by kernel_rfl) (by simp) ?_
  refine (AllReadyH.cons rfl (fun K hK => ?_) AllReadyH.nil)
  go_simp
  refine (HC1.out _).mono ?_
  rintro e w1 ⟨rfl, rfl⟩
  refine hK.out _ _ ?_ (fun hHeld => ?_)
  · exact hHeld
  clear hK K
  try simp only [List.getElem_toArray, List.getElem_cons_succ, List.getElem_cons_zero, Act.put, List.setIfInBounds_toArray, List.set_cons_zero, List.set_cons_succ]
  refine wpAnyH_take (i := 4) (v := ?_) rfl (by kernel_rfl) (by kernel_rfl) (by kernel_rfl) (fun _ _ _ h => h) (Or.inl ⟨by rfl, ?_⟩) (by assumption) ?_
  rotate_left
  · (intro w hSw; (try dsimp only at hSw); go_split_ands; go_simp; try with_reducible rfl)
  try simp only [List.getElem_toArray, List.getElem_cons_succ, List.getElem_cons_zero, Act.put, List.setIfInBounds_toArray, List.set_cons_zero, List.set_cons_succ]
  refine wpAnyH_take (i := 5) (v := ?_) rfl (by kernel_rfl) (by kernel_rfl) (by kernel_rfl) (fun _ _ _ h => h) (Or.inl ⟨by rfl, ?_⟩) (by assumption) ?_
  rotate_left
  · (intro w hSw; (try dsimp only at hSw); go_split_ands; go_simp; try with_reducible rfl)
  try simp only [List.getElem_toArray, List.getElem_cons_succ, List.getElem_cons_zero, Act.put, List.setIfInBounds_toArray, List.set_cons_zero, List.set_cons_succ]
  refine wpAnyH_take (i := 6) (v := ?_) rfl (by kernel_rfl) (by kernel_rfl) (by kernel_rfl) (fun _ _ _ h => h) (Or.inl ⟨by rfl, ?_⟩) (by assumption) ?_
  rotate_left
  · (intro w hSw; (try dsimp only at hSw); go_split_ands; go_simp; try with_reducible rfl)
  try simp only [List.getElem_toArray, List.getElem_cons_succ, List.getElem_cons_zero, Act.put, List.setIfInBounds_toArray, List.set_cons_zero, List.set_cons_succ]
  refine wpAnyH_take (i := 7) (v := ?_) rfl (by kernel_rfl) (by kernel_rfl) (by kernel_rfl) (fun _ _ _ h => h) (Or.inl ⟨by rfl, ?_⟩) (by assumption) ?_
  rotate_left
  · (intro w hSw; (try dsimp only at hSw); go_split_ands; go_simp; try with_reducible rfl)
  try simp only [List.getElem_toArray, List.getElem_cons_succ, List.getElem_cons_zero, Act.put, List.setIfInBounds_toArray, List.set_cons_zero, List.set_cons_succ]
  refine wpAnyH_ready (rs := [8]) (by kernel_rfl) (by simp) ?_
  refine (AllReadyH.cons rfl (fun K hK => ?_) AllReadyH.nil)
  go_simp
  refine (HOF.out _).mono ?_
  rintro e w1 ⟨rfl, rfl⟩
  refine hK.out _ _ ?_ (fun hHeld => ?_)
  · exact hHeld
  clear hK K
  try simp only [List.getElem_toArray, List.getElem_cons_succ, List.getElem_cons_zero, Act.put, List.setIfInBounds_toArray, List.set_cons_zero, List.set_cons_succ]
  refine wpAnyH_ready (rs := [9]) (by kernel_rfl) (by simp) ?_
  refine (AllReadyH.cons rfl (fun K hK => ?_) AllReadyH.nil)
  go_simp
  refine (HC2.out _).mono ?_
  rintro e w1 ⟨rfl, rfl⟩
  refine hK.out _ _ ?_ (fun hHeld => ?_)
  · exact hHeld
  clear hK K
  try simp only [List.getElem_toArray, List.getElem_cons_succ, List.getElem_cons_zero, Act.put, List.setIfInBounds_toArray, List.set_cons_zero, List.set_cons_succ]
  refine wpAnyH_take (i := 10) (v := ?_) rfl (by kernel_rfl) (by kernel_rfl) (by kernel_rfl) (fun _ _ _ h => h) (Or.inl ⟨by rfl, ?_⟩) (by assumption) ?_
  rotate_left
  · (intro w hSw; (try dsimp only at hSw); go_split_ands; go_simp; try with_reducible rfl)
  try simp only [List.getElem_toArray, List.getElem_cons_succ, List.getElem_cons_zero, Act.put, List.setIfInBounds_toArray, List.set_cons_zero, List.set_cons_succ]
  refine wpAnyH_take (i := 11) (v := ?_) rfl (by kernel_rfl) (by kernel_rfl) (by kernel_rfl) (fun _ _ _ h => h) (Or.inl ⟨by rfl, ?_⟩) (by assumption) ?_
  rotate_left
  · (intro w hSw; (try dsimp only at hSw); go_split_ands; go_simp; try with_reducible rfl)
  try simp only [List.getElem_toArray, List.getElem_cons_succ, List.getElem_cons_zero, Act.put, List.setIfInBounds_toArray, List.set_cons_zero, List.set_cons_succ]
  refine wpAnyH_done (by kernel_rfl) ?_ _
  clear hHeld hk3
  suffices hz : Exit.then _ _ _ _ (W.drewN 2) from hz
  obtain ⟨w3, hw3⟩ : ∃ w3, W.drewN 2 = w3 := ⟨_, rfl⟩
  rw [hw3]
  have HX3 := Lib.hid (And.intro (hw3 ▸ HX.out.1.drewN 2) HX.out.2)
  clear hw3 HX
  have a0 : w3.cell? ⟨w.heap.size + 1, 0, none⟩ = some (.bool false) := HX3.out.1.ans.cell 0
  have a1 : w3.cell? ⟨w.heap.size + 1, 1, none⟩ = some (.int .u64 0) := HX3.out.1.ans.cell 1
  have a2 : w3.cell? ⟨w.heap.size + 1, 2, none⟩ = some (.slice none 0 0) := HX3.out.1.ans.cell 2
  have z0 := HX3.out.1.ans.frozen 0
  have z1 := HX3.out.1.ans.frozen 1
  have z2 := HX3.out.1.ans.frozen 2
  go_wp2
  refine bodyPost_ret (results_cell_row (by rfl) _ _ (w.heap.size + 1) 65 #[.bool false, .int .u64 0, .slice none 0 0] (0, 0) _ (by rfl) HX3.out.1.fin Tryz.underlying65 (by rfl) (by kernel_rfl)) rfl ?_
  exact HX3.out.1.out HX3.out.2 (Kd.R_nil _ _ _ _ _)
set_option maxHeartbeats 2000000 in
set_option maxRecDepth 100000 in
theorem rnmove_yes (h : RunIs w g mb cb s) (hs : s.small) (hs2 : ∀ k n, (s.put k n).small) (o : S63) (hk : o.f1.size ≤ maxLen) (hk2 : o.f2.size ≤ maxLen) (hc1 : geN (s.at o.f1) o.f3 = true) (hc2 : geN o.f3 0 = true) :
    Calls Tryz.prog 114 #[ptrR g, opV o] w (StepOut w g mb cb ⟨true, 0, []⟩ ((s.put o.f1 (addN (s.at o.f1) (negN o.f3))).put o.f2 (addN ((s.put o.f1 (addN (s.at o.f1) (negN o.f3))).at o.f2) o.f3))) := by
  have hX := boxed h o
  obtain ⟨W, hW⟩ : ∃ W, ((w.alloc (.cells #[.int .i64 o.f0, .string o.f1, .string o.f2, .int .u64 o.f3] 63)).alloc (.cells #[.bool false, .int .u64 0, .slice none 0 0] 65)) = W := ⟨_, rfl⟩
  rw [hW] at hX
  have hlt := hX.lt h
  have hg : W.cell? ⟨g, 0, none⟩ = some (.map (some mb)) := hX.run.blk.cell 0
  have hk1 : W.cell? ⟨w.heap.size, 1, none⟩ = some (.string o.f1) := hX.op.cell 1
  have hk3 : W.cell? ⟨w.heap.size, 3, none⟩ = some (.int .u64 o.f3) := hX.op.cell 3
  have hl := (hX.drew.run.d).look1 Tryz.underlying103 (zeroNum _) hk
  have hn : ((getL s.d o.f1).map encN).getD (.int .u64 0) = .int .u64 (s.at o.f1) := by unfold St.at; cases getL s.d o.f1 <;> rfl
  rw [hn] at hl
  have HC1 := Lib.hid (nCovers_any (s.at o.f1) o.f3)
  have HC2 := Lib.hid (nCovers_any o.f3 0)
  have HOF := Lib.hid (nOf_any 0)
  rw [ofN_zero] at HOF
  clear hn
  rw [hc1] at HC1
  rw [hc2] at HC2
  clear hc1 hc2
  have HNG := Lib.hid (nNeg_any o.f3)
  have HA1 := Lib.hid (nAdd_any (s.at o.f1) (negN o.f3))
  generalize negN o.f3 = ng at *
  generalize hm1 : addN (s.at o.f1) ng = m1 at *
  clear hm1
  generalize s.at o.f1 = n at *
  have HX := Lib.hid (And.intro hX hlt); clear h hX hlt
  go_enter Tryz.func114, Tryz.ntmps114
  go_upto_region 1 with fail
  clear hW
  refine wp_region_held (S := (fun W => W.cell? ⟨g, 0, none⟩ = some (.map (some mb)) ∧ W.cell? ⟨w.heap.size, 1, none⟩ = some (.string o.f1) ∧ (Instr.lookup 103 (.map (some mb)) (.string o.f1) false).run Tryz.prog W = .ok (.int .u64 n) W)) (by kernel_rfl) ?_
  simp only [List.size_toArray, List.length_cons, List.length_nil, Nat.zero_add, Nat.reduceAdd]
  have hHeld : ((fun W => W.cell? ⟨g, 0, none⟩ = some (.map (some mb)) ∧ W.cell? ⟨w.heap.size, 1, none⟩ = some (.string o.f1) ∧ (Instr.lookup 103 (.map (some mb)) (.string o.f1) false).run Tryz.prog W = .ok (.int .u64 n) W)) W.drew := ⟨hg, hk1, hl⟩
  refine wpAnyH_take (i := 0) (v := ?_) rfl (by kernel_rfl) (by kernel_rfl) (by kernel_rfl) (fun _ _ _ h => h) (Or.inl ⟨by rfl, ?_⟩) (by assumption) ?_
  rotate_left
  · (intro w hSw; (try dsimp only at hSw); go_split_ands; go_simp; try with_reducible rfl)
  try simp only [List.getElem_toArray, List.getElem_cons_succ, List.getElem_cons_zero, Act.put, List.setIfInBounds_toArray, List.set_cons_zero, List.set_cons_succ]
  refine wpAnyH_take (i := 1) (v := ?_) rfl (by kernel_rfl) (by kernel_rfl) (by kernel_rfl) (fun _ _ _ h => h) (Or.inl ⟨by rfl, ?_⟩) (by assumption) ?_
  rotate_left
  · (intro w hSw; (try dsimp only at hSw); go_split_ands; go_simp; try with_reducible rfl)
  try simp only [List.getElem_toArray, List.getElem_cons_succ, List.getElem_cons_zero, Act.put, List.setIfInBounds_toArray, List.set_cons_zero, List.set_cons_succ]
  refine wpAnyH_take (i := 2) (v := ?_) rfl (by kernel_rfl) (by kernel_rfl) (by kernel_rfl) (fun _ _ _ h => h) (Or.inl ⟨by rfl, ?_⟩) (by assumption) ?_
  rotate_left
  · (intro w hSw; (try dsimp only at hSw); go_split_ands; go_simp; try with_reducible rfl)
  try simp only [List.getElem_toArray, List.getElem_cons_succ, List.getElem_cons_zero, Act.put, List.setIfInBounds_toArray, List.set_cons_zero, List.set_cons_succ]
  refine wpAnyH_take (i := 3) (v := ?_) rfl (by kernel_rfl) (by kernel_rfl) (by kernel_rfl) (fun _ _ _ h => h) (Or.inl ⟨by rfl, ?_⟩) (by assumption) ?_
  rotate_left
  · (intro w hSw; (try dsimp only at hSw); go_split_ands; go_simp; try with_reducible rfl)
  try simp only [List.getElem_toArray, List.getElem_cons_succ, List.getElem_cons_zero, Act.put, List.setIfInBounds_toArray, List.set_cons_zero, List.set_cons_succ]
  refine wpAnyH_take (i := 4) (v := ?_) rfl (by kernel_rfl) (by kernel_rfl) (by kernel_rfl) (fun _ _ _ h => h) (Or.inl ⟨by rfl, ?_⟩) (by assumption) ?_
  rotate_left
  · (intro w hSw; (try dsimp only at hSw); go_split_ands; go_simp; try with_reducible rfl)
  try simp only [List.getElem_toArray, List.getElem_cons_succ, List.getElem_cons_zero, Act.put, List.setIfInBounds_toArray, List.set_cons_zero, List.set_cons_succ]
  refine wpAnyH_take (i := 5) (v := ?_) rfl (by kernel_rfl) (by kernel_rfl) (by kernel_rfl) (fun _ _ _ h => h) (Or.inl ⟨by rfl, ?_⟩) (by assumption) ?_
  rotate_left
  · (intro w hSw; (try dsimp only at hSw); go_split_ands; go_simp; try with_reducible rfl)
  try simp only [List.getElem_toArray, List.getElem_cons_succ, List.getElem_cons_zero, Act.put, List.setIfInBounds_toArray, List.set_cons_zero, List.set_cons_succ]
  refine wpAnyH_take (i := 6) (v := ?_) rfl (by kernel_rfl) (by kernel_rfl) (by kernel_rfl) (fun _ _ _ h => h) (Or.inl ⟨by rfl, ?_⟩) (by assumption) ?_
  rotate_left
  · (intro w hSw; (try dsimp only at hSw); go_split_ands; go_simp; try with_reducible rfl)
  try simp only [List.getElem_toArray, List.getElem_cons_succ, List.getElem_cons_zero, Act.put, List.setIfInBounds_toArray, List.set_cons_zero, List.set_cons_succ]
  refine wpAnyH_take (i := 7) (v := ?_) rfl (by kernel_rfl) (by kernel_rfl) (by kernel_rfl) (fun _ _ _ h => h) (Or.inl ⟨by rfl, ?_⟩) (by assumption) ?_
  rotate_left
  · (intro w hSw; (try dsimp only at hSw); go_split_ands; go_simp; try with_reducible rfl)
  try simp only [List.getElem_toArray, List.getElem_cons_succ, List.getElem_cons_zero, Act.put, List.setIfInBounds_toArray, List.set_cons_zero, List.set_cons_succ]
  refine wpAnyH_done (by kernel_rfl) ?_ _
  clear hHeld hl hg hk1
  go_upto_region 2 with fail
  refine wp_region_held (S := (fun V => Drawn0 W V ∧ V.cell? ⟨w.heap.size, 3, none⟩ = some (.int .u64 o.f3))) (by kernel_rfl) ?_
  simp only [List.size_toArray, List.length_cons, List.length_nil, Nat.zero_add, Nat.reduceAdd]
  have hHeld : ((fun V => Drawn0 W V ∧ V.cell? ⟨w.heap.size, 3, none⟩ = some (.int .u64 o.f3))) W.drew.drew := ⟨⟨2, rfl⟩, hk3⟩
  refine wpAnyH_take (i := 0) (v := ?_) rfl (by kernel_rfl) (by kernel_rfl) (by kernel_rfl) (fun _ _ _ h => h) (Or.inl ⟨by rfl, ?_⟩) (by assumption) ?_
  rotate_left
  · (intro w hSw; (try dsimp only at hSw); go_split_ands; go_simp; try with_reducible rfl)
  try simp only [List.getElem_toArray, List.getElem_cons_succ, List.getElem_cons_zero, Act.put, List.setIfInBounds_toArray, List.set_cons_zero, List.set_cons_succ]
  refine wpAnyH_take (i := 1) (v := ?_) rfl (by kernel_rfl) (by kernel_rfl) (by kernel_rfl) (fun _ _ _ h => h) (Or.inl ⟨by rfl, ?_⟩) (by assumption) ?_
  rotate_left
  · (intro w hSw; (try dsimp only at hSw); go_split_ands; go_simp; try with_reducible rfl)
  try simp only [List.getElem_toArray, List.getElem_cons_succ, List.getElem_cons_zero, Act.put, List.setIfInBounds_toArray, List.set_cons_zero, List.set_cons_succ]
  refine wpAnyH_take (i := 2) (v := ?_) rfl (by kernel_rfl) (by kernel_rfl) (by kernel_rfl) (fun _ _ _ h => h) (Or.inl ⟨by rfl, ?_⟩) (by assumption) ?_
  rotate_left
  · (intro w hSw; (try dsimp only at hSw); go_split_ands; go_simp; try with_reducible rfl)
  try simp only [List.getElem_toArray, List.getElem_cons_succ, List.getElem_cons_zero, Act.put, List.setIfInBounds_toArray, List.set_cons_zero, List.set_cons_succ]
  refine wpAnyH_ready (rs := [3]) (by kernel_rfl) (by simp) ?_
  refine (AllReadyH.cons rfl (fun K hK => ?_) AllReadyH.nil)
  go_simp
  refine (HC1.out _).mono ?_
  rintro e w1 ⟨rfl, rfl⟩
  refine hK.out _ _ ?_ (fun hHeld => ?_)
  · exact hHeld
  clear hK K
  try simp only [List.getElem_toArray, List.getElem_cons_succ, List.getElem_cons_zero, Act.put, List.setIfInBounds_toArray, List.set_cons_zero, List.set_cons_succ]
  refine wpAnyH_take (i := 4) (v := ?_) rfl (by kernel_rfl) (by kernel_rfl) (by kernel_rfl) (fun _ _ _ h => h) (Or.inl ⟨by rfl, ?_⟩) (by assumption) ?_
  rotate_left
  · (intro w hSw; (try dsimp only at hSw); go_split_ands; go_simp; try with_reducible rfl)
  try simp only [List.getElem_toArray, List.getElem_cons_succ, List.getElem_cons_zero, Act.put, List.setIfInBounds_toArray, List.set_cons_zero, List.set_cons_succ]
  refine wpAnyH_take (i := 5) (v := ?_) rfl (by kernel_rfl) (by kernel_rfl) (by kernel_rfl) (fun _ _ _ h => h) (Or.inl ⟨by rfl, ?_⟩) (by assumption) ?_
  rotate_left
  · (intro w hSw; (try dsimp only at hSw); go_split_ands; go_simp; try with_reducible rfl)
  try simp only [List.getElem_toArray, List.getElem_cons_succ, List.getElem_cons_zero, Act.put, List.setIfInBounds_toArray, List.set_cons_zero, List.set_cons_succ]
  refine wpAnyH_take (i := 6) (v := ?_) rfl (by kernel_rfl) (by kernel_rfl) (by kernel_rfl) (fun _ _ _ h => h) (Or.inl ⟨by rfl, ?_⟩) (by assumption) ?_
  rotate_left
  · (intro w hSw; (try dsimp only at hSw); go_split_ands; go_simp; try with_reducible rfl)
  try simp only [List.getElem_toArray, List.getElem_cons_succ, List.getElem_cons_zero, Act.put, List.setIfInBounds_toArray, List.set_cons_zero, List.set_cons_succ]
  refine wpAnyH_take (i := 7) (v := ?_) rfl (by kernel_rfl) (by kernel_rfl) (by kernel_rfl) (fun _ _ _ h => h) (Or.inl ⟨by rfl, ?_⟩) (by assumption) ?_
  rotate_left
  · (intro w hSw; (try dsimp only at hSw); go_split_ands; go_simp; try with_reducible rfl)
  try simp only [List.getElem_toArray, List.getElem_cons_succ, List.getElem_cons_zero, Act.put, List.setIfInBounds_toArray, List.set_cons_zero, List.set_cons_succ]
  refine wpAnyH_ready (rs := [8]) (by kernel_rfl) (by simp) ?_
  refine (AllReadyH.cons rfl (fun K hK => ?_) AllReadyH.nil)
  go_simp
  refine (HOF.out _).mono ?_
  rintro e w1 ⟨rfl, rfl⟩
  refine hK.out _ _ ?_ (fun hHeld => ?_)
  · exact hHeld
  clear hK K
  try simp only [List.getElem_toArray, List.getElem_cons_succ, List.getElem_cons_zero, Act.put, List.setIfInBounds_toArray, List.set_cons_zero, List.set_cons_succ]
  refine wpAnyH_ready (rs := [9]) (by kernel_rfl) (by simp) ?_
  refine (AllReadyH.cons rfl (fun K hK => ?_) AllReadyH.nil)
  go_simp
  refine (HC2.out _).mono ?_
  rintro e w1 ⟨rfl, rfl⟩
  refine hK.out _ _ ?_ (fun hHeld => ?_)
  · exact hHeld
  clear hK K
  try simp only [List.getElem_toArray, List.getElem_cons_succ, List.getElem_cons_zero, Act.put, List.setIfInBounds_toArray, List.set_cons_zero, List.set_cons_succ]
  refine wpAnyH_take (i := 10) (v := ?_) rfl (by kernel_rfl) (by kernel_rfl) (by kernel_rfl) (fun _ _ _ h => h) (Or.inl ⟨by rfl, ?_⟩) (by assumption) ?_
  rotate_left
  · (intro w hSw; (try dsimp only at hSw); go_split_ands; go_simp; try with_reducible rfl)
  try simp only [List.getElem_toArray, List.getElem_cons_succ, List.getElem_cons_zero, Act.put, List.setIfInBounds_toArray, List.set_cons_zero, List.set_cons_succ]
  refine wpAnyH_take (i := 11) (v := ?_) rfl (by kernel_rfl) (by kernel_rfl) (by kernel_rfl) (fun _ _ _ h => h) (Or.inl ⟨by rfl, ?_⟩) (by assumption) ?_
  rotate_left
  · (intro w hSw; (try dsimp only at hSw); go_split_ands; go_simp; try with_reducible rfl)
  try simp only [List.getElem_toArray, List.getElem_cons_succ, List.getElem_cons_zero, Act.put, List.setIfInBounds_toArray, List.set_cons_zero, List.set_cons_succ]
  refine wpAnyH_done (by kernel_rfl) ?_ _
  clear hHeld hk3
  suffices hz : Exit.then _ _ _ _ (W.drewN 2) from hz
  obtain ⟨w3, hw3⟩ : ∃ w3, W.drewN 2 = w3 := ⟨_, rfl⟩
  rw [hw3]
  have HX3 := Lib.hid (And.intro (hw3 ▸ HX.out.1.drewN 2) HX.out.2)
  clear hw3 HX
  clear HC1 HC2 HOF
  have hk1 : w3.cell? ⟨w.heap.size, 1, none⟩ = some (.string o.f1) := HX3.out.1.op.cell 1
  have hk3 : w3.cell? ⟨w.heap.size, 3, none⟩ = some (.int .u64 o.f3) := HX3.out.1.op.cell 3
  go_upto_region 4 with fail
  refine wp_region_last1_held (S := (fun V => Drawn0 w3 V ∧ V.cell? ⟨w.heap.size, 1, none⟩ = some (.string o.f1) ∧ V.cell? ⟨w.heap.size, 3, none⟩ = some (.int .u64 o.f3))) (l := [_, _, _, _, _, _, _, _]) (o := _) (by kernel_rfl) (by kernel_rfl) ?_
  simp only [List.size_toArray, List.length_cons, List.length_nil, Nat.zero_add, Nat.reduceAdd]
  have hHeld : ((fun V => Drawn0 w3 V ∧ V.cell? ⟨w.heap.size, 1, none⟩ = some (.string o.f1) ∧ V.cell? ⟨w.heap.size, 3, none⟩ = some (.int .u64 o.f3))) w3.drew := ⟨⟨1, rfl⟩, hk1, hk3⟩
  refine wpAnyH_take (i := 0) (v := ?_) rfl (by kernel_rfl) (by kernel_rfl) (by kernel_rfl) (fun _ _ _ h => h) (Or.inl ⟨by rfl, ?_⟩) (by assumption) ?_
  rotate_left
  · (intro w hSw; (try dsimp only at hSw); go_split_ands; go_simp; try with_reducible rfl)
  try simp only [List.getElem_toArray, List.getElem_cons_succ, List.getElem_cons_zero, Act.put, List.setIfInBounds_toArray, List.set_cons_zero, List.set_cons_succ]
  refine wpAnyH_take (i := 1) (v := ?_) rfl (by kernel_rfl) (by kernel_rfl) (by kernel_rfl) (fun _ _ _ h => h) (Or.inl ⟨by rfl, ?_⟩) (by assumption) ?_
  rotate_left
  · (intro w hSw; (try dsimp only at hSw); go_split_ands; go_simp; try with_reducible rfl)
  try simp only [List.getElem_toArray, List.getElem_cons_succ, List.getElem_cons_zero, Act.put, List.setIfInBounds_toArray, List.set_cons_zero, List.set_cons_succ]
  refine wpAnyH_take (i := 2) (v := ?_) rfl (by kernel_rfl) (by kernel_rfl) (by kernel_rfl) (fun _ _ _ h => h) (Or.inl ⟨by rfl, ?_⟩) (by assumption) ?_
  rotate_left
  · (intro w hSw; (try dsimp only at hSw); go_split_ands; go_simp; try with_reducible rfl)
  try simp only [List.getElem_toArray, List.getElem_cons_succ, List.getElem_cons_zero, Act.put, List.setIfInBounds_toArray, List.set_cons_zero, List.set_cons_succ]
  refine wpAnyH_take (i := 3) (v := ?_) rfl (by kernel_rfl) (by kernel_rfl) (by kernel_rfl) (fun _ _ _ h => h) (Or.inl ⟨by rfl, ?_⟩) (by assumption) ?_
  rotate_left
  · (intro w hSw; (try dsimp only at hSw); go_split_ands; go_simp; try with_reducible rfl)
  try simp only [List.getElem_toArray, List.getElem_cons_succ, List.getElem_cons_zero, Act.put, List.setIfInBounds_toArray, List.set_cons_zero, List.set_cons_succ]
  refine wpAnyH_take (i := 4) (v := ?_) rfl (by kernel_rfl) (by kernel_rfl) (by kernel_rfl) (fun _ _ _ h => h) (Or.inl ⟨by rfl, ?_⟩) (by assumption) ?_
  rotate_left
  · (intro w hSw; (try dsimp only at hSw); go_split_ands; go_simp; try with_reducible rfl)
  try simp only [List.getElem_toArray, List.getElem_cons_succ, List.getElem_cons_zero, Act.put, List.setIfInBounds_toArray, List.set_cons_zero, List.set_cons_succ]
  refine wpAnyH_take (i := 5) (v := ?_) rfl (by kernel_rfl) (by kernel_rfl) (by kernel_rfl) (fun _ _ _ h => h) (Or.inl ⟨by rfl, ?_⟩) (by assumption) ?_
  rotate_left
  · (intro w hSw; (try dsimp only at hSw); go_split_ands; go_simp; try with_reducible rfl)
  try simp only [List.getElem_toArray, List.getElem_cons_succ, List.getElem_cons_zero, Act.put, List.setIfInBounds_toArray, List.set_cons_zero, List.set_cons_succ]
  refine wpAnyH_ready (rs := [6]) (by kernel_rfl) (by simp) ?_
  refine (AllReadyH.cons rfl (fun K hK => ?_) AllReadyH.nil)
  go_simp
  refine (HNG.out _).mono ?_
  rintro e w1 ⟨rfl, rfl⟩
  refine hK.out _ _ ?_ (fun hHeld => ?_)
  · exact hHeld
  clear hK K
  try simp only [List.getElem_toArray, List.getElem_cons_succ, List.getElem_cons_zero, Act.put, List.setIfInBounds_toArray, List.set_cons_zero, List.set_cons_succ]
  refine wpAnyH_ready (rs := [7]) (by kernel_rfl) (by simp) ?_
  refine (AllReadyH.cons rfl (fun K hK => ?_) AllReadyH.nil)
  go_simp
  refine (HA1.out _).mono ?_
  rintro e w1 ⟨rfl, n1, rfl⟩
  refine hK.out _ _ ?_ (fun hHeld => ?_)
  · exact ⟨hHeld.1.step n1, hHeld.2.1, hHeld.2.2⟩
  clear hK K
  try simp only [List.getElem_toArray, List.getElem_cons_succ, List.getElem_cons_zero, Act.put, List.setIfInBounds_toArray, List.set_cons_zero, List.set_cons_succ]
  refine wpAnyH_done (by kernel_rfl) ?_ _
  refine lastPost_wp ?_
  obtain ⟨⟨q, hq⟩, _, _⟩ := hHeld
  rw [hq]
  clear hq hk1 hk3
  have hXq := HX3.out.1.drewN q
  have HP := Lib.hid (rnput_any hXq.run hs o.f1 hk m1)
  have HXq := Lib.hid (And.intro hXq HX3.out.2)
  clear hXq HX3
  generalize w3.drewN q = V at *
  go_wp2_with fail
  refine HP.out.mono ?_
  rintro e w4 ⟨rfl, hr4, hu4⟩
  have hX4 := HXq.out.1.put HXq.out.2 hr4 hu4
  have HX4 := Lib.hid (And.intro hX4 HXq.out.2)
  have hg4 : w4.cell? ⟨g, 0, none⟩ = some (.map (some mb)) := hX4.run.blk.cell 0
  have hk2c : w4.cell? ⟨w.heap.size, 2, none⟩ = some (.string o.f2) := hX4.op.cell 2
  have hk3 : w4.cell? ⟨w.heap.size, 3, none⟩ = some (.int .u64 o.f3) := hX4.op.cell 3
  have hl4 := fun q => ((hX4.drewN q).run.d).look1 Tryz.underlying103 (zeroNum _) hk2
  have hn : ((getL (s.put o.f1 m1).d o.f2).map encN).getD (.int .u64 0) = .int .u64 ((s.put o.f1 m1).at o.f2) := by unfold St.at; cases getL (s.put o.f1 m1).d o.f2 <;> rfl
  rw [hn] at hl4
  have HA2 := Lib.hid (nAdd_any ((s.put o.f1 m1).at o.f2) o.f3)
  clear hr4 hu4 hX4 hn HP HXq
  generalize hm2 : addN ((s.put o.f1 m1).at o.f2) o.f3 = m2 at *
  generalize (s.put o.f1 m1).at o.f2 = n2 at *
  clear hm2
  go_upto_region 5 with fail
  refine wp_region_last1_held (S := (fun V => Drawn0 w4 V ∧ V.cell? ⟨g, 0, none⟩ = some (.map (some mb)) ∧ V.cell? ⟨w.heap.size, 2, none⟩ = some (.string o.f2) ∧ V.cell? ⟨w.heap.size, 3, none⟩ = some (.int .u64 o.f3) ∧ (Instr.lookup 103 (.map (some mb)) (.string o.f2) false).run Tryz.prog V = .ok (.int .u64 n2) V)) (l := [_, _, _, _, _, _, _, _, _, _, _, _, _]) (o := _) (by kernel_rfl) (by kernel_rfl) ?_
  simp only [List.size_toArray, List.length_cons, List.length_nil, Nat.zero_add, Nat.reduceAdd]
  have hHeld : ((fun V => Drawn0 w4 V ∧ V.cell? ⟨g, 0, none⟩ = some (.map (some mb)) ∧ V.cell? ⟨w.heap.size, 2, none⟩ = some (.string o.f2) ∧ V.cell? ⟨w.heap.size, 3, none⟩ = some (.int .u64 o.f3) ∧ (Instr.lookup 103 (.map (some mb)) (.string o.f2) false).run Tryz.prog V = .ok (.int .u64 n2) V)) w4.drew := ⟨⟨1, rfl⟩, hg4, hk2c, hk3, hl4 1⟩
  refine wpAnyH_take (i := 0) (v := ?_) rfl (by kernel_rfl) (by kernel_rfl) (by kernel_rfl) (fun _ _ _ h => h) (Or.inl ⟨by rfl, ?_⟩) (by assumption) ?_
  rotate_left
  · (intro w hSw; (try dsimp only at hSw); go_split_ands; go_simp; try with_reducible rfl)
  try simp only [List.getElem_toArray, List.getElem_cons_succ, List.getElem_cons_zero, Act.put, List.setIfInBounds_toArray, List.set_cons_zero, List.set_cons_succ]
  refine wpAnyH_take (i := 1) (v := ?_) rfl (by kernel_rfl) (by kernel_rfl) (by kernel_rfl) (fun _ _ _ h => h) (Or.inl ⟨by rfl, ?_⟩) (by assumption) ?_
  rotate_left
  · (intro w hSw; (try dsimp only at hSw); go_split_ands; go_simp; try with_reducible rfl)
  try simp only [List.getElem_toArray, List.getElem_cons_succ, List.getElem_cons_zero, Act.put, List.setIfInBounds_toArray, List.set_cons_zero, List.set_cons_succ]
  refine wpAnyH_take (i := 2) (v := ?_) rfl (by kernel_rfl) (by kernel_rfl) (by kernel_rfl) (fun _ _ _ h => h) (Or.inl ⟨by rfl, ?_⟩) (by assumption) ?_
  rotate_left
  · (intro w hSw; (try dsimp only at hSw); go_split_ands; go_simp; try with_reducible rfl)
  try simp only [List.getElem_toArray, List.getElem_cons_succ, List.getElem_cons_zero, Act.put, List.setIfInBounds_toArray, List.set_cons_zero, List.set_cons_succ]
  refine wpAnyH_take (i := 3) (v := ?_) rfl (by kernel_rfl) (by kernel_rfl) (by kernel_rfl) (fun _ _ _ h => h) (Or.inl ⟨by rfl, ?_⟩) (by assumption) ?_
  rotate_left
  · (intro w hSw; (try dsimp only at hSw); go_split_ands; go_simp; try with_reducible rfl)
  try simp only [List.getElem_toArray, List.getElem_cons_succ, List.getElem_cons_zero, Act.put, List.setIfInBounds_toArray, List.set_cons_zero, List.set_cons_succ]
  refine wpAnyH_take (i := 4) (v := ?_) rfl (by kernel_rfl) (by kernel_rfl) (by kernel_rfl) (fun _ _ _ h => h) (Or.inl ⟨by rfl, ?_⟩) (by assumption) ?_
  rotate_left
  · (intro w hSw; (try dsimp only at hSw); go_split_ands; go_simp; try with_reducible rfl)
  try simp only [List.getElem_toArray, List.getElem_cons_succ, List.getElem_cons_zero, Act.put, List.setIfInBounds_toArray, List.set_cons_zero, List.set_cons_succ]
  refine wpAnyH_take (i := 5) (v := ?_) rfl (by kernel_rfl) (by kernel_rfl) (by kernel_rfl) (fun _ _ _ h => h) (Or.inl ⟨by rfl, ?_⟩) (by assumption) ?_
  rotate_left
  · (intro w hSw; (try dsimp only at hSw); go_split_ands; go_simp; try with_reducible rfl)
  try simp only [List.getElem_toArray, List.getElem_cons_succ, List.getElem_cons_zero, Act.put, List.setIfInBounds_toArray, List.set_cons_zero, List.set_cons_succ]
  refine wpAnyH_take (i := 6) (v := ?_) rfl (by kernel_rfl) (by kernel_rfl) (by kernel_rfl) (fun _ _ _ h => h) (Or.inl ⟨by rfl, ?_⟩) (by assumption) ?_
  rotate_left
  · (intro w hSw; (try dsimp only at hSw); go_split_ands; go_simp; try with_reducible rfl)
  try simp only [List.getElem_toArray, List.getElem_cons_succ, List.getElem_cons_zero, Act.put, List.setIfInBounds_toArray, List.set_cons_zero, List.set_cons_succ]
  refine wpAnyH_take (i := 7) (v := ?_) rfl (by kernel_rfl) (by kernel_rfl) (by kernel_rfl) (fun _ _ _ h => h) (Or.inl ⟨by rfl, ?_⟩) (by assumption) ?_
  rotate_left
  · (intro w hSw; (try dsimp only at hSw); go_split_ands; go_simp; try with_reducible rfl)
  try simp only [List.getElem_toArray, List.getElem_cons_succ, List.getElem_cons_zero, Act.put, List.setIfInBounds_toArray, List.set_cons_zero, List.set_cons_succ]
  refine wpAnyH_take (i := 8) (v := ?_) rfl (by kernel_rfl) (by kernel_rfl) (by kernel_rfl) (fun _ _ _ h => h) (Or.inl ⟨by rfl, ?_⟩) (by assumption) ?_
  rotate_left
  · (intro w hSw; (try dsimp only at hSw); go_split_ands; go_simp; try with_reducible rfl)
  try simp only [List.getElem_toArray, List.getElem_cons_succ, List.getElem_cons_zero, Act.put, List.setIfInBounds_toArray, List.set_cons_zero, List.set_cons_succ]
  refine wpAnyH_take (i := 9) (v := ?_) rfl (by kernel_rfl) (by kernel_rfl) (by kernel_rfl) (fun _ _ _ h => h) (Or.inl ⟨by rfl, ?_⟩) (by assumption) ?_
  rotate_left
  · (intro w hSw; (try dsimp only at hSw); go_split_ands; go_simp; try with_reducible rfl)
  try simp only [List.getElem_toArray, List.getElem_cons_succ, List.getElem_cons_zero, Act.put, List.setIfInBounds_toArray, List.set_cons_zero, List.set_cons_succ]
  refine wpAnyH_take (i := 10) (v := ?_) rfl (by kernel_rfl) (by kernel_rfl) (by kernel_rfl) (fun _ _ _ h => h) (Or.inl ⟨by rfl, ?_⟩) (by assumption) ?_
  rotate_left
  · (intro w hSw; (try dsimp only at hSw); go_split_ands; go_simp; try with_reducible rfl)
  try simp only [List.getElem_toArray, List.getElem_cons_succ, List.getElem_cons_zero, Act.put, List.setIfInBounds_toArray, List.set_cons_zero, List.set_cons_succ]
  refine wpAnyH_take (i := 11) (v := ?_) rfl (by kernel_rfl) (by kernel_rfl) (by kernel_rfl) (fun _ _ _ h => h) (Or.inl ⟨by rfl, ?_⟩) (by assumption) ?_
  rotate_left
  · (intro w hSw; (try dsimp only at hSw); go_split_ands; go_simp; try with_reducible rfl)
  try simp only [List.getElem_toArray, List.getElem_cons_succ, List.getElem_cons_zero, Act.put, List.setIfInBounds_toArray, List.set_cons_zero, List.set_cons_succ]
  refine wpAnyH_ready (rs := [12]) (by kernel_rfl) (by simp) ?_
  refine (AllReadyH.cons rfl (fun K hK => ?_) AllReadyH.nil)
  go_simp
  refine (HA2.out _).mono ?_
  rintro e w1 ⟨rfl, n1, rfl⟩
  refine hK.out _ _ ?_ (fun hHeld => ?_)
  · obtain ⟨⟨q1, hq1⟩, h1, h2, h3, _⟩ := hHeld
    exact ⟨⟨q1 + n1, by rw [hq1, World.drewN_drewN]⟩, h1, h2, h3, by rw [hq1, World.drewN_drewN]; exact hl4 _⟩
  clear hK K
  try simp only [List.getElem_toArray, List.getElem_cons_succ, List.getElem_cons_zero, Act.put, List.setIfInBounds_toArray, List.set_cons_zero, List.set_cons_succ]
  refine wpAnyH_done (by kernel_rfl) ?_ _
  refine lastPost_wp ?_
  obtain ⟨⟨q5, hq⟩, _⟩ := hHeld
  rw [hq]
  clear hq hg4 hk2c hk3 hl4
  have hXq := HX4.out.1.drewN q5
  have HP := Lib.hid (rnput_any hXq.run (hs2 _ _) o.f2 hk2 m2)
  have HXq := Lib.hid (And.intro hXq HX4.out.2)
  clear hXq HX4
  generalize w4.drewN q5 = V5 at *
  go_wp2_with fail
  refine HP.out.mono ?_
  rintro e w3 ⟨rfl, hr4, hu4⟩
  have HX3 := Lib.hid (And.intro (HXq.out.1.put HXq.out.2 hr4 hu4) HXq.out.2)
  clear hr4 hu4 HP HXq
  have a0 : w3.cell? ⟨w.heap.size + 1, 0, none⟩ = some (.bool false) := HX3.out.1.ans.cell 0
  have a1 : w3.cell? ⟨w.heap.size + 1, 1, none⟩ = some (.int .u64 0) := HX3.out.1.ans.cell 1
  have a2 : w3.cell? ⟨w.heap.size + 1, 2, none⟩ = some (.slice none 0 0) := HX3.out.1.ans.cell 2
  have z0 := HX3.out.1.ans.frozen 0
  have z1 := HX3.out.1.ans.frozen 1
  have z2 := HX3.out.1.ans.frozen 2
  go_wp2
  refine bodyPost_ret (results_cell_row (by rfl) _ _ (w.heap.size + 1) 65 #[.bool true, .int .u64 0, .slice none 0 0] (0, 0) _ (by rfl) HX3.out.1.fin Tryz.underlying65 (by rfl) (by kernel_rfl)) rfl ?_
  exact HX3.out.1.out HX3.out.2 (Kd.R_nil _ _ _ _ _)
end
end Go.Proofs.YtgmlenpcchhmbaaGreat.P
end
section
set_option linter.unusedVariables false
set_option linter.unusedSimpArgs false
namespace Go.Proofs.YtgmlenpcchhmbaaGreat.P
open Go.RowKit Go.Proofs.YtgmlenpcchhmbaaGreatW.PrintWords Go.Proofs.YtgmlenpcchhmbaaGreatW.PrintLast Go.Proofs.YtgmlenpcchhmbaaGreatW.PrintMore
theorem C_atG {w : World} {A : Option Addr} {n : Nat} {xs : List S71} (h : Kd.C k71 w A n xs) (k : Nat) (hk : k < xs.length) : ∃ ad, A = some ad ∧ w.cell? (ad.add (k * 2)) = some (.string xs[k].f0) ∧ w.cell? ⟨(ad.add (k * 2)).block, (ad.add (k * 2)).off + 1, none⟩ = some (.string xs[k].f1) := by
  obtain ⟨ad, hA, x0, x1⟩ := at_T71 h (k : Int) (by omega) (by have := h.1; omega)
  have er : rd_T71 xs (k : Int) = xs[k] := by
    unfold rd_T71
    rw [Int.toNat_natCast, List.getD_eq_getElem?_getD, List.getElem?_eq_getElem hk]
    rfl
  rw [er, Int.toNat_natCast] at x0 x1
  exact ⟨ad, hA, x0, x1⟩
set_option maxHeartbeats 1000000 in
theorem gidx_any (g : Nat) (lb : Array Value) (p : S71 → Bool) (eg : ∀ args w, (callFunc g args).run Tryz.prog w = .ok (.enter g args) w) (A : Option Addr) (c : Nat) (xs : List S71) (w : World) (hr : Kd.C k71 w A xs.length xs)
    (hp : ∀ (W : World) (s : S71), s ∈ xs → Below w.heap.size w W → Calls Tryz.prog g (#[] ++ #[.agg #[.string s.f0, .string s.f1]] ++ lb) W fun e w' => e = .returned (.bool (p s)) ∧ Below W.heap.size W w') :
    Calls Tryz.prog 155 #[.slice A xs.length c, .func (.func g) #[] lb] w fun e w' => e = .returned (.int .i64 (idxP p xs)) ∧ Below w.heap.size w w' := by
  have hm := Kd.C_max hr
  have HR := Lib.hid hr; clear hr
  have HP := Lib.hid hp; clear hp
  go_enter Tryz.func155, Tryz.ntmps155
  go_wp2
  go_loopw [5, 8] (fun _ i wr => ∃ k : Nat, i = .int .i64 k ∧ k ≤ xs.length ∧ Below w.heap.size w wr ∧ RowKit.Hid (∀ j (hj : j < xs.length), j < k → p xs[j] = false)) (fun _ i _ => xs.length - (intOf i).toNat)
  case atStart => exact ⟨0, rfl, Nat.zero_le _, Below.refl _ _, Lib.hid (fun j _ h => absurd h (Nat.not_lt_zero _))⟩
  case round =>
    obtain ⟨k, rfl, hk, hB, HN⟩ := hrel
    by_cases hlt : k < xs.length
    · obtain ⟨ad, hA, x0, x1⟩ := C_atG (Kd.C_below HR.out hB) k hlt
      subst hA
      have hc := HP.out wr xs[k] (List.getElem_mem hlt) hB
      generalize hu : xs[k] = u at *
      have HU := Lib.hid hu; clear hu
      cases hq : p u with
      | true =>
        rw [hq] at hc
        have HQ := Lib.hid hq; clear hq
        go_wp2_with (go_at_fn g; refine hc.mono ?_; rintro e w' ⟨rfl, hb⟩)
        go_ret
        refine ⟨?_, hB.trans (hb.mono hB.size)⟩
        rw [idxP_hit hlt HN.out (by rw [HU.out]; exact HQ.out)]
        rfl
      | false =>
        rw [hq] at hc
        have HQ := Lib.hid hq; clear hq
        go_wp2_with (go_at_fn g; refine hc.mono ?_; rintro e w' ⟨rfl, hb⟩)
        go_roundw
        case rel => exact ⟨k + 1, by go_num, by omega, hB.trans (hb.mono hB.size), Lib.hid (fun j hj h => by
          by_cases e : j = k
          · subst e; rw [HU.out]; exact HQ.out
          · exact HN.out j hj (by omega))⟩
        case measure => simp [intOf]; omega
    · obtain rfl : k = xs.length := by omega
      go_wp2
      go_ret
      refine ⟨?_, hB⟩
      rw [idxP_none (fun j hj => HN.out j hj (by omega))]
      rfl
set_option maxHeartbeats 1000000 in
theorem gcontains_any (g : Nat) (lb : Array Value) (p : S71 → Bool) (eg : ∀ args w, (callFunc g args).run Tryz.prog w = .ok (.enter g args) w) (A : Option Addr) (c : Nat) (xs : List S71) (w : World) (hr : Kd.C k71 w A xs.length xs)
    (hp : ∀ (W : World) (s : S71), s ∈ xs → Below w.heap.size w W → Calls Tryz.prog g (#[] ++ #[.agg #[.string s.f0, .string s.f1]] ++ lb) W fun e w' => e = .returned (.bool (p s)) ∧ Below W.heap.size W w') :
    Calls Tryz.prog 126 #[.slice A xs.length c, .func (.func g) #[] lb] w fun e w' => e = .returned (.bool (xs.any p)) ∧ Below w.heap.size w w' := by
  have HC := Lib.hid (gidx_any g lb p eg A c xs w hr hp)
  rw [← idxP_any]
  clear hr hp
  generalize idxP p xs = i at *
  go_enter Tryz.func126, Tryz.ntmps126
  go_wp2_with fail
  refine HC.out.mono ?_
  rintro e w1 ⟨rfl, hb⟩
  have HB := Lib.hid hb; clear hb
  go_wp2
  go_ret
  exact ⟨rfl, HB.out⟩
theorem before_any (e k : ByteArray) (w : World) : Calls Tryz.prog 128 #[.string e, .string k] w fun r w' => r = .returned (.bool (!(decide (e = emptyB) || klt k e))) ∧ w' = w := by
  by_cases h : e = emptyB
  · have h1 : e.toList = ([] : List UInt8) := (toList_nil e).2 h
    rw [decide_eq_true h, Bool.true_or]
    clear h
    have d1 : (e.toList == ([] : List UInt8)) = true := beq_iff_eq.2 h1
    have d2 : (e.toList != ([] : List UInt8)) = false := bne_eq_false_iff_eq.2 h1
    clear h1
    go_enter Tryz.func128, Tryz.ntmps128
    go_wp2
    go_ret
    exact ⟨rfl, rfl⟩
  · have h1 : ¬ e.toList = ([] : List UInt8) := fun x => h ((toList_nil e).1 x)
    rw [decide_eq_false h, Bool.false_or, ← klt_list, ← bl_tot]
    clear h
    have d1 : (e.toList == ([] : List UInt8)) = false := beq_eq_false_iff_ne.2 h1
    have d2 : (e.toList != ([] : List UInt8)) = true := bne_iff_ne.2 h1
    clear h1
    go_enter Tryz.func128, Tryz.ntmps128
    go_wp2
    go_ret
    exact ⟨rfl, rfl⟩
set_option maxHeartbeats 1000000 in
theorem has1_any (s : S71) (k : ByteArray) (bk : Nat) (w : World) (hk : w.cell? ⟨bk, 0, none⟩ = some (.string k)) :
    Calls Tryz.prog 127 #[.agg #[.string s.f0, .string s.f1], .pointer (some ⟨bk, 0, none⟩)] w fun e w' => e = .returned (.bool (hasS s k)) ∧ Below w.heap.size w w' := by
  obtain ⟨w1, hw1⟩ : ∃ w1, w.alloc (.cells #[.string s.f0, .string s.f1] 71) = w1 := ⟨_, rfl⟩
  have hb : Below w.heap.size w w1 := hw1 ▸ (Below.refl _ _).alloc (Nat.le_refl _) _
  have hT : Blk w1 w.heap.size 71 #[.string s.f0, .string s.f1] := hw1 ▸ Blk.new w 71 _
  have t0 : w1.cell? ⟨w.heap.size, 0, none⟩ = some (.string s.f0) := hT.cell 0
  have t1 : w1.cell? ⟨w.heap.size, 1, none⟩ = some (.string s.f1) := hT.cell 1
  have t2 : w1.cell? ⟨bk, 0, none⟩ = some (.string k) := pw_cell_below hb hk
  have HC := Lib.hid (before_any s.f1 k w1)
  have HB := Lib.hid hb; clear hb hT hk
  unfold hasS
  rw [← klt_list k s.f0]
  generalize (decide (s.f1 = emptyB) || klt k s.f1) = z at *
  cases hq : Op.bytesLess k.toList s.f0.toList with
  | true =>
    have h8 : (Op.bytesLess s.f0.toList k.toList || (s.f0.toList == k.toList)) = false := by rw [bl_tot, hq]; rfl
    go_enter Tryz.func127, Tryz.ntmps127
    go_wp2
    go_ret
    exact ⟨rfl, HB.out⟩
  | false =>
    have h8 : (Op.bytesLess s.f0.toList k.toList || (s.f0.toList == k.toList)) = true := by rw [bl_tot, hq]; rfl
    go_enter Tryz.func127, Tryz.ntmps127
    go_wp2_with fail
    refine HC.out.mono ?_
    rintro e w2 ⟨rfl, rfl⟩
    go_wp2
    go_ret
    exact ⟨by simp, HB.out⟩
set_option maxHeartbeats 1000000 in
theorem spHas_any (A : Option Addr) (c : Nat) (l : List S71) (k : ByteArray) (w : World) (hr : Kd.C k71 w A l.length l) :
    Calls Tryz.prog 84 #[.slice A l.length c, .string k] w fun e w' => e = .returned (.bool (hasSs l k)) ∧ Below w.heap.size w w' := by
  obtain ⟨w1, hw1⟩ : ∃ w1, w.alloc (.cells #[.string k] 9) = w1 := ⟨_, rfl⟩
  have hb : Below w.heap.size w w1 := hw1 ▸ (Below.refl _ _).alloc (Nat.le_refl _) _
  have hT : Blk w1 w.heap.size 9 #[.string k] := hw1 ▸ Blk.new w 9 _
  have eg : ∀ args w, (callFunc 127 args).run Tryz.prog w = .ok (.enter 127 args) w := enters_of Tryz.func127 (by kernel_rfl) rfl
  have hmf : ∀ (fn : Fn) (first cap : Array Value) (w : World), (Instr.makeFunc fn first cap).run Tryz.prog w = .ok (.func fn first cap) w := fun _ _ _ _ => rfl
  have HC := Lib.hid (gcontains_any 127 #[.pointer (some ⟨w.heap.size, 0, none⟩)] (fun s => hasS s k) eg A c l w1 (Kd.C_below hr hb) (fun W s _ hB => has1_any s k w.heap.size W (pw_cell_below hB (hT.cell 0))))
  have HB := Lib.hid hb; clear hb hT hr eg
  unfold hasSs
  generalize l.any (fun s => hasS s k) = z at *
  go_enter Tryz.func84, Tryz.ntmps84
  go_wp2_with fail
  refine HC.out.mono ?_
  rintro e w2 ⟨rfl, hb2⟩
  have HB2 := Lib.hid (HB.out.trans (hb2.mono HB.out.size)); clear hb2
  go_wp2
  go_ret
  exact ⟨rfl, HB2.out⟩
end Go.Proofs.YtgmlenpcchhmbaaGreat.P
end
section
set_option linter.unusedVariables false
set_option linter.unusedSimpArgs false
namespace Go.Proofs.YtgmlenpcchhmbaaGreat.P
open Go.RowKit Go.Proofs.YtgmlenpcchhmbaaGreatW.PrintWords Go.Proofs.YtgmlenpcchhmbaaGreatW.PrintLast Go.Proofs.YtgmlenpcchhmbaaGreatW.PrintMore
set_option maxHeartbeats 1000000 in
theorem pick1_any (p : S61) (bs : Nat) (A : Option Addr) (c : Nat) (l : List S71) (w : World) (hs : w.cell? ⟨bs, 0, none⟩ = some (.slice A l.length c)) (hr : Kd.C k71 w A l.length l) :
    Calls Tryz.prog 83 #[.agg #[.string p.f0, .int .u64 p.f1], .pointer (some ⟨bs, 0, none⟩)] w fun e w' => e = .returned (.bool (!hasSs l p.f0)) ∧ Below w.heap.size w w' := by
  obtain ⟨w1, hw1⟩ : ∃ w1, w.alloc (.cells #[.string p.f0, .int .u64 p.f1] 61) = w1 := ⟨_, rfl⟩
  have hb : Below w.heap.size w w1 := hw1 ▸ (Below.refl _ _).alloc (Nat.le_refl _) _
  have hT : Blk w1 w.heap.size 61 #[.string p.f0, .int .u64 p.f1] := hw1 ▸ Blk.new w 61 _
  have t0 : w1.cell? ⟨w.heap.size, 0, none⟩ = some (.string p.f0) := hT.cell 0
  have t2 : w1.cell? ⟨bs, 0, none⟩ = some (.slice A l.length c) := pw_cell_below hb hs
  have HC := Lib.hid (spHas_any A c l p.f0 w1 (Kd.C_below hr hb))
  have HB := Lib.hid hb; clear hb hT hs hr
  generalize hasSs l p.f0 = z at *
  go_enter Tryz.func83, Tryz.ntmps83
  go_wp2_with fail
  refine HC.out.mono ?_
  rintro e w2 ⟨rfl, hb2⟩
  have HB2 := Lib.hid (HB.out.trans (hb2.mono HB.out.size)); clear hb2
  go_wp2
  go_ret
  exact ⟨rfl, HB2.out⟩
set_option maxHeartbeats 1000000 in
theorem txpick_any (A : Option Addr) (c : Nat) (data : List S61) (A' : Option Addr) (c' : Nat) (l : List S71) (w : World) (hr : Kd.C k61 w A data.length data) (hr' : Kd.C k71 w A' l.length l) (hb : data.length * 24 ≤ 140737488355328) :
    Calls Tryz.prog 34 #[.slice A data.length c, .slice A' l.length c'] w fun e w' => ∃ v, e = .returned v ∧ RowPr w' w.heap.size v (pickT l data) ∧ Below w.heap.size w w' := by
  obtain ⟨w1, hw1⟩ : ∃ w1, w.alloc (.cells #[.slice A' l.length c'] 40) = w1 := ⟨_, rfl⟩
  have hb1 : Below w.heap.size w w1 := hw1 ▸ (Below.refl _ _).alloc (Nat.le_refl _) _
  have hT : Blk w1 w.heap.size 40 #[.slice A' l.length c'] := hw1 ▸ Blk.new w 40 _
  have hsz : w.heap.size < w1.heap.size := hT.lt
  have eg : ∀ args w, (callFunc 83 args).run Tryz.prog w = .ok (.enter 83 args) w := enters_of Tryz.func83 (by kernel_rfl) rfl
  have hmf : ∀ (fn : Fn) (first cap : Array Value) (w : World), (Instr.makeFunc fn first cap).run Tryz.prog w = .ok (.func fn first cap) w := fun _ _ _ _ => rfl
  have HC := Lib.hid (clonePr_any A c data w1 (Kd.C_below hr hb1) hb)
  have HX := Lib.hid (And.intro hb1 (And.intro hT (And.intro (Kd.C_below hr' hb1) (And.intro eg hsz)))); clear hb1 hT hr hr' hb eg hsz
  go_enter Tryz.func34, Tryz.ntmps34
  go_wp2_with fail
  refine HC.out.mono ?_
  rintro e w2 ⟨v2, rfl, ho2, hb2⟩
  have HD := Lib.hid (delPr_own 83 #[] #[.pointer (some ⟨w.heap.size, 0, none⟩)] (fun p => !hasSs l p.f0) HX.out.2.2.2.1 w1.heap.size v2 data w2 w1 ho2 hb2 hb2.size
    (fun W s hs hW => pick1_any s w.heap.size A' c' l W (pw_cell_below hW (HX.out.2.1.cell 0)) (Kd.C_below HX.out.2.2.1 hW)))
  obtain ⟨A2, c2, rfl⟩ := own_slice ho2
  clear ho2 hb2
  go_wp2_with fail
  refine HD.out.mono ?_
  rintro e w3 ⟨v3, rfl, ho3, hb3, _, _⟩
  have HO := Lib.hid (And.intro ho3 hb3)
  obtain ⟨A3, c3, rfl⟩ := own_slice ho3
  clear ho3 hb3
  go_wp2
  go_ret
  refine ⟨_, rfl, ?_, HX.out.1.trans (HO.out.2.mono HX.out.1.size)⟩
  have := RowPr.lower HO.out.1 HX.out.1.size
  simpa [pickT] using this
def txn_Pick.f (d : List S61) (l : List S71) : Option (List S61) := if d.length ≤ 1000000 then some (pickT l d) else none
theorem txn_Pick.calls (A0 : Option Addr) (c0 : Nat) (l0 : List S61) (A1 : Option Addr) (c1 : Nat) (l1 : List S71) (r : List S61) (w : World) (hr0 : Kd.C k61 w A0 l0.length l0) (_hc0 : l0.length ≤ c0) (hr1 : Kd.C k71 w A1 l1.length l1) (_hc1 : l1.length ≤ c1) (h : txn_Pick.f l0 l1 = some r) :
    Calls Tryz.prog 34 #[.slice A0 l0.length c0, .slice A1 l1.length c1] w fun e w' => ∃ v0_ : Value, e = .returned (v0_) ∧ Kd.R k61 61 w' w.heap.size (fun _ => True) v0_ r ∧ Below w.heap.size w w' := by
  unfold txn_Pick.f at h
  split at h
  · injection h with h
    subst h
    exact (txpick_any A0 c0 l0 A1 c1 l1 w hr0 hr1 (by omega)).mono fun e w' ⟨v, he, ho, hb⟩ => ⟨v, he, ho.R, hb⟩
  · cases h
end Go.Proofs.YtgmlenpcchhmbaaGreat.P
end
section
set_option linter.unusedVariables false
set_option linter.unusedSimpArgs false
namespace Go.Proofs.YtgmlenpcchhmbaaGreat.P
open Go.RowKit Go.Proofs.YtgmlenpcchhmbaaGreatW.PrintWords Go.Proofs.YtgmlenpcchhmbaaGreatW.PrintLast Go.Proofs.YtgmlenpcchhmbaaGreatW.PrintMore
theorem C_atS {w : World} {A : Option Addr} {n : Nat} {xs : List ByteArray} (h : Kd.C Kd.string w A n xs) (k : Nat) (hk : k < xs.length) : ∃ ad, A = some ad ∧ w.cell? (ad.add k) = some (.string xs[k]) := by
  obtain ⟨ad, hA, x0⟩ := Kd.at_string h (k : Int) (by omega) (by have := h.1; omega)
  have er : rdOf ByteArray.empty xs (k : Int) = xs[k] := by
    unfold rdOf
    rw [Int.toNat_natCast, List.getD_eq_getElem?_getD, List.getElem?_eq_getElem hk]
    rfl
  rw [er, Int.toNat_natCast] at x0
  exact ⟨ad, hA, x0⟩
def keySizes {V : Type} (l : List (ByteArray × V)) : Prop := ∀ x ∈ l, x.1.size ≤ 1000000
set_option maxHeartbeats 2000000 in
set_option maxRecDepth 100000 in
theorem sorted_any {w : World} {mb : Nat} {l : List (ByteArray × Int)} (hM : MS encN w mb l) (hn : l.length ≤ 1000000) (hs : keySizes l) :
    Calls Tryz.prog 143 #[.map (some mb)] w fun e w' => ∃ v, e = .returned v ∧ RowPr w' w.heap.size v (l.map ofA) ∧ Below w.heap.size w w' := by
  have hK := keysSN_any (some mb) w
  have hb1 : Below w.heap.size w (w.alloc (.cells #[.map (some mb)] 103)) := (Below.refl _ _).alloc (Nat.le_refl _) _
  have hS := sortedSN_any (Bm := w.heap.size) (hM.below hb1) hn (by simp) ((Blk.new w 103 #[.map (some mb)]).cell 0)
  have HK := Lib.hid hK
  have HS := Lib.hid hS
  have HX := Lib.hid (And.intro hM (And.intro hn (And.intro hs hb1)))
  clear hM hn hs hK hS hb1
  go_enter Tryz.func143, Tryz.ntmps143
  go_wp2_with fail
  refine HK.out.mono ?_
  rintro e w1 ⟨rfl, rfl⟩
  go_wp2_with fail
  refine HS.out.mono ?_
  rintro e w2 ⟨v2, rfl, hR2, hb2⟩
  obtain ⟨A2, c2, rfl, hc2, hC2⟩ := Kd.R_reads hR2
  have hB2 : Below w.heap.size w w2 := HX.out.2.2.2.trans (hb2.mono (by simp))
  have hlen : (l.map (·.1)).length = l.length := List.length_map _
  have hge := hB2.size
  have HY := Lib.hid (And.intro hC2 hB2)
  clear hR2 hC2 hb2 hB2 HS HK
  rw [hlen] at HY hc2 ⊢
  have hmx : l.length ≤ 1000000 := HX.out.2.1
  go_wp2
  go_loopw [2, 4, 9] (fun so _ i wr => ∃ (k : Nat) (A' : Option Addr) (c' : Nat), so = .slice A' k c' ∧ i = .int .i64 k ∧ k ≤ l.length ∧ RowKit.Hid (Kd.R k61 61 wr w2.heap.size (fun _ => True) (.slice A' k c') ((l.take k).map ofA) ∧ Below w2.heap.size w2 wr)) (fun _ _ i _ => l.length - (intOf i).toNat)
  case atStart => exact ⟨0, none, 0, rfl, rfl, Nat.zero_le _, Lib.hid ⟨Kd.R_nil _ _ _ _ _, Below.refl _ _⟩⟩
  case round =>
    obtain ⟨k, A', c', rfl, rfl, hk, HR⟩ := hrel
    have hbw : Below w.heap.size w wr := HY.out.2.trans (HR.out.2.mono hge)
    by_cases hlt : k < l.length
    · obtain ⟨ad, hA, d0⟩ := C_atS (Kd.C_below HY.out.1 HR.out.2) k (by rw [hlen]; exact hlt)
      subst hA
      rw [List.getElem_map] at d0
      have hx := (getL_some HX.out.1.1 (k := l[k].1) (v := l[k].2)).2 (List.getElem_mem hlt)
      have hsz := maxLen_ge (HX.out.2.2.1 l[k] (List.getElem_mem hlt))
      have hlk := (HX.out.1.below hbw).look1 Tryz.underlying103 (zeroNum _) hsz
      rw [hx] at hlk
      simp only [Option.map_some, Option.getD_some] at hlk
      have hst : (l.take (k + 1)).map ofA = (l.take k).map ofA ++ [ofA l[k]] := by rw [List.take_succ_eq_append_getElem hlt, List.map_append]; rfl
      generalize l[k] = x at *
      obtain ⟨x0, x1⟩ := x
      simp only at d0 hlk hsz hst
      have HN := Lib.hid (And.intro hst hbw)
      clear hst hx hsz hbw
      go_wp2_with (first | ((with_reducible refine gate_builtin (b := .append) (xs := #[.tmp 13, .tmp 19]) rfl ?_); at_builtin; refine stop_append rfl ?_))
      refine Lib.hid ?_
      refine Kd.R_append k61 (w0 := w2) w2.heap.size rfl (.tmp 13) (.tmp 19) 39 61 (.agg #[.string ⟨#[]⟩, .int .u64 0]) 24 rfl Tryz.underlying39 info61 rfl (by decide) (by decide) (.slice A' k c') ((l.take k).map ofA) ⟨x0, x1⟩ [.string x0, .int .u64 x1] (fun _ => True) (fun _ => False) rfl rfl (k61_mkM _ _ _ _) (fun _ h => h.elim) (fun _ _ => trivial) HR.out.1 HR.out.2 HR.out.2.size (by rw [List.length_map, List.length_take]; omega) ?_
      intro v9 w9 hS9 hB9 hg9 hat9
      have hln : ((l.take k).map ofA ++ [(⟨x0, x1⟩ : S61)]).length = k + 1 := by simp; omega
      obtain ⟨A9, c9, e9⟩ := Kd.R_slice hS9
      rw [hln] at e9
      have HN9 := Lib.hid (And.intro hS9 hB9)
      rw [e9] at HN9
      rw [e9]
      clear hS9 hB9 hg9 hat9 e9 hlk d0
      go_wp2_with fail
      go_roundw
      case rel => exact ⟨k + 1, A9, c9, rfl, by go_num, by omega, Lib.hid ⟨by rw [HN.out.1]; exact HN9.out.1, HN9.out.2⟩⟩
      case measure => simp [intOf]; omega
    · obtain rfl : k = l.length := by omega
      have HZ := Lib.hid (And.intro (Kd.R_lower HR.out.1 hge) hbw)
      rw [List.take_length] at HZ
      clear hbw
      go_wp2
      go_ret
      exact ⟨_, rfl, RowPr.of_R HZ.out.1, HZ.out.2⟩
theorem blk_held {W V : World} {B : Nat} {t : TypeId} {cs : Array Value} (_h : Below B W (V.alloc (.cells cs t))) : Blk (V.alloc (.cells cs t)) V.heap.size t cs := Blk.new V t cs
theorem blk_heldD {W V : World} {B : Nat} {t : TypeId} {cs : Array Value} (_h : Below B W (V.alloc (.cells cs t)).drew) : Blk (V.alloc (.cells cs t)).drew V.heap.size t cs := (Blk.new V t cs).drew
theorem below_held {W V : World} {B : Nat} {o : Obj} (_h : Below B W (V.alloc o)) : Below V.heap.size V (V.alloc o) := (Below.refl _ _).alloc (Nat.le_refl _) _
theorem Boxed.below {w W W' : World} {g mb cb : Nat} {s : St} {o : S63} {y : Bool} {n : Int} {v : Value} (h : Boxed w W g mb cb s o y n v) (hb : Below W.heap.size W W') : Boxed w W' g mb cb s o y n v :=
  ⟨h.upd.then_below hb, h.run.below hb, h.op.below hb h.op.lt, h.ans.below hb h.ans.lt⟩
theorem C_blkG {W : World} {b : Nat} (x : S71) (h : Blk W b 71 #[.string x.f0, .string x.f1]) : Kd.C k71 W (some ⟨b, 0, none⟩) [x].length [x] := by
  refine ⟨rfl, by simp, fun _ => ⟨_, rfl, fun j p hj => ?_⟩⟩
  rcases j with _ | j
  · obtain rfl : x = p := by simpa using hj
    refine ⟨[.string x.f0, .string x.f1], rfl, k71_mk W x, fun i u hu => ?_⟩
    rcases i with _ | i
    · simp only [List.getElem?_cons_zero, Option.some.injEq] at hu
      subst hu
      rw [show (⟨b, 0, none⟩ : Addr).add (0 * k71.sz + 0) = ⟨b, 0, none⟩ by rw [Nat.zero_mul, Nat.add_zero, add_plain]]
      exact h.cell 0
    · rcases i with _ | i
      · simp only [List.getElem?_cons_succ, List.getElem?_cons_zero, Option.some.injEq] at hu
        subst hu
        rw [show (⟨b, 0, none⟩ : Addr).add (0 * k71.sz + (0 + 1)) = ⟨b, 1, none⟩ by rw [Nat.zero_mul, Nat.zero_add, Nat.zero_add, add_plain]]
        exact h.cell 1
      · simp at hu
  · simp at hj
theorem txpick1 (A : Option Addr) (c : Nat) (data : List S61) (b : Nat) (x : S71) (w : World) (hr : Kd.C k61 w A data.length data) (hl : Blk w b 71 #[.string x.f0, .string x.f1]) (hb : data.length * 24 ≤ 140737488355328) :
    Calls Tryz.prog 34 #[.slice A data.length c, .slice (some ⟨b, 0, none⟩) 1 1] w fun e w' => ∃ v, e = .returned v ∧ RowPr w' w.heap.size v (pickT [x] data) ∧ Below w.heap.size w w' :=
  txpick_any A c data (some ⟨b, 0, none⟩) 1 [x] w hr (C_blkG x hl) hb
set_option maxHeartbeats 2000000 in
set_option maxRecDepth 100000 in
theorem rnscan_any {w : World} {g mb cb : Nat} {s : St} (h : RunIs w g mb cb s) (hs : s.d.length ≤ 1000000) (hz : keySizes s.d) (o : S63) : Calls Tryz.prog 110 #[ptrR g, opV o] w (StepOut w g mb cb ⟨true, 0, pickT [⟨o.f1, o.f2⟩] (s.d.map ofA)⟩ s) := by
  have hX := boxed h o
  obtain ⟨W, hW⟩ : ∃ W, ((w.alloc (.cells #[.int .i64 o.f0, .string o.f1, .string o.f2, .int .u64 o.f3] 63)).alloc (.cells #[.bool false, .int .u64 0, .slice none 0 0] 65)) = W := ⟨_, rfl⟩
  rw [hW] at hX
  have hlt := hX.lt h
  have hg : W.cell? ⟨g, 0, none⟩ = some (.map (some mb)) := hX.run.blk.cell 0
  have hk1 : W.cell? ⟨w.heap.size, 1, none⟩ = some (.string o.f1) := hX.op.cell 1
  have hk2 : W.cell? ⟨w.heap.size, 2, none⟩ = some (.string o.f2) := hX.op.cell 2
  have hso := fun (V : World) (hV : Below W.heap.size W V) => sorted_any (hX.run.d.below hV) hs hz
  have hdd : (s.d.map ofA).length * 24 ≤ 140737488355328 := by rw [List.length_map]; omega
  generalize s.d.map ofA = dd at *
  have HX := Lib.hid (And.intro hX (And.intro hlt (And.intro hso hdd))); clear h hX hlt hs hz hso hdd
  go_enter Tryz.func110, Tryz.ntmps110
  go_upto_region 1 with fail
  clear hW
  refine wp_region_last1_held (S := (fun V => Below W.heap.size W V ∧ V.cell? ⟨g, 0, none⟩ = some (.map (some mb)) ∧ V.cell? ⟨w.heap.size, 1, none⟩ = some (.string o.f1) ∧ V.cell? ⟨w.heap.size, 2, none⟩ = some (.string o.f2))) (l := [_, _, _, _, _, _, _, _, _, _, _, _, _]) (o := _) (by kernel_rfl) (by kernel_rfl) ?_
  simp only [List.size_toArray, List.length_cons, List.length_nil, Nat.zero_add, Nat.reduceAdd]
  have hHeld : ((fun V => Below W.heap.size W V ∧ V.cell? ⟨g, 0, none⟩ = some (.map (some mb)) ∧ V.cell? ⟨w.heap.size, 1, none⟩ = some (.string o.f1) ∧ V.cell? ⟨w.heap.size, 2, none⟩ = some (.string o.f2))) W.drew := ⟨below_drew (Below.refl _ _), hg, hk1, hk2⟩
  refine wpAnyH_take (i := 0) (v := ?_) rfl (by kernel_rfl) (by kernel_rfl) (by kernel_rfl) (fun _ _ _ h => h) (Or.inl ⟨by rfl, ?_⟩) (by assumption) ?_
  rotate_left
  · (intro w hSw; (try dsimp only at hSw); go_split_ands; go_simp; try with_reducible rfl)
  try simp only [List.getElem_toArray, List.getElem_cons_succ, List.getElem_cons_zero, Act.put, List.setIfInBounds_toArray, List.set_cons_zero, List.set_cons_succ]
  refine wpAnyH_take (i := 1) (v := ?_) rfl (by kernel_rfl) (by kernel_rfl) (by kernel_rfl) (fun _ _ _ h => h) (Or.inl ⟨by rfl, ?_⟩) (by assumption) ?_
  rotate_left
  · (intro w hSw; (try dsimp only at hSw); go_split_ands; go_simp; try with_reducible rfl)
  try simp only [List.getElem_toArray, List.getElem_cons_succ, List.getElem_cons_zero, Act.put, List.setIfInBounds_toArray, List.set_cons_zero, List.set_cons_succ]
  refine wpAnyH_take (i := 2) (v := ?_) rfl (by kernel_rfl) (by kernel_rfl) (by kernel_rfl) (fun _ _ _ h => h) (Or.inl ⟨by rfl, ?_⟩) (by assumption) ?_
  rotate_left
  · (intro w hSw; (try dsimp only at hSw); go_split_ands; go_simp; try with_reducible rfl)
  try simp only [List.getElem_toArray, List.getElem_cons_succ, List.getElem_cons_zero, Act.put, List.setIfInBounds_toArray, List.set_cons_zero, List.set_cons_succ]
  refine wpAnyH_take (i := 3) (v := ?_) rfl (by kernel_rfl) (by kernel_rfl) (by kernel_rfl) (fun _ _ _ h => h) (Or.inl ⟨by rfl, ?_⟩) (by assumption) ?_
  rotate_left
  · (intro w hSw; (try dsimp only at hSw); go_split_ands; go_simp; try with_reducible rfl)
  try simp only [List.getElem_toArray, List.getElem_cons_succ, List.getElem_cons_zero, Act.put, List.setIfInBounds_toArray, List.set_cons_zero, List.set_cons_succ]
  refine wpAnyH_take (i := 5) (v := ?_) rfl (by kernel_rfl) (by kernel_rfl) (by kernel_rfl) (fun _ _ _ h => h) (Or.inl ⟨by rfl, ?_⟩) (by assumption) ?_
  rotate_left
  · (intro w hSw; (try dsimp only at hSw); go_split_ands; go_simp; try with_reducible rfl)
  try simp only [List.getElem_toArray, List.getElem_cons_succ, List.getElem_cons_zero, Act.put, List.setIfInBounds_toArray, List.set_cons_zero, List.set_cons_succ]
  refine wpAnyH_take (i := 6) (v := ?_) rfl (by kernel_rfl) (by kernel_rfl) (by kernel_rfl) (fun _ _ _ h => h) (Or.inl ⟨by rfl, ?_⟩) (by assumption) ?_
  rotate_left
  · (intro w hSw; (try dsimp only at hSw); go_split_ands; go_simp; try with_reducible rfl)
  try simp only [List.getElem_toArray, List.getElem_cons_succ, List.getElem_cons_zero, Act.put, List.setIfInBounds_toArray, List.set_cons_zero, List.set_cons_succ]
  refine wpAnyH_take (i := 7) (v := ?_) rfl (by kernel_rfl) (by kernel_rfl) (by kernel_rfl) (fun _ _ _ h => h) (Or.inl ⟨by rfl, ?_⟩) (by assumption) ?_
  rotate_left
  · (intro w hSw; (try dsimp only at hSw); go_split_ands; go_simp; try with_reducible rfl)
  try simp only [List.getElem_toArray, List.getElem_cons_succ, List.getElem_cons_zero, Act.put, List.setIfInBounds_toArray, List.set_cons_zero, List.set_cons_succ]
  refine wpAnyH_take (i := 8) (v := ?_) rfl (by kernel_rfl) (by kernel_rfl) (by kernel_rfl) (fun _ _ _ h => h) (Or.inl ⟨by rfl, ?_⟩) (by assumption) ?_
  rotate_left
  · (intro w hSw; (try dsimp only at hSw); go_split_ands; go_simp; try with_reducible rfl)
  try simp only [List.getElem_toArray, List.getElem_cons_succ, List.getElem_cons_zero, Act.put, List.setIfInBounds_toArray, List.set_cons_zero, List.set_cons_succ]
  refine wpAnyH_take (i := 9) (v := ?_) rfl (by kernel_rfl) (by kernel_rfl) (by kernel_rfl) (fun _ _ _ h => h) (Or.inl ⟨by rfl, ?_⟩) (by assumption) ?_
  rotate_left
  · (intro w hSw; (try dsimp only at hSw); go_split_ands; go_simp; try with_reducible rfl)
  try simp only [List.getElem_toArray, List.getElem_cons_succ, List.getElem_cons_zero, Act.put, List.setIfInBounds_toArray, List.set_cons_zero, List.set_cons_succ]
  refine wpAnyH_ready (rs := [4, 10]) (by kernel_rfl) (by simp) ?_
  refine (AllReadyH.cons rfl (fun K hK => ?_) (AllReadyH.cons rfl (fun K hK => ?_) AllReadyH.nil))
  · go_simp
    refine (HX.out.2.2.1 _ hHeld.1).mono ?_
    rintro e w1 ⟨v1, rfl, ho1, hb1⟩
    obtain ⟨A1, c1, e1, hc1, hC1⟩ := Kd.R_reads ho1.R
    subst e1
    refine hK.out _ _ ?_ (fun hHeld => ?_)
    · exact ⟨hHeld.1.trans (hb1.mono hHeld.1.size), pw_cell_below hb1 hHeld.2.1, pw_cell_below hb1 hHeld.2.2.1, pw_cell_below hb1 hHeld.2.2.2⟩
    clear hK K
    have HP := Lib.hid hC1
    try (have hz := HL.out.below hb1 HL.out.lt; clear HL; have HL := Lib.hid hz; clear hz)
    clear hb1 ho1 hC1 hc1
    try simp only [List.getElem_toArray, List.getElem_cons_succ, List.getElem_cons_zero, Act.put, List.setIfInBounds_toArray, List.set_cons_zero, List.set_cons_succ]
    refine wpAnyH_ready (rs := [10]) (by kernel_rfl) (by simp) ?_
    refine (AllReadyH.cons rfl (fun K hK => ?_) AllReadyH.nil)
    go_simp
    refine hK.out _ _ ?_ (fun hHeld => ?_)
    · exact ⟨below_alloc hHeld.1 _, pw_cell_below (below_alloc (Below.refl _ _) _) hHeld.2.1, pw_cell_below (below_alloc (Below.refl _ _) _) hHeld.2.2.1, pw_cell_below (below_alloc (Below.refl _ _) _) hHeld.2.2.2⟩
    clear hK K
    first
      | have HL := Lib.hid (blk_held hHeld.1)
      | have HL := Lib.hid (blk_heldD hHeld.1)
    try (have hz := Kd.C_below HP.out (below_held hHeld.1); clear HP; have HP := Lib.hid hz; clear hz)
    try simp only [List.getElem_toArray, List.getElem_cons_succ, List.getElem_cons_zero, Act.put, List.setIfInBounds_toArray, List.set_cons_zero, List.set_cons_succ]
    refine wpAnyH_ready (rs := [11]) (by kernel_rfl) (by simp) ?_
    refine (AllReadyH.cons rfl (fun K hK => ?_) AllReadyH.nil)
    have hle := hHeld.1.size
    go_simp
    refine (txpick1 _ _ dd _ ⟨o.f1, o.f2⟩ _ HP.out HL.out HX.out.2.2.2).mono ?_
    rintro e w3 ⟨v3, rfl, ho3, hb3⟩
    obtain ⟨A3, c3, rfl⟩ := own_slice ho3
    refine hK.out _ _ ?_ (fun hHeld => ?_)
    · exact ⟨hHeld.1.trans (hb3.mono hHeld.1.size), pw_cell_below hb3 hHeld.2.1, pw_cell_below hb3 hHeld.2.2.1, pw_cell_below hb3 hHeld.2.2.2⟩
    clear hK K
    have HQ := Lib.hid (RowPr.lower ho3 hle)
    clear ho3 hb3 hle
    try simp only [List.getElem_toArray, List.getElem_cons_succ, List.getElem_cons_zero, Act.put, List.setIfInBounds_toArray, List.set_cons_zero, List.set_cons_succ]
    refine wpAnyH_take (i := 12) (v := ?_) rfl (by kernel_rfl) (by kernel_rfl) (by kernel_rfl) (fun _ _ _ h => h) (Or.inl ⟨by rfl, ?_⟩) (by assumption) ?_
    rotate_left
    · (intro w hSw; (try dsimp only at hSw); go_split_ands; go_simp; try with_reducible rfl)
    try simp only [List.getElem_toArray, List.getElem_cons_succ, List.getElem_cons_zero, Act.put, List.setIfInBounds_toArray, List.set_cons_zero, List.set_cons_succ]
    refine wpAnyH_done (by kernel_rfl) ?_ _
    refine lastPost_wp ?_
    have HX3 := Lib.hid (And.intro (HX.out.1.below hHeld.1) HX.out.2.1)
    clear hHeld
    have a0 : w3.cell? ⟨w.heap.size + 1, 0, none⟩ = some (.bool false) := HX3.out.1.ans.cell 0
    have a1 : w3.cell? ⟨w.heap.size + 1, 1, none⟩ = some (.int .u64 0) := HX3.out.1.ans.cell 1
    have a2 : w3.cell? ⟨w.heap.size + 1, 2, none⟩ = some (.slice none 0 0) := HX3.out.1.ans.cell 2
    have z0 := HX3.out.1.ans.frozen 0
    have z1 := HX3.out.1.ans.frozen 1
    have z2 := HX3.out.1.ans.frozen 2
    have hsz := HX.out.1.ans.lt
    have HR := Lib.hid (Kd.R_mono (Kd.R_bound (Kd.R_lower HQ.out.R (Nat.le_refl _))) (fun q hq => show q ≠ w.heap.size + 1 by have := hq.2.1; omega))
    clear hsz HQ
    go_wp2
    refine bodyPost_ret (results_cell_row (by rfl) _ _ (w.heap.size + 1) 65 #[.bool true, .int .u64 0, .slice A3 (pickT [⟨o.f1, o.f2⟩] dd).length c3] (0, 0) _ (by rfl) HX3.out.1.fin Tryz.underlying65 (by rfl) (by kernel_rfl)) rfl ?_
    exact HX3.out.1.out HX3.out.2 (Kd.R_lower HR.out (by have := HX.out.1.upd.size; omega))
  · go_simp
    refine hK.out _ _ ?_ (fun hHeld => ?_)
    · exact ⟨below_alloc hHeld.1 _, pw_cell_below (below_alloc (Below.refl _ _) _) hHeld.2.1, pw_cell_below (below_alloc (Below.refl _ _) _) hHeld.2.2.1, pw_cell_below (below_alloc (Below.refl _ _) _) hHeld.2.2.2⟩
    clear hK K
    first
      | have HL := Lib.hid (blk_held hHeld.1)
      | have HL := Lib.hid (blk_heldD hHeld.1)
    try (have hz := Kd.C_below HP.out (below_held hHeld.1); clear HP; have HP := Lib.hid hz; clear hz)
    try simp only [List.getElem_toArray, List.getElem_cons_succ, List.getElem_cons_zero, Act.put, List.setIfInBounds_toArray, List.set_cons_zero, List.set_cons_succ]
    refine wpAnyH_ready (rs := [4]) (by kernel_rfl) (by simp) ?_
    refine (AllReadyH.cons rfl (fun K hK => ?_) AllReadyH.nil)
    go_simp
    refine (HX.out.2.2.1 _ hHeld.1).mono ?_
    rintro e w1 ⟨v1, rfl, ho1, hb1⟩
    obtain ⟨A1, c1, e1, hc1, hC1⟩ := Kd.R_reads ho1.R
    subst e1
    refine hK.out _ _ ?_ (fun hHeld => ?_)
    · exact ⟨hHeld.1.trans (hb1.mono hHeld.1.size), pw_cell_below hb1 hHeld.2.1, pw_cell_below hb1 hHeld.2.2.1, pw_cell_below hb1 hHeld.2.2.2⟩
    clear hK K
    have HP := Lib.hid hC1
    try (have hz := HL.out.below hb1 HL.out.lt; clear HL; have HL := Lib.hid hz; clear hz)
    clear hb1 ho1 hC1 hc1
    try simp only [List.getElem_toArray, List.getElem_cons_succ, List.getElem_cons_zero, Act.put, List.setIfInBounds_toArray, List.set_cons_zero, List.set_cons_succ]
    refine wpAnyH_ready (rs := [11]) (by kernel_rfl) (by simp) ?_
    refine (AllReadyH.cons rfl (fun K hK => ?_) AllReadyH.nil)
    have hle := hHeld.1.size
    go_simp
    refine (txpick1 _ _ dd _ ⟨o.f1, o.f2⟩ _ HP.out HL.out HX.out.2.2.2).mono ?_
    rintro e w3 ⟨v3, rfl, ho3, hb3⟩
    obtain ⟨A3, c3, rfl⟩ := own_slice ho3
    refine hK.out _ _ ?_ (fun hHeld => ?_)
    · exact ⟨hHeld.1.trans (hb3.mono hHeld.1.size), pw_cell_below hb3 hHeld.2.1, pw_cell_below hb3 hHeld.2.2.1, pw_cell_below hb3 hHeld.2.2.2⟩
    clear hK K
    have HQ := Lib.hid (RowPr.lower ho3 hle)
    clear ho3 hb3 hle
    try simp only [List.getElem_toArray, List.getElem_cons_succ, List.getElem_cons_zero, Act.put, List.setIfInBounds_toArray, List.set_cons_zero, List.set_cons_succ]
    refine wpAnyH_take (i := 12) (v := ?_) rfl (by kernel_rfl) (by kernel_rfl) (by kernel_rfl) (fun _ _ _ h => h) (Or.inl ⟨by rfl, ?_⟩) (by assumption) ?_
    rotate_left
    · (intro w hSw; (try dsimp only at hSw); go_split_ands; go_simp; try with_reducible rfl)
    try simp only [List.getElem_toArray, List.getElem_cons_succ, List.getElem_cons_zero, Act.put, List.setIfInBounds_toArray, List.set_cons_zero, List.set_cons_succ]
    refine wpAnyH_done (by kernel_rfl) ?_ _
    refine lastPost_wp ?_
    have HX3 := Lib.hid (And.intro (HX.out.1.below hHeld.1) HX.out.2.1)
    clear hHeld
    have a0 : w3.cell? ⟨w.heap.size + 1, 0, none⟩ = some (.bool false) := HX3.out.1.ans.cell 0
    have a1 : w3.cell? ⟨w.heap.size + 1, 1, none⟩ = some (.int .u64 0) := HX3.out.1.ans.cell 1
    have a2 : w3.cell? ⟨w.heap.size + 1, 2, none⟩ = some (.slice none 0 0) := HX3.out.1.ans.cell 2
    have z0 := HX3.out.1.ans.frozen 0
    have z1 := HX3.out.1.ans.frozen 1
    have z2 := HX3.out.1.ans.frozen 2
    have hsz := HX.out.1.ans.lt
    have HR := Lib.hid (Kd.R_mono (Kd.R_bound (Kd.R_lower HQ.out.R (Nat.le_refl _))) (fun q hq => show q ≠ w.heap.size + 1 by have := hq.2.1; omega))
    clear hsz HQ
    go_wp2
    refine bodyPost_ret (results_cell_row (by rfl) _ _ (w.heap.size + 1) 65 #[.bool true, .int .u64 0, .slice A3 (pickT [⟨o.f1, o.f2⟩] dd).length c3] (0, 0) _ (by rfl) HX3.out.1.fin Tryz.underlying65 (by rfl) (by kernel_rfl)) rfl ?_
    exact HX3.out.1.out HX3.out.2 (Kd.R_lower HR.out (by have := HX.out.1.upd.size; omega))
end Go.Proofs.YtgmlenpcchhmbaaGreat.P
end
