/- what the claim's row stands on, part 7. -/
import Derived.Test.YtgmlenpcchhmbaaGreatZe6
import Derived.Test.YtgmlenpcchhmbaaGreatZe3
import Derived.Test.YtgmlenpcchhmbaaGreatZe4
import Derived.Test.YtgmlenpcchhmbaaGreatZe5
section
set_option linter.unusedVariables false
set_option linter.unusedSimpArgs false
namespace Go.Proofs.YtgmlenpcchhmbaaGreat.P
open Go.RowKit Go.Proofs.YtgmlenpcchhmbaaGreatW.PrintWords Go.Proofs.YtgmlenpcchhmbaaGreatW.PrintLast Go.Proofs.YtgmlenpcchhmbaaGreatW.PrintMore
def StepOut (w : World) (g mb cb : Nat) (a : S65) (s' : St) (e : Ending) (w' : World) : Prop :=
  ∃ vs, e = .returned (.agg #[.bool a.f0, .int .u64 a.f1, vs]) ∧ Kd.R k61 61 w' w.heap.size (fun _ => True) vs a.f2 ∧ RunIs w' g mb cb s' ∧ Upd w w' (fun b => b = mb ∨ b = cb)
abbrev opV (o : S63) : Value := .agg #[.int .i64 o.f0, .string o.f1, .string o.f2, .int .u64 o.f3]
theorem StepOut.drew {w : World} {g mb cb : Nat} {a : S65} {s' : St} {e : Ending} {w' : World} (h : StepOut w g mb cb a s' e w') : StepOut w g mb cb a s' e w'.drew := by
  obtain ⟨vs, he, hv, hr, hu⟩ := h
  exact ⟨vs, he, Kd.R_drew hv, hr.below (below_drew (Below.refl _ _)), hu.drew⟩
structure Boxed (w W : World) (g mb cb : Nat) (s : St) (o : S63) (y : Bool) (n : Int) (v : Value) : Prop where
  upd : Upd w W (fun b => b = mb ∨ b = cb)
  run : RunIs W g mb cb s
  op : Blk W w.heap.size 63 #[.int .i64 o.f0, .string o.f1, .string o.f2, .int .u64 o.f3]
  ans : Blk W (w.heap.size + 1) 65 #[.bool y, .int .u64 n, v]
theorem boxed {w : World} {g mb cb : Nat} {s : St} (h : RunIs w g mb cb s) (o : S63) : Boxed w ((w.alloc (.cells #[.int .i64 o.f0, .string o.f1, .string o.f2, .int .u64 o.f3] 63)).alloc (.cells #[.bool false, .int .u64 0, .slice none 0 0] 65)) g mb cb s o false 0 (.slice none 0 0) := by
  have hb : Below w.heap.size w ((w.alloc (.cells #[.int .i64 o.f0, .string o.f1, .string o.f2, .int .u64 o.f3] 63)).alloc (.cells #[.bool false, .int .u64 0, .slice none 0 0] 65)) := ((Below.refl _ _).alloc (Nat.le_refl _) _).alloc (by simp) _
  refine ⟨Upd.of_below hb _, h.below hb, (Blk.new w 63 _).alloc _, ?_⟩
  have := Blk.new (w.alloc (.cells #[.int .i64 o.f0, .string o.f1, .string o.f2, .int .u64 o.f3] 63)) 65 #[.bool false, .int .u64 0, .slice none 0 0]
  simpa using this
theorem Boxed.lt {w W : World} {g mb cb : Nat} {s : St} {o : S63} {y : Bool} {n : Int} {v : Value} (h : Boxed w W g mb cb s o y n v) (hr : RunIs w g mb cb s) : g < w.heap.size ∧ mb < w.heap.size ∧ cb < w.heap.size := ⟨hr.blk.lt, hr.d.lt, hr.c.lt⟩
theorem Boxed.drew {w W : World} {g mb cb : Nat} {s : St} {o : S63} {y : Bool} {n : Int} {v : Value} (h : Boxed w W g mb cb s o y n v) : Boxed w W.drew g mb cb s o y n v := ⟨h.upd.drew, h.run.below (below_drew (Below.refl _ _)), h.op.drew, h.ans.drew⟩
theorem Boxed.out {w W : World} {g mb cb : Nat} {s : St} {o : S63} {y y' : Bool} {n n' : Int} {v vs : Value} {ps : List S61} (h : Boxed w W g mb cb s o y n v) (hl : g < w.heap.size ∧ mb < w.heap.size ∧ cb < w.heap.size) (hv : Kd.R k61 61 W w.heap.size (fun q => q ≠ w.heap.size + 1) vs ps) :
    StepOut w g mb cb ⟨y', n', ps⟩ s (.returned (.agg #[.bool y', .int .u64 n', vs])) (((W.setCell ⟨w.heap.size + 1, 0, none⟩ (.bool y')).setCell ⟨w.heap.size + 1, 1, none⟩ (.int .u64 n')).setCell ⟨w.heap.size + 1, 2, none⟩ vs) := by
  have hu : Upd W (((W.setCell ⟨w.heap.size + 1, 0, none⟩ (.bool y')).setCell ⟨w.heap.size + 1, 1, none⟩ (.int .u64 n')).setCell ⟨w.heap.size + 1, 2, none⟩ vs) (· = w.heap.size + 1) :=
    (((Upd.refl W (· = w.heap.size + 1)).setCell (p := ⟨w.heap.size + 1, 0, none⟩) (.inl rfl) _).setCell (p := ⟨w.heap.size + 1, 1, none⟩) (.inl rfl) _).setCell (p := ⟨w.heap.size + 1, 2, none⟩) (.inl rfl) _
  refine ⟨vs, rfl, Kd.R_mono (Kd.R_step hv (fun k hk hlt => hu.block k hlt hk)) (fun _ _ => trivial), h.run.upd hu (by omega) (by omega) (by omega), ?_⟩
  exact ((h.upd.setCell (p := ⟨w.heap.size + 1, 0, none⟩) (.inr (Nat.le_succ _)) _).setCell (p := ⟨w.heap.size + 1, 1, none⟩) (.inr (Nat.le_succ _)) _).setCell (p := ⟨w.heap.size + 1, 2, none⟩) (.inr (Nat.le_succ _)) _
theorem Boxed.fin {w W : World} {g mb cb : Nat} {s : St} {o : S63} {y y' : Bool} {n n' : Int} {v vs : Value} (h : Boxed w W g mb cb s o y n v) : Blk (((W.setCell ⟨w.heap.size + 1, 0, none⟩ (.bool y')).setCell ⟨w.heap.size + 1, 1, none⟩ (.int .u64 n')).setCell ⟨w.heap.size + 1, 2, none⟩ vs) (w.heap.size + 1) 65 #[.bool y', .int .u64 n', vs] :=
  ((h.ans.set_ 0 _).set_ 1 _).set_ 2 _
theorem Boxed.put {w W W' : World} {g mb cb : Nat} {s s' : St} {o : S63} {y : Bool} {n : Int} {v : Value} (h : Boxed w W g mb cb s o y n v) (hl : g < w.heap.size ∧ mb < w.heap.size ∧ cb < w.heap.size) (hr : RunIs W' g mb cb s') (hu : Upd W W' (fun b => b = mb ∨ b = cb)) : Boxed w W' g mb cb s' o y n v :=
  ⟨h.upd.trans hu, hr, h.op.upd hu (by omega), h.ans.upd hu (by omega)⟩
theorem Boxed.drewN {w W : World} {g mb cb : Nat} {s : St} {o : S63} {y : Bool} {n : Int} {v : Value} (h : Boxed w W g mb cb s o y n v) (m : Nat) : Boxed w (W.drewN m) g mb cb s o y n v := ⟨h.upd.drewN m, h.run.below (pw_below_drewN (Below.refl _ _) m), h.op.drewN m, h.ans.drewN m⟩
section
variable {w : World} {g mb cb : Nat} {s : St}
set_option maxHeartbeats 1000000 in
set_option maxRecDepth 100000 in
theorem rnget_any (h : RunIs w g mb cb s) (o : S63) (hk : o.f1.size ≤ maxLen) : Calls Tryz.prog 109 #[ptrR g, opV o] w (StepOut w g mb cb ⟨s.has o.f1, s.at o.f1, []⟩ s) := by
  have hX := boxed h o
  obtain ⟨W, hW⟩ : ∃ W, ((w.alloc (.cells #[.int .i64 o.f0, .string o.f1, .string o.f2, .int .u64 o.f3] 63)).alloc (.cells #[.bool false, .int .u64 0, .slice none 0 0] 65)) = W := ⟨_, rfl⟩
  rw [hW] at hX
  have hlt := hX.lt h
  have hg : W.cell? ⟨g, 0, none⟩ = some (.map (some mb)) := hX.run.blk.cell 0
  have hk1 : W.cell? ⟨w.heap.size, 1, none⟩ = some (.string o.f1) := hX.op.cell 1
  have hl := (hX.drew.run.d).look Tryz.underlying103 (zeroNum _) hk
  have hy : (getL s.d o.f1).isSome = s.has o.f1 := rfl
  have hn : ((getL s.d o.f1).map encN).getD (.int .u64 0) = .int .u64 (s.at o.f1) := by unfold St.at; cases getL s.d o.f1 <;> rfl
  rw [hy, hn] at hl
  clear hy hn
  generalize s.has o.f1 = y at *
  generalize s.at o.f1 = n at *
  have HX := Lib.hid (And.intro hX hlt); clear h hX hlt
  go_enter Tryz.func109, Tryz.ntmps109
  go_upto_region 1 with fail
  clear hW
  refine wp_region_held (S := (fun W => W.cell? ⟨g, 0, none⟩ = some (.map (some mb)) ∧ W.cell? ⟨w.heap.size, 1, none⟩ = some (.string o.f1) ∧ (Instr.lookup 103 (.map (some mb)) (.string o.f1) true).run Tryz.prog W = .ok (.tuple #[.int .u64 n, .bool y]) W)) (by kernel_rfl) ?_
  simp only [List.size_toArray, List.length_cons, List.length_nil, Nat.zero_add, Nat.reduceAdd]
  have hHeld : ((fun W => W.cell? ⟨g, 0, none⟩ = some (.map (some mb)) ∧ W.cell? ⟨w.heap.size, 1, none⟩ = some (.string o.f1) ∧ (Instr.lookup 103 (.map (some mb)) (.string o.f1) true).run Tryz.prog W = .ok (.tuple #[.int .u64 n, .bool y]) W)) W.drew := ⟨hg, hk1, hl⟩
  refine tk_ 0 hHeld ?_
  refine tk_ 1 hHeld ?_
  refine tk_ 2 hHeld ?_
  refine tk_ 3 hHeld ?_
  refine tk_ 4 hHeld ?_
  refine tk_ 5 hHeld ?_
  refine tk_ 6 hHeld ?_
  refine tk_ 7 hHeld ?_
  refine tk_ 8 hHeld ?_
  refine tk_ 9 hHeld ?_
  refine tk_ 10 hHeld ?_
  refine tk_ 11 hHeld ?_
  refine wpAnyH_done (by kernel_rfl) ?_ _
  clear hHeld hl hg hk1
  have a0 : W.cell? ⟨w.heap.size + 1, 0, none⟩ = some (.bool false) := HX.out.1.ans.cell 0
  have a1 : W.cell? ⟨w.heap.size + 1, 1, none⟩ = some (.int .u64 0) := HX.out.1.ans.cell 1
  have a2 : W.cell? ⟨w.heap.size + 1, 2, none⟩ = some (.slice none 0 0) := HX.out.1.ans.cell 2
  have z0 := HX.out.1.ans.frozen 0
  have z1 := HX.out.1.ans.frozen 1
  have z2 := HX.out.1.ans.frozen 2
  go_wp2
  refine bodyPost_ret (results_cell_row (by rfl) _ _ (w.heap.size + 1) 65 #[.bool y, .int .u64 n, .slice none 0 0] (0, 0) _ (by rfl) HX.out.1.fin.drew Tryz.underlying65 (by rfl) (by kernel_rfl)) rfl ?_
  exact (HX.out.1.out HX.out.2 (Kd.R_nil _ _ _ _ _)).drew
set_option maxHeartbeats 1000000 in
set_option maxRecDepth 100000 in
theorem rnset_any (h : RunIs w g mb cb s) (hs : s.small) (o : S63) (hk : o.f1.size ≤ maxLen) : Calls Tryz.prog 111 #[ptrR g, opV o] w (StepOut w g mb cb ⟨true, 0, []⟩ (s.put o.f1 o.f3)) := by
  have hX := boxed h o
  obtain ⟨W, hW⟩ : ∃ W, ((w.alloc (.cells #[.int .i64 o.f0, .string o.f1, .string o.f2, .int .u64 o.f3] 63)).alloc (.cells #[.bool false, .int .u64 0, .slice none 0 0] 65)) = W := ⟨_, rfl⟩
  rw [hW] at hX
  have hlt := hX.lt h
  have hk1 : W.cell? ⟨w.heap.size, 1, none⟩ = some (.string o.f1) := hX.op.cell 1
  have hk3 : W.cell? ⟨w.heap.size, 3, none⟩ = some (.int .u64 o.f3) := hX.op.cell 3
  have HP := Lib.hid (rnput_any hX.run hs o.f1 hk o.f3)
  have HX := Lib.hid (And.intro hX hlt); clear h hX hlt
  go_enter Tryz.func111, Tryz.ntmps111
  go_wp2_with fail
  refine HP.out.mono ?_
  rintro e w1 ⟨rfl, hr1, hu1⟩
  have HX1 := Lib.hid (And.intro (HX.out.1.put HX.out.2 hr1 hu1) HX.out.2)
  clear hr1 hu1 hW hk1 hk3
  have a0 : w1.cell? ⟨w.heap.size + 1, 0, none⟩ = some (.bool false) := HX1.out.1.ans.cell 0
  have a1 : w1.cell? ⟨w.heap.size + 1, 1, none⟩ = some (.int .u64 0) := HX1.out.1.ans.cell 1
  have a2 : w1.cell? ⟨w.heap.size + 1, 2, none⟩ = some (.slice none 0 0) := HX1.out.1.ans.cell 2
  have z0 := HX1.out.1.ans.frozen 0
  have z1 := HX1.out.1.ans.frozen 1
  have z2 := HX1.out.1.ans.frozen 2
  go_wp2
  refine bodyPost_ret (results_cell_row (by rfl) _ _ (w.heap.size + 1) 65 #[.bool true, .int .u64 0, .slice none 0 0] (0, 0) _ (by rfl) HX1.out.1.fin Tryz.underlying65 (by rfl) (by kernel_rfl)) rfl ?_
  exact HX1.out.1.out HX1.out.2 (Kd.R_nil _ _ _ _ _)
set_option maxHeartbeats 1000000 in
set_option maxRecDepth 100000 in
theorem rnadd_any (h : RunIs w g mb cb s) (hs : s.small) (o : S63) (hk : o.f1.size ≤ maxLen) : Calls Tryz.prog 112 #[ptrR g, opV o] w (StepOut w g mb cb ⟨s.has o.f1, addN (s.at o.f1) o.f3, []⟩ (s.put o.f1 (addN (s.at o.f1) o.f3))) := by
  have hX := boxed h o
  obtain ⟨W, hW⟩ : ∃ W, ((w.alloc (.cells #[.int .i64 o.f0, .string o.f1, .string o.f2, .int .u64 o.f3] 63)).alloc (.cells #[.bool false, .int .u64 0, .slice none 0 0] 65)) = W := ⟨_, rfl⟩
  rw [hW] at hX
  have hlt := hX.lt h
  have hg : W.cell? ⟨g, 0, none⟩ = some (.map (some mb)) := hX.run.blk.cell 0
  have hk1 : W.cell? ⟨w.heap.size, 1, none⟩ = some (.string o.f1) := hX.op.cell 1
  have hl := (hX.drew.run.d).look Tryz.underlying103 (zeroNum _) hk
  have hy : (getL s.d o.f1).isSome = s.has o.f1 := rfl
  have hn : ((getL s.d o.f1).map encN).getD (.int .u64 0) = .int .u64 (s.at o.f1) := by unfold St.at; cases getL s.d o.f1 <;> rfl
  rw [hy, hn] at hl
  clear hy hn
  have hnew : ((getL (s.put o.f1 (addN (s.at o.f1) o.f3)).d o.f1).map encN).getD (.int .u64 0) = .int .u64 (addN (s.at o.f1) o.f3) := by
    show ((getL (putL s.d o.f1 (addN (s.at o.f1) o.f3)) o.f1).map encN).getD _ = _
    rw [getL_put, if_pos rfl]; rfl
  have HA := Lib.hid (nAdd_any (s.at o.f1) o.f3)
  generalize s.has o.f1 = y at *
  generalize s.at o.f1 = n at *
  generalize addN n o.f3 = m at *
  have HNEW := Lib.hid hnew; clear hnew
  have HX := Lib.hid (And.intro hX hlt); clear h hX hlt
  go_enter Tryz.func112, Tryz.ntmps112
  go_upto_region 1 with fail
  clear hW
  refine wp_region_held (S := (fun W => W.cell? ⟨g, 0, none⟩ = some (.map (some mb)) ∧ W.cell? ⟨w.heap.size, 1, none⟩ = some (.string o.f1) ∧ (Instr.lookup 103 (.map (some mb)) (.string o.f1) true).run Tryz.prog W = .ok (.tuple #[.int .u64 n, .bool y]) W)) (by kernel_rfl) ?_
  simp only [List.size_toArray, List.length_cons, List.length_nil, Nat.zero_add, Nat.reduceAdd]
  have hHeld : ((fun W => W.cell? ⟨g, 0, none⟩ = some (.map (some mb)) ∧ W.cell? ⟨w.heap.size, 1, none⟩ = some (.string o.f1) ∧ (Instr.lookup 103 (.map (some mb)) (.string o.f1) true).run Tryz.prog W = .ok (.tuple #[.int .u64 n, .bool y]) W)) W.drew := ⟨hg, hk1, hl⟩
  refine tk_ 0 hHeld ?_
  refine tk_ 1 hHeld ?_
  refine tk_ 2 hHeld ?_
  refine tk_ 3 hHeld ?_
  refine tk_ 4 hHeld ?_
  refine tk_ 5 hHeld ?_
  refine tk_ 6 hHeld ?_
  refine tk_ 7 hHeld ?_
  refine tk_ 8 hHeld ?_
  refine tk_ 9 hHeld ?_
  refine tk_ 10 hHeld ?_
  refine tk_ 11 hHeld ?_
  refine wpAnyH_done (by kernel_rfl) ?_ _
  clear hHeld hl hg
  have hk3 : W.cell? ⟨w.heap.size, 3, none⟩ = some (.int .u64 o.f3) := HX.out.1.op.cell 3
  go_upto_region 2 with fail
  refine wp_region_last1_held (S := (fun V => Drawn0 W V ∧ V.cell? ⟨w.heap.size, 1, none⟩ = some (.string o.f1) ∧ V.cell? ⟨w.heap.size, 3, none⟩ = some (.int .u64 o.f3))) (l := [_, _, _, _, _, _, _]) (o := _) (by kernel_rfl) (by kernel_rfl) ?_
  simp only [List.size_toArray, List.length_cons, List.length_nil, Nat.zero_add, Nat.reduceAdd]
  have hHeld : ((fun V => Drawn0 W V ∧ V.cell? ⟨w.heap.size, 1, none⟩ = some (.string o.f1) ∧ V.cell? ⟨w.heap.size, 3, none⟩ = some (.int .u64 o.f3))) W.drew.drew := ⟨⟨2, rfl⟩, hk1, hk3⟩
  refine tk_ 0 hHeld ?_
  refine tk_ 1 hHeld ?_
  refine tk_ 2 hHeld ?_
  refine tk_ 3 hHeld ?_
  refine tk_ 4 hHeld ?_
  refine tk_ 5 hHeld ?_
  refine wpAnyH_ready (rs := [6]) (by kernel_rfl) (by simp) ?_
  refine (AllReadyH.cons rfl (fun K hK => ?_) AllReadyH.nil)
  go_simp
  refine (HA.out _).mono ?_
  rintro e w1 ⟨rfl, n1, rfl⟩
  refine hK.out _ _ ?_ (fun hHeld => ?_)
  · exact ⟨hHeld.1.step n1, hHeld.2.1, hHeld.2.2⟩
  clear hK K
  try simp only [List.getElem_toArray, List.getElem_cons_succ, List.getElem_cons_zero, Act.put, List.setIfInBounds_toArray, List.set_cons_zero, List.set_cons_succ]
  refine wpAnyH_done (by kernel_rfl) ?_ _
  refine lastPost_wp ?_
  obtain ⟨⟨q, hq⟩, _, _⟩ := hHeld
  rw [hq]
  clear hq
  have hXq := HX.out.1.drewN q
  have HP := Lib.hid (rnput_any hXq.run hs o.f1 hk m)
  have HXq := Lib.hid hXq
  clear hXq hk1 hk3
  generalize W.drewN q = V at *
  go_wp2_with fail
  refine HP.out.mono ?_
  rintro e w3 ⟨rfl, hr3, hu3⟩
  have hX3 := HXq.out.put HX.out.2 hr3 hu3
  have hg3 : w3.cell? ⟨g, 0, none⟩ = some (.map (some mb)) := hX3.run.blk.cell 0
  have hk3 : w3.cell? ⟨w.heap.size, 1, none⟩ = some (.string o.f1) := hX3.op.cell 1
  have hl3 := (hX3.drew.run.d).look1 Tryz.underlying103 (zeroNum _) hk
  rw [HNEW.out] at hl3
  have HX3 := Lib.hid (And.intro hX3 HX.out.2)
  clear hr3 hu3 hX3
  go_upto_region 3 with fail
  refine wp_region_last1_held (S := (fun V => V.cell? ⟨g, 0, none⟩ = some (.map (some mb)) ∧ V.cell? ⟨w.heap.size, 1, none⟩ = some (.string o.f1) ∧ (Instr.lookup 103 (.map (some mb)) (.string o.f1) false).run Tryz.prog V = .ok (.int .u64 m) V)) (l := [_, _, _, _, _, _, _, _, _]) (o := _) (by kernel_rfl) (by kernel_rfl) ?_
  simp only [List.size_toArray, List.length_cons, List.length_nil, Nat.zero_add, Nat.reduceAdd]
  have hHeld : ((fun V => V.cell? ⟨g, 0, none⟩ = some (.map (some mb)) ∧ V.cell? ⟨w.heap.size, 1, none⟩ = some (.string o.f1) ∧ (Instr.lookup 103 (.map (some mb)) (.string o.f1) false).run Tryz.prog V = .ok (.int .u64 m) V)) w3.drew := ⟨hg3, hk3, hl3⟩
  refine tk_ 0 hHeld ?_
  refine tk_ 1 hHeld ?_
  refine tk_ 2 hHeld ?_
  refine tk_ 3 hHeld ?_
  refine tk_ 4 hHeld ?_
  refine tk_ 5 hHeld ?_
  refine tk_ 6 hHeld ?_
  refine tk_ 7 hHeld ?_
  refine tk_ 8 hHeld ?_
  refine wpAnyH_done (by kernel_rfl) ?_ _
  refine lastPost_wp ?_
  clear hHeld hg3 hk3 hl3
  have a0 : w3.cell? ⟨w.heap.size + 1, 0, none⟩ = some (.bool false) := HX3.out.1.ans.cell 0
  have a1 : w3.cell? ⟨w.heap.size + 1, 1, none⟩ = some (.int .u64 0) := HX3.out.1.ans.cell 1
  have a2 : w3.cell? ⟨w.heap.size + 1, 2, none⟩ = some (.slice none 0 0) := HX3.out.1.ans.cell 2
  have z0 := HX3.out.1.ans.frozen 0
  have z1 := HX3.out.1.ans.frozen 1
  have z2 := HX3.out.1.ans.frozen 2
  go_wp2
  refine bodyPost_ret (results_cell_row (by rfl) _ _ (w.heap.size + 1) 65 #[.bool y, .int .u64 m, .slice none 0 0] (0, 0) _ (by rfl) HX3.out.1.fin.drew Tryz.underlying65 (by rfl) (by kernel_rfl)) rfl ?_
  exact (HX3.out.1.out HX3.out.2 (Kd.R_nil _ _ _ _ _)).drew
set_option maxHeartbeats 1000000 in
set_option maxRecDepth 100000 in
theorem rndrop_any (h : RunIs w g mb cb s) (hs : s.small) (o : S63) (hk : o.f1.size ≤ maxLen) : Calls Tryz.prog 113 #[ptrR g, opV o] w (StepOut w g mb cb ⟨s.has o.f1, 0, []⟩ (s.drop o.f1)) := by
  have hX := boxed h o
  obtain ⟨W, hW⟩ : ∃ W, ((w.alloc (.cells #[.int .i64 o.f0, .string o.f1, .string o.f2, .int .u64 o.f3] 63)).alloc (.cells #[.bool false, .int .u64 0, .slice none 0 0] 65)) = W := ⟨_, rfl⟩
  rw [hW] at hX
  have hlt := hX.lt h
  have hg : W.cell? ⟨g, 0, none⟩ = some (.map (some mb)) := hX.run.blk.cell 0
  have hk1 : W.cell? ⟨w.heap.size, 1, none⟩ = some (.string o.f1) := hX.op.cell 1
  have hl := (hX.drew.run.d).look Tryz.underlying103 (zeroNum _) hk
  have hy : (getL s.d o.f1).isSome = s.has o.f1 := rfl
  have hn : ((getL s.d o.f1).map encN).getD (.int .u64 0) = .int .u64 (s.at o.f1) := by unfold St.at; cases getL s.d o.f1 <;> rfl
  rw [hy, hn] at hl
  clear hy hn
  generalize s.has o.f1 = y at *
  generalize s.at o.f1 = n at *
  have HX := Lib.hid (And.intro hX hlt); clear h hX hlt
  go_enter Tryz.func113, Tryz.ntmps113
  go_upto_region 1 with fail
  clear hW
  refine wp_region_held (S := (fun W => W.cell? ⟨g, 0, none⟩ = some (.map (some mb)) ∧ W.cell? ⟨w.heap.size, 1, none⟩ = some (.string o.f1) ∧ (Instr.lookup 103 (.map (some mb)) (.string o.f1) true).run Tryz.prog W = .ok (.tuple #[.int .u64 n, .bool y]) W)) (by kernel_rfl) ?_
  simp only [List.size_toArray, List.length_cons, List.length_nil, Nat.zero_add, Nat.reduceAdd]
  have hHeld : ((fun W => W.cell? ⟨g, 0, none⟩ = some (.map (some mb)) ∧ W.cell? ⟨w.heap.size, 1, none⟩ = some (.string o.f1) ∧ (Instr.lookup 103 (.map (some mb)) (.string o.f1) true).run Tryz.prog W = .ok (.tuple #[.int .u64 n, .bool y]) W)) W.drew := ⟨hg, hk1, hl⟩
  refine tk_ 0 hHeld ?_
  refine tk_ 1 hHeld ?_
  refine tk_ 2 hHeld ?_
  refine tk_ 3 hHeld ?_
  refine tk_ 4 hHeld ?_
  refine tk_ 5 hHeld ?_
  refine tk_ 6 hHeld ?_
  refine tk_ 7 hHeld ?_
  refine tk_ 8 hHeld ?_
  refine tk_ 9 hHeld ?_
  refine tk_ 10 hHeld ?_
  refine tk_ 11 hHeld ?_
  refine wpAnyH_done (by kernel_rfl) ?_ _
  clear hHeld hl hg
  have hg1 : W.cell? ⟨g, 1, none⟩ = some (.map (some cb)) := HX.out.1.run.blk.cell 1
  go_upto_region 2 with fail
  refine wp_region_last1_held (S := (fun V => Drawn0 W V ∧ V.cell? ⟨g, 1, none⟩ = some (.map (some cb)) ∧ V.cell? ⟨w.heap.size, 1, none⟩ = some (.string o.f1))) (l := [_, _, _, _, _, _]) (o := _) (by kernel_rfl) (by kernel_rfl) ?_
  simp only [List.size_toArray, List.length_cons, List.length_nil, Nat.zero_add, Nat.reduceAdd]
  have hHeld : ((fun V => Drawn0 W V ∧ V.cell? ⟨g, 1, none⟩ = some (.map (some cb)) ∧ V.cell? ⟨w.heap.size, 1, none⟩ = some (.string o.f1))) W.drew.drew := ⟨⟨2, rfl⟩, hg1, hk1⟩
  refine tk_ 0 hHeld ?_
  refine tk_ 1 hHeld ?_
  refine tk_ 2 hHeld ?_
  refine tk_ 3 hHeld ?_
  refine tk_ 4 hHeld ?_
  refine tk_ 5 hHeld ?_
  refine wpAnyH_done (by kernel_rfl) ?_ _
  refine lastPost_wp ?_
  clear hHeld hg1 hk1
  suffices hz : wpList _ _ _ _ _ (W.drewN 2) from hz
  have hXq := HX.out.1.drewN 2
  obtain ⟨w3, hput, hc3, hu3⟩ := hXq.run.c.put Tryz.underlying105 hk (by have := hs.2; unfold maxLen; omega) true
  have hgm : g ≠ cb := hXq.run.c.block hXq.run.blk
  have hX3 := hXq.put (s' := ⟨s.d, putL s.c o.f1 true⟩) HX.out.2 ⟨hXq.run.blk.upd hu3 hgm, hXq.run.ne, hXq.run.d.upd hu3 hXq.run.ne, hc3⟩ (hu3.mono fun _ _ e => .inr e)
  generalize W.drewN 2 = V at *
  have hg3 : w3.cell? ⟨g, 0, none⟩ = some (.map (some mb)) := hX3.run.blk.cell 0
  have hk3 : w3.cell? ⟨w.heap.size, 1, none⟩ = some (.string o.f1) := hX3.op.cell 1
  have HX3 := Lib.hid hX3
  clear hXq hc3 hu3 hgm hX3
  go_upto_region 3 with fail
  clear hput
  refine wp_region_last1_held (S := (fun U => Drawn0 w3 U ∧ U.cell? ⟨g, 0, none⟩ = some (.map (some mb)) ∧ U.cell? ⟨w.heap.size, 1, none⟩ = some (.string o.f1))) (l := [_, _, _, _, _, _]) (o := _) (by kernel_rfl) (by kernel_rfl) ?_
  simp only [List.size_toArray, List.length_cons, List.length_nil, Nat.zero_add, Nat.reduceAdd]
  have hHeld : ((fun U => Drawn0 w3 U ∧ U.cell? ⟨g, 0, none⟩ = some (.map (some mb)) ∧ U.cell? ⟨w.heap.size, 1, none⟩ = some (.string o.f1))) w3.drew := ⟨⟨1, rfl⟩, hg3, hk3⟩
  refine tk_ 0 hHeld ?_
  refine tk_ 1 hHeld ?_
  refine tk_ 2 hHeld ?_
  refine tk_ 3 hHeld ?_
  refine tk_ 4 hHeld ?_
  refine tk_ 5 hHeld ?_
  refine wpAnyH_done (by kernel_rfl) ?_ _
  refine lastPost_wp ?_
  clear hHeld hg3 hk3
  suffices hz : wpList _ _ _ _ _ (w3.drewN 1) from hz
  have hX4 := HX3.out.drewN 1
  obtain ⟨w4, hdel, hd4, hu4⟩ := hX4.run.d.del Tryz.underlying103 hk 0
  have hgm : g ≠ mb := hX4.run.d.block hX4.run.blk
  have hX5 := hX4.put (s' := s.drop o.f1) HX.out.2 ⟨hX4.run.blk.upd hu4 hgm, hX4.run.ne, hd4, hX4.run.c.upd hu4 (fun e => hX4.run.ne e.symm)⟩ (hu4.mono fun _ _ e => .inl e)
  generalize w3.drewN 1 = V2 at *
  clear hX4 hd4 hu4 hgm
  obtain ⟨w3, hw3⟩ : ∃ w3, w4 = w3 := ⟨_, rfl⟩
  rw [hw3] at hX5 hdel
  clear hw3
  have HX3 := Lib.hid (And.intro hX5 HX.out.2)
  clear hX5
  have a0 : w3.cell? ⟨w.heap.size + 1, 0, none⟩ = some (.bool false) := HX3.out.1.ans.cell 0
  have a1 : w3.cell? ⟨w.heap.size + 1, 1, none⟩ = some (.int .u64 0) := HX3.out.1.ans.cell 1
  have a2 : w3.cell? ⟨w.heap.size + 1, 2, none⟩ = some (.slice none 0 0) := HX3.out.1.ans.cell 2
  have z0 := HX3.out.1.ans.frozen 0
  have z1 := HX3.out.1.ans.frozen 1
  have z2 := HX3.out.1.ans.frozen 2
  go_wp2
  refine bodyPost_ret (results_cell_row (by rfl) _ _ (w.heap.size + 1) 65 #[.bool y, .int .u64 0, .slice none 0 0] (0, 0) _ (by rfl) HX3.out.1.fin Tryz.underlying65 (by rfl) (by kernel_rfl)) rfl ?_
  exact HX3.out.1.out HX3.out.2 (Kd.R_nil _ _ _ _ _)
end
end Go.Proofs.YtgmlenpcchhmbaaGreat.P
end
section
set_option linter.unusedVariables false
set_option linter.unusedSimpArgs false
namespace Go.Proofs.YtgmlenpcchhmbaaGreat.P
open Go.RowKit Go.Proofs.YtgmlenpcchhmbaaGreatW.PrintWords Go.Proofs.YtgmlenpcchhmbaaGreatW.PrintLast Go.Proofs.YtgmlenpcchhmbaaGreatW.PrintMore
theorem ofN_zero : ofN 0 = 0 := by decide
section
variable {w : World} {g mb cb : Nat} {s : St}
set_option maxHeartbeats 1000000 in
set_option maxRecDepth 100000 in
theorem rnmove_no1 (h : RunIs w g mb cb s) (o : S63) (hk : o.f1.size ≤ maxLen) (hc1 : geN (s.at o.f1) o.f3 = false) : Calls Tryz.prog 114 #[ptrR g, opV o] w (StepOut w g mb cb ⟨false, 0, []⟩ s) := by
  have hX := boxed h o
  obtain ⟨W, hW⟩ : ∃ W, ((w.alloc (.cells #[.int .i64 o.f0, .string o.f1, .string o.f2, .int .u64 o.f3] 63)).alloc (.cells #[.bool false, .int .u64 0, .slice none 0 0] 65)) = W := ⟨_, rfl⟩
  rw [hW] at hX
  have hlt := hX.lt h
  have hg : W.cell? ⟨g, 0, none⟩ = some (.map (some mb)) := hX.run.blk.cell 0
  have hk1 : W.cell? ⟨w.heap.size, 1, none⟩ = some (.string o.f1) := hX.op.cell 1
  have hk3 : W.cell? ⟨w.heap.size, 3, none⟩ = some (.int .u64 o.f3) := hX.op.cell 3
  have hl := (hX.drew.run.d).look1 Tryz.underlying103 (zeroNum _) hk
  have hn : ((getL s.d o.f1).map encN).getD (.int .u64 0) = .int .u64 (s.at o.f1) := by unfold St.at; cases getL s.d o.f1 <;> rfl
  rw [hn] at hl
  have HC1 := Lib.hid (nCovers_any (s.at o.f1) o.f3)
  have HC2 := Lib.hid (nCovers_any o.f3 0)
  have HOF := Lib.hid (nOf_any 0)
  rw [ofN_zero] at HOF
  clear hn
  rw [hc1] at HC1
  clear hc1
  generalize s.at o.f1 = n at *
  have HX := Lib.hid (And.intro hX hlt); clear h hX hlt
  go_enter Tryz.func114, Tryz.ntmps114
  go_upto_region 1 with fail
  clear hW
  refine wp_region_held (S := (fun W => W.cell? ⟨g, 0, none⟩ = some (.map (some mb)) ∧ W.cell? ⟨w.heap.size, 1, none⟩ = some (.string o.f1) ∧ (Instr.lookup 103 (.map (some mb)) (.string o.f1) false).run Tryz.prog W = .ok (.int .u64 n) W)) (by kernel_rfl) ?_
  simp only [List.size_toArray, List.length_cons, List.length_nil, Nat.zero_add, Nat.reduceAdd]
  have hHeld : ((fun W => W.cell? ⟨g, 0, none⟩ = some (.map (some mb)) ∧ W.cell? ⟨w.heap.size, 1, none⟩ = some (.string o.f1) ∧ (Instr.lookup 103 (.map (some mb)) (.string o.f1) false).run Tryz.prog W = .ok (.int .u64 n) W)) W.drew := ⟨hg, hk1, hl⟩
  refine tk_ 0 hHeld ?_
  refine tk_ 1 hHeld ?_
  refine tk_ 2 hHeld ?_
  refine tk_ 3 hHeld ?_
  refine tk_ 4 hHeld ?_
  refine tk_ 5 hHeld ?_
  refine tk_ 6 hHeld ?_
  refine tk_ 7 hHeld ?_
  refine wpAnyH_done (by kernel_rfl) ?_ _
  clear hHeld hl hg hk1
  go_upto_region 2 with fail
  refine wp_region_held (S := (fun V => Drawn0 W V ∧ V.cell? ⟨w.heap.size, 3, none⟩ = some (.int .u64 o.f3))) (by kernel_rfl) ?_
  simp only [List.size_toArray, List.length_cons, List.length_nil, Nat.zero_add, Nat.reduceAdd]
  have hHeld : ((fun V => Drawn0 W V ∧ V.cell? ⟨w.heap.size, 3, none⟩ = some (.int .u64 o.f3))) W.drew.drew := ⟨⟨2, rfl⟩, hk3⟩
  refine tk_ 0 hHeld ?_
  refine tk_ 1 hHeld ?_
  refine tk_ 2 hHeld ?_
  refine wpAnyH_ready (rs := [3]) (by kernel_rfl) (by simp) ?_
  refine (AllReadyH.cons rfl (fun K hK => ?_) AllReadyH.nil)
  go_simp
  refine (HC1.out _).mono ?_
  rintro e w1 ⟨rfl, rfl⟩
  refine hK.out _ _ ?_ (fun hHeld => ?_)
  · exact hHeld
  clear hK K
  try simp only [List.getElem_toArray, List.getElem_cons_succ, List.getElem_cons_zero, Act.put, List.setIfInBounds_toArray, List.set_cons_zero, List.set_cons_succ]
  refine tk_ 4 hHeld ?_
  refine tk_ 5 hHeld ?_
  refine tf_ 6 hHeld ?_
  refine tf_ 7 hHeld ?_
  refine tf_ 8 hHeld ?_
  refine tf_ 9 hHeld ?_
  refine tf_ 10 hHeld ?_
  refine tk_ 11 hHeld ?_
  refine wpAnyH_done (by kernel_rfl) ?_ _
  clear hHeld hk3
  suffices hz : Exit.then _ _ _ _ (W.drewN 2) from hz
  obtain ⟨w3, hw3⟩ : ∃ w3, W.drewN 2 = w3 := ⟨_, rfl⟩
  rw [hw3]
  have HX3 := Lib.hid (And.intro (hw3 ▸ HX.out.1.drewN 2) HX.out.2)
  clear hw3 HX
  have a0 : w3.cell? ⟨w.heap.size + 1, 0, none⟩ = some (.bool false) := HX3.out.1.ans.cell 0
  have a1 : w3.cell? ⟨w.heap.size + 1, 1, none⟩ = some (.int .u64 0) := HX3.out.1.ans.cell 1
  have a2 : w3.cell? ⟨w.heap.size + 1, 2, none⟩ = some (.slice none 0 0) := HX3.out.1.ans.cell 2
  have z0 := HX3.out.1.ans.frozen 0
  have z1 := HX3.out.1.ans.frozen 1
  have z2 := HX3.out.1.ans.frozen 2
  go_wp2
  refine bodyPost_ret (results_cell_row (by rfl) _ _ (w.heap.size + 1) 65 #[.bool false, .int .u64 0, .slice none 0 0] (0, 0) _ (by rfl) HX3.out.1.fin Tryz.underlying65 (by rfl) (by kernel_rfl)) rfl ?_
  exact HX3.out.1.out HX3.out.2 (Kd.R_nil _ _ _ _ _)
set_option maxHeartbeats 1000000 in
set_option maxRecDepth 100000 in
theorem rnmove_no2 (h : RunIs w g mb cb s) (o : S63) (hk : o.f1.size ≤ maxLen) (hc1 : geN (s.at o.f1) o.f3 = true) (hc2 : geN o.f3 0 = false) : Calls Tryz.prog 114 #[ptrR g, opV o] w (StepOut w g mb cb ⟨false, 0, []⟩ s) := by
  have hX := boxed h o
  obtain ⟨W, hW⟩ : ∃ W, ((w.alloc (.cells #[.int .i64 o.f0, .string o.f1, .string o.f2, .int .u64 o.f3] 63)).alloc (.cells #[.bool false, .int .u64 0, .slice none 0 0] 65)) = W := ⟨_, rfl⟩
  rw [hW] at hX
  have hlt := hX.lt h
  have hg : W.cell? ⟨g, 0, none⟩ = some (.map (some mb)) := hX.run.blk.cell 0
  have hk1 : W.cell? ⟨w.heap.size, 1, none⟩ = some (.string o.f1) := hX.op.cell 1
  have hk3 : W.cell? ⟨w.heap.size, 3, none⟩ = some (.int .u64 o.f3) := hX.op.cell 3
  have hl := (hX.drew.run.d).look1 Tryz.underlying103 (zeroNum _) hk
  have hn : ((getL s.d o.f1).map encN).getD (.int .u64 0) = .int .u64 (s.at o.f1) := by unfold St.at; cases getL s.d o.f1 <;> rfl
  rw [hn] at hl
  have HC1 := Lib.hid (nCovers_any (s.at o.f1) o.f3)
  have HC2 := Lib.hid (nCovers_any o.f3 0)
  have HOF := Lib.hid (nOf_any 0)
  rw [ofN_zero] at HOF
  clear hn
  rw [hc1] at HC1
  rw [hc2] at HC2
  clear hc1 hc2
  generalize s.at o.f1 = n at *
  have HX := Lib.hid (And.intro hX hlt); clear h hX hlt
  go_enter Tryz.func114, Tryz.ntmps114
  go_upto_region 1 with fail
  clear hW
  refine wp_region_held (S := (fun W => W.cell? ⟨g, 0, none⟩ = some (.map (some mb)) ∧ W.cell? ⟨w.heap.size, 1, none⟩ = some (.string o.f1) ∧ (Instr.lookup 103 (.map (some mb)) (.string o.f1) false).run Tryz.prog W = .ok (.int .u64 n) W)) (by kernel_rfl) ?_
  simp only [List.size_toArray, List.length_cons, List.length_nil, Nat.zero_add, Nat.reduceAdd]
  have hHeld : ((fun W => W.cell? ⟨g, 0, none⟩ = some (.map (some mb)) ∧ W.cell? ⟨w.heap.size, 1, none⟩ = some (.string o.f1) ∧ (Instr.lookup 103 (.map (some mb)) (.string o.f1) false).run Tryz.prog W = .ok (.int .u64 n) W)) W.drew := ⟨hg, hk1, hl⟩
  refine tk_ 0 hHeld ?_
  refine tk_ 1 hHeld ?_
  refine tk_ 2 hHeld ?_
  refine tk_ 3 hHeld ?_
  refine tk_ 4 hHeld ?_
  refine tk_ 5 hHeld ?_
  refine tk_ 6 hHeld ?_
  refine tk_ 7 hHeld ?_
  refine wpAnyH_done (by kernel_rfl) ?_ _
  clear hHeld hl hg hk1
  go_upto_region 2 with fail
  refine wp_region_held (S := (fun V => Drawn0 W V ∧ V.cell? ⟨w.heap.size, 3, none⟩ = some (.int .u64 o.f3))) (by kernel_rfl) ?_
  simp only [List.size_toArray, List.length_cons, List.length_nil, Nat.zero_add, Nat.reduceAdd]
  have hHeld : ((fun V => Drawn0 W V ∧ V.cell? ⟨w.heap.size, 3, none⟩ = some (.int .u64 o.f3))) W.drew.drew := ⟨⟨2, rfl⟩, hk3⟩
  refine tk_ 0 hHeld ?_
  refine tk_ 1 hHeld ?_
  refine tk_ 2 hHeld ?_
  refine wpAnyH_ready (rs := [3]) (by kernel_rfl) (by simp) ?_
  refine (AllReadyH.cons rfl (fun K hK => ?_) AllReadyH.nil)
  go_simp
  refine (HC1.out _).mono ?_
  rintro e w1 ⟨rfl, rfl⟩
  refine hK.out _ _ ?_ (fun hHeld => ?_)
  · exact hHeld
  clear hK K
  try simp only [List.getElem_toArray, List.getElem_cons_succ, List.getElem_cons_zero, Act.put, List.setIfInBounds_toArray, List.set_cons_zero, List.set_cons_succ]
  refine tk_ 4 hHeld ?_
  refine tk_ 5 hHeld ?_
  refine tk_ 6 hHeld ?_
  refine tk_ 7 hHeld ?_
  refine wpAnyH_ready (rs := [8]) (by kernel_rfl) (by simp) ?_
  refine (AllReadyH.cons rfl (fun K hK => ?_) AllReadyH.nil)
  go_simp
  refine (HOF.out _).mono ?_
  rintro e w1 ⟨rfl, rfl⟩
  refine hK.out _ _ ?_ (fun hHeld => ?_)
  · exact hHeld
  clear hK K
  try simp only [List.getElem_toArray, List.getElem_cons_succ, List.getElem_cons_zero, Act.put, List.setIfInBounds_toArray, List.set_cons_zero, List.set_cons_succ]
  refine wpAnyH_ready (rs := [9]) (by kernel_rfl) (by simp) ?_
  refine (AllReadyH.cons rfl (fun K hK => ?_) AllReadyH.nil)
  go_simp
  refine (HC2.out _).mono ?_
  rintro e w1 ⟨rfl, rfl⟩
  refine hK.out _ _ ?_ (fun hHeld => ?_)
  · exact hHeld
  clear hK K
  try simp only [List.getElem_toArray, List.getElem_cons_succ, List.getElem_cons_zero, Act.put, List.setIfInBounds_toArray, List.set_cons_zero, List.set_cons_succ]
  refine tk_ 10 hHeld ?_
  refine tk_ 11 hHeld ?_
  refine wpAnyH_done (by kernel_rfl) ?_ _
  clear hHeld hk3
  suffices hz : Exit.then _ _ _ _ (W.drewN 2) from hz
  obtain ⟨w3, hw3⟩ : ∃ w3, W.drewN 2 = w3 := ⟨_, rfl⟩
  rw [hw3]
  have HX3 := Lib.hid (And.intro (hw3 ▸ HX.out.1.drewN 2) HX.out.2)
  clear hw3 HX
  have a0 : w3.cell? ⟨w.heap.size + 1, 0, none⟩ = some (.bool false) := HX3.out.1.ans.cell 0
  have a1 : w3.cell? ⟨w.heap.size + 1, 1, none⟩ = some (.int .u64 0) := HX3.out.1.ans.cell 1
  have a2 : w3.cell? ⟨w.heap.size + 1, 2, none⟩ = some (.slice none 0 0) := HX3.out.1.ans.cell 2
  have z0 := HX3.out.1.ans.frozen 0
  have z1 := HX3.out.1.ans.frozen 1
  have z2 := HX3.out.1.ans.frozen 2
  go_wp2
  refine bodyPost_ret (results_cell_row (by rfl) _ _ (w.heap.size + 1) 65 #[.bool false, .int .u64 0, .slice none 0 0] (0, 0) _ (by rfl) HX3.out.1.fin Tryz.underlying65 (by rfl) (by kernel_rfl)) rfl ?_
  exact HX3.out.1.out HX3.out.2 (Kd.R_nil _ _ _ _ _)
set_option maxHeartbeats 2000000 in
set_option maxRecDepth 100000 in
theorem rnmove_yes (h : RunIs w g mb cb s) (hs : s.small) (hs2 : ∀ k n, (s.put k n).small) (o : S63) (hk : o.f1.size ≤ maxLen) (hk2 : o.f2.size ≤ maxLen) (hc1 : geN (s.at o.f1) o.f3 = true) (hc2 : geN o.f3 0 = true) :
    Calls Tryz.prog 114 #[ptrR g, opV o] w (StepOut w g mb cb ⟨true, 0, []⟩ ((s.put o.f1 (addN (s.at o.f1) (negN o.f3))).put o.f2 (addN ((s.put o.f1 (addN (s.at o.f1) (negN o.f3))).at o.f2) o.f3))) := by
  have hX := boxed h o
  obtain ⟨W, hW⟩ : ∃ W, ((w.alloc (.cells #[.int .i64 o.f0, .string o.f1, .string o.f2, .int .u64 o.f3] 63)).alloc (.cells #[.bool false, .int .u64 0, .slice none 0 0] 65)) = W := ⟨_, rfl⟩
  rw [hW] at hX
  have hlt := hX.lt h
  have hg : W.cell? ⟨g, 0, none⟩ = some (.map (some mb)) := hX.run.blk.cell 0
  have hk1 : W.cell? ⟨w.heap.size, 1, none⟩ = some (.string o.f1) := hX.op.cell 1
  have hk3 : W.cell? ⟨w.heap.size, 3, none⟩ = some (.int .u64 o.f3) := hX.op.cell 3
  have hl := (hX.drew.run.d).look1 Tryz.underlying103 (zeroNum _) hk
  have hn : ((getL s.d o.f1).map encN).getD (.int .u64 0) = .int .u64 (s.at o.f1) := by unfold St.at; cases getL s.d o.f1 <;> rfl
  rw [hn] at hl
  have HC1 := Lib.hid (nCovers_any (s.at o.f1) o.f3)
  have HC2 := Lib.hid (nCovers_any o.f3 0)
  have HOF := Lib.hid (nOf_any 0)
  rw [ofN_zero] at HOF
  clear hn
  rw [hc1] at HC1
  rw [hc2] at HC2
  clear hc1 hc2
  have HNG := Lib.hid (nNeg_any o.f3)
  have HA1 := Lib.hid (nAdd_any (s.at o.f1) (negN o.f3))
  generalize negN o.f3 = ng at *
  generalize hm1 : addN (s.at o.f1) ng = m1 at *
  clear hm1
  generalize s.at o.f1 = n at *
  have HX := Lib.hid (And.intro hX hlt); clear h hX hlt
  go_enter Tryz.func114, Tryz.ntmps114
  go_upto_region 1 with fail
  clear hW
  refine wp_region_held (S := (fun W => W.cell? ⟨g, 0, none⟩ = some (.map (some mb)) ∧ W.cell? ⟨w.heap.size, 1, none⟩ = some (.string o.f1) ∧ (Instr.lookup 103 (.map (some mb)) (.string o.f1) false).run Tryz.prog W = .ok (.int .u64 n) W)) (by kernel_rfl) ?_
  simp only [List.size_toArray, List.length_cons, List.length_nil, Nat.zero_add, Nat.reduceAdd]
  have hHeld : ((fun W => W.cell? ⟨g, 0, none⟩ = some (.map (some mb)) ∧ W.cell? ⟨w.heap.size, 1, none⟩ = some (.string o.f1) ∧ (Instr.lookup 103 (.map (some mb)) (.string o.f1) false).run Tryz.prog W = .ok (.int .u64 n) W)) W.drew := ⟨hg, hk1, hl⟩
  refine tk_ 0 hHeld ?_
  refine tk_ 1 hHeld ?_
  refine tk_ 2 hHeld ?_
  refine tk_ 3 hHeld ?_
  refine tk_ 4 hHeld ?_
  refine tk_ 5 hHeld ?_
  refine tk_ 6 hHeld ?_
  refine tk_ 7 hHeld ?_
  refine wpAnyH_done (by kernel_rfl) ?_ _
  clear hHeld hl hg hk1
  go_upto_region 2 with fail
  refine wp_region_held (S := (fun V => Drawn0 W V ∧ V.cell? ⟨w.heap.size, 3, none⟩ = some (.int .u64 o.f3))) (by kernel_rfl) ?_
  simp only [List.size_toArray, List.length_cons, List.length_nil, Nat.zero_add, Nat.reduceAdd]
  have hHeld : ((fun V => Drawn0 W V ∧ V.cell? ⟨w.heap.size, 3, none⟩ = some (.int .u64 o.f3))) W.drew.drew := ⟨⟨2, rfl⟩, hk3⟩
  refine tk_ 0 hHeld ?_
  refine tk_ 1 hHeld ?_
  refine tk_ 2 hHeld ?_
  refine wpAnyH_ready (rs := [3]) (by kernel_rfl) (by simp) ?_
  refine (AllReadyH.cons rfl (fun K hK => ?_) AllReadyH.nil)
  go_simp
  refine (HC1.out _).mono ?_
  rintro e w1 ⟨rfl, rfl⟩
  refine hK.out _ _ ?_ (fun hHeld => ?_)
  · exact hHeld
  clear hK K
  try simp only [List.getElem_toArray, List.getElem_cons_succ, List.getElem_cons_zero, Act.put, List.setIfInBounds_toArray, List.set_cons_zero, List.set_cons_succ]
  refine tk_ 4 hHeld ?_
  refine tk_ 5 hHeld ?_
  refine tk_ 6 hHeld ?_
  refine tk_ 7 hHeld ?_
  refine wpAnyH_ready (rs := [8]) (by kernel_rfl) (by simp) ?_
  refine (AllReadyH.cons rfl (fun K hK => ?_) AllReadyH.nil)
  go_simp
  refine (HOF.out _).mono ?_
  rintro e w1 ⟨rfl, rfl⟩
  refine hK.out _ _ ?_ (fun hHeld => ?_)
  · exact hHeld
  clear hK K
  try simp only [List.getElem_toArray, List.getElem_cons_succ, List.getElem_cons_zero, Act.put, List.setIfInBounds_toArray, List.set_cons_zero, List.set_cons_succ]
  refine wpAnyH_ready (rs := [9]) (by kernel_rfl) (by simp) ?_
  refine (AllReadyH.cons rfl (fun K hK => ?_) AllReadyH.nil)
  go_simp
  refine (HC2.out _).mono ?_
  rintro e w1 ⟨rfl, rfl⟩
  refine hK.out _ _ ?_ (fun hHeld => ?_)
  · exact hHeld
  clear hK K
  try simp only [List.getElem_toArray, List.getElem_cons_succ, List.getElem_cons_zero, Act.put, List.setIfInBounds_toArray, List.set_cons_zero, List.set_cons_succ]
  refine tk_ 10 hHeld ?_
  refine tk_ 11 hHeld ?_
  refine wpAnyH_done (by kernel_rfl) ?_ _
  clear hHeld hk3
  suffices hz : Exit.then _ _ _ _ (W.drewN 2) from hz
  obtain ⟨w3, hw3⟩ : ∃ w3, W.drewN 2 = w3 := ⟨_, rfl⟩
  rw [hw3]
  have HX3 := Lib.hid (And.intro (hw3 ▸ HX.out.1.drewN 2) HX.out.2)
  clear hw3 HX
  clear HC1 HC2 HOF
  have hk1 : w3.cell? ⟨w.heap.size, 1, none⟩ = some (.string o.f1) := HX3.out.1.op.cell 1
  have hk3 : w3.cell? ⟨w.heap.size, 3, none⟩ = some (.int .u64 o.f3) := HX3.out.1.op.cell 3
  go_upto_region 4 with fail
  refine wp_region_last1_held (S := (fun V => Drawn0 w3 V ∧ V.cell? ⟨w.heap.size, 1, none⟩ = some (.string o.f1) ∧ V.cell? ⟨w.heap.size, 3, none⟩ = some (.int .u64 o.f3))) (l := [_, _, _, _, _, _, _, _]) (o := _) (by kernel_rfl) (by kernel_rfl) ?_
  simp only [List.size_toArray, List.length_cons, List.length_nil, Nat.zero_add, Nat.reduceAdd]
  have hHeld : ((fun V => Drawn0 w3 V ∧ V.cell? ⟨w.heap.size, 1, none⟩ = some (.string o.f1) ∧ V.cell? ⟨w.heap.size, 3, none⟩ = some (.int .u64 o.f3))) w3.drew := ⟨⟨1, rfl⟩, hk1, hk3⟩
  refine tk_ 0 hHeld ?_
  refine tk_ 1 hHeld ?_
  refine tk_ 2 hHeld ?_
  refine tk_ 3 hHeld ?_
  refine tk_ 4 hHeld ?_
  refine tk_ 5 hHeld ?_
  refine wpAnyH_ready (rs := [6]) (by kernel_rfl) (by simp) ?_
  refine (AllReadyH.cons rfl (fun K hK => ?_) AllReadyH.nil)
  go_simp
  refine (HNG.out _).mono ?_
  rintro e w1 ⟨rfl, rfl⟩
  refine hK.out _ _ ?_ (fun hHeld => ?_)
  · exact hHeld
  clear hK K
  try simp only [List.getElem_toArray, List.getElem_cons_succ, List.getElem_cons_zero, Act.put, List.setIfInBounds_toArray, List.set_cons_zero, List.set_cons_succ]
  refine wpAnyH_ready (rs := [7]) (by kernel_rfl) (by simp) ?_
  refine (AllReadyH.cons rfl (fun K hK => ?_) AllReadyH.nil)
  go_simp
  refine (HA1.out _).mono ?_
  rintro e w1 ⟨rfl, n1, rfl⟩
  refine hK.out _ _ ?_ (fun hHeld => ?_)
  · exact ⟨hHeld.1.step n1, hHeld.2.1, hHeld.2.2⟩
  clear hK K
  try simp only [List.getElem_toArray, List.getElem_cons_succ, List.getElem_cons_zero, Act.put, List.setIfInBounds_toArray, List.set_cons_zero, List.set_cons_succ]
  refine wpAnyH_done (by kernel_rfl) ?_ _
  refine lastPost_wp ?_
  obtain ⟨⟨q, hq⟩, _, _⟩ := hHeld
  rw [hq]
  clear hq hk1 hk3
  have hXq := HX3.out.1.drewN q
  have HP := Lib.hid (rnput_any hXq.run hs o.f1 hk m1)
  have HXq := Lib.hid (And.intro hXq HX3.out.2)
  clear hXq HX3
  generalize w3.drewN q = V at *
  go_wp2_with fail
  refine HP.out.mono ?_
  rintro e w4 ⟨rfl, hr4, hu4⟩
  have hX4 := HXq.out.1.put HXq.out.2 hr4 hu4
  have HX4 := Lib.hid (And.intro hX4 HXq.out.2)
  have hg4 : w4.cell? ⟨g, 0, none⟩ = some (.map (some mb)) := hX4.run.blk.cell 0
  have hk2c : w4.cell? ⟨w.heap.size, 2, none⟩ = some (.string o.f2) := hX4.op.cell 2
  have hk3 : w4.cell? ⟨w.heap.size, 3, none⟩ = some (.int .u64 o.f3) := hX4.op.cell 3
  have hl4 := fun q => ((hX4.drewN q).run.d).look1 Tryz.underlying103 (zeroNum _) hk2
  have hn : ((getL (s.put o.f1 m1).d o.f2).map encN).getD (.int .u64 0) = .int .u64 ((s.put o.f1 m1).at o.f2) := by unfold St.at; cases getL (s.put o.f1 m1).d o.f2 <;> rfl
  rw [hn] at hl4
  have HA2 := Lib.hid (nAdd_any ((s.put o.f1 m1).at o.f2) o.f3)
  clear hr4 hu4 hX4 hn HP HXq
  generalize hm2 : addN ((s.put o.f1 m1).at o.f2) o.f3 = m2 at *
  generalize (s.put o.f1 m1).at o.f2 = n2 at *
  clear hm2
  go_upto_region 5 with fail
  refine wp_region_last1_held (S := (fun V => Drawn0 w4 V ∧ V.cell? ⟨g, 0, none⟩ = some (.map (some mb)) ∧ V.cell? ⟨w.heap.size, 2, none⟩ = some (.string o.f2) ∧ V.cell? ⟨w.heap.size, 3, none⟩ = some (.int .u64 o.f3) ∧ (Instr.lookup 103 (.map (some mb)) (.string o.f2) false).run Tryz.prog V = .ok (.int .u64 n2) V)) (l := [_, _, _, _, _, _, _, _, _, _, _, _, _]) (o := _) (by kernel_rfl) (by kernel_rfl) ?_
  simp only [List.size_toArray, List.length_cons, List.length_nil, Nat.zero_add, Nat.reduceAdd]
  have hHeld : ((fun V => Drawn0 w4 V ∧ V.cell? ⟨g, 0, none⟩ = some (.map (some mb)) ∧ V.cell? ⟨w.heap.size, 2, none⟩ = some (.string o.f2) ∧ V.cell? ⟨w.heap.size, 3, none⟩ = some (.int .u64 o.f3) ∧ (Instr.lookup 103 (.map (some mb)) (.string o.f2) false).run Tryz.prog V = .ok (.int .u64 n2) V)) w4.drew := ⟨⟨1, rfl⟩, hg4, hk2c, hk3, hl4 1⟩
  refine tk_ 0 hHeld ?_
  refine tk_ 1 hHeld ?_
  refine tk_ 2 hHeld ?_
  refine tk_ 3 hHeld ?_
  refine tk_ 4 hHeld ?_
  refine tk_ 5 hHeld ?_
  refine tk_ 6 hHeld ?_
  refine tk_ 7 hHeld ?_
  refine tk_ 8 hHeld ?_
  refine tk_ 9 hHeld ?_
  refine tk_ 10 hHeld ?_
  refine tk_ 11 hHeld ?_
  refine wpAnyH_ready (rs := [12]) (by kernel_rfl) (by simp) ?_
  refine (AllReadyH.cons rfl (fun K hK => ?_) AllReadyH.nil)
  go_simp
  refine (HA2.out _).mono ?_
  rintro e w1 ⟨rfl, n1, rfl⟩
  refine hK.out _ _ ?_ (fun hHeld => ?_)
  · obtain ⟨⟨q1, hq1⟩, h1, h2, h3, _⟩ := hHeld
    exact ⟨⟨q1 + n1, by rw [hq1, World.drewN_drewN]⟩, h1, h2, h3, by rw [hq1, World.drewN_drewN]; exact hl4 _⟩
  clear hK K
  try simp only [List.getElem_toArray, List.getElem_cons_succ, List.getElem_cons_zero, Act.put, List.setIfInBounds_toArray, List.set_cons_zero, List.set_cons_succ]
  refine wpAnyH_done (by kernel_rfl) ?_ _
  refine lastPost_wp ?_
  obtain ⟨⟨q5, hq⟩, _⟩ := hHeld
  rw [hq]
  clear hq hg4 hk2c hk3 hl4
  have hXq := HX4.out.1.drewN q5
  have HP := Lib.hid (rnput_any hXq.run (hs2 _ _) o.f2 hk2 m2)
  have HXq := Lib.hid (And.intro hXq HX4.out.2)
  clear hXq HX4
  generalize w4.drewN q5 = V5 at *
  go_wp2_with fail
  refine HP.out.mono ?_
  rintro e w3 ⟨rfl, hr4, hu4⟩
  have HX3 := Lib.hid (And.intro (HXq.out.1.put HXq.out.2 hr4 hu4) HXq.out.2)
  clear hr4 hu4 HP HXq
  have a0 : w3.cell? ⟨w.heap.size + 1, 0, none⟩ = some (.bool false) := HX3.out.1.ans.cell 0
  have a1 : w3.cell? ⟨w.heap.size + 1, 1, none⟩ = some (.int .u64 0) := HX3.out.1.ans.cell 1
  have a2 : w3.cell? ⟨w.heap.size + 1, 2, none⟩ = some (.slice none 0 0) := HX3.out.1.ans.cell 2
  have z0 := HX3.out.1.ans.frozen 0
  have z1 := HX3.out.1.ans.frozen 1
  have z2 := HX3.out.1.ans.frozen 2
  go_wp2
  refine bodyPost_ret (results_cell_row (by rfl) _ _ (w.heap.size + 1) 65 #[.bool true, .int .u64 0, .slice none 0 0] (0, 0) _ (by rfl) HX3.out.1.fin Tryz.underlying65 (by rfl) (by kernel_rfl)) rfl ?_
  exact HX3.out.1.out HX3.out.2 (Kd.R_nil _ _ _ _ _)
end
end Go.Proofs.YtgmlenpcchhmbaaGreat.P
end
section
set_option linter.unusedVariables false
set_option linter.unusedSimpArgs false
namespace Go.Proofs.YtgmlenpcchhmbaaGreat.P
open Go.RowKit Go.Proofs.YtgmlenpcchhmbaaGreatW.PrintWords Go.Proofs.YtgmlenpcchhmbaaGreatW.PrintLast Go.Proofs.YtgmlenpcchhmbaaGreatW.PrintMore
theorem C_atG {w : World} {A : Option Addr} {n : Nat} {xs : List S71} (h : Kd.C k71 w A n xs) (k : Nat) (hk : k < xs.length) : ∃ ad, A = some ad ∧ w.cell? (ad.add (k * 2)) = some (.string xs[k].f0) ∧ w.cell? ⟨(ad.add (k * 2)).block, (ad.add (k * 2)).off + 1, none⟩ = some (.string xs[k].f1) := by
  obtain ⟨ad, hA, x0, x1⟩ := at_T71 h (k : Int) (by omega) (by have := h.1; omega)
  have er : rd_T71 xs (k : Int) = xs[k] := by
    unfold rd_T71
    rw [Int.toNat_natCast, List.getD_eq_getElem?_getD, List.getElem?_eq_getElem hk]
    rfl
  rw [er, Int.toNat_natCast] at x0 x1
  exact ⟨ad, hA, x0, x1⟩
set_option maxHeartbeats 1000000 in
theorem gidx_any (g : Nat) (lb : Array Value) (p : S71 → Bool) (eg : ∀ args w, (callFunc g args).run Tryz.prog w = .ok (.enter g args) w) (A : Option Addr) (c : Nat) (xs : List S71) (w : World) (hr : Kd.C k71 w A xs.length xs)
    (hp : ∀ (W : World) (s : S71), s ∈ xs → Below w.heap.size w W → Calls Tryz.prog g (#[] ++ #[.agg #[.string s.f0, .string s.f1]] ++ lb) W fun e w' => e = .returned (.bool (p s)) ∧ Below W.heap.size W w') :
    Calls Tryz.prog 155 #[.slice A xs.length c, .func (.func g) #[] lb] w fun e w' => e = .returned (.int .i64 (idxP p xs)) ∧ Below w.heap.size w w' := by
  have hm := Kd.C_max hr
  have HR := Lib.hid hr; clear hr
  have HP := Lib.hid hp; clear hp
  go_enter Tryz.func155, Tryz.ntmps155
  go_wp2
  go_loopw [5, 8] (fun _ i wr => ∃ k : Nat, i = .int .i64 k ∧ k ≤ xs.length ∧ Below w.heap.size w wr ∧ RowKit.Hid (∀ j (hj : j < xs.length), j < k → p xs[j] = false)) (fun _ i _ => xs.length - (intOf i).toNat)
  case atStart => exact ⟨0, rfl, Nat.zero_le _, Below.refl _ _, Lib.hid (fun j _ h => absurd h (Nat.not_lt_zero _))⟩
  case round =>
    obtain ⟨k, rfl, hk, hB, HN⟩ := hrel
    by_cases hlt : k < xs.length
    · obtain ⟨ad, hA, x0, x1⟩ := C_atG (Kd.C_below HR.out hB) k hlt
      subst hA
      have hc := HP.out wr xs[k] (List.getElem_mem hlt) hB
      generalize hu : xs[k] = u at *
      have HU := Lib.hid hu; clear hu
      cases hq : p u with
      | true =>
        rw [hq] at hc
        have HQ := Lib.hid hq; clear hq
        go_wp2_with (go_at_fn g; refine hc.mono ?_; rintro e w' ⟨rfl, hb⟩)
        go_ret
        refine ⟨?_, hB.trans (hb.mono hB.size)⟩
        rw [idxP_hit hlt HN.out (by rw [HU.out]; exact HQ.out)]
        rfl
      | false =>
        rw [hq] at hc
        have HQ := Lib.hid hq; clear hq
        go_wp2_with (go_at_fn g; refine hc.mono ?_; rintro e w' ⟨rfl, hb⟩)
        go_roundw
        case rel => exact ⟨k + 1, by go_num, by omega, hB.trans (hb.mono hB.size), Lib.hid (fun j hj h => by
          by_cases e : j = k
          · subst e; rw [HU.out]; exact HQ.out
          · exact HN.out j hj (by omega))⟩
        case measure => simp [intOf]; omega
    · obtain rfl : k = xs.length := by omega
      go_wp2
      go_ret
      refine ⟨?_, hB⟩
      rw [idxP_none (fun j hj => HN.out j hj (by omega))]
      rfl
set_option maxHeartbeats 1000000 in
theorem gcontains_any (g : Nat) (lb : Array Value) (p : S71 → Bool) (eg : ∀ args w, (callFunc g args).run Tryz.prog w = .ok (.enter g args) w) (A : Option Addr) (c : Nat) (xs : List S71) (w : World) (hr : Kd.C k71 w A xs.length xs)
    (hp : ∀ (W : World) (s : S71), s ∈ xs → Below w.heap.size w W → Calls Tryz.prog g (#[] ++ #[.agg #[.string s.f0, .string s.f1]] ++ lb) W fun e w' => e = .returned (.bool (p s)) ∧ Below W.heap.size W w') :
    Calls Tryz.prog 126 #[.slice A xs.length c, .func (.func g) #[] lb] w fun e w' => e = .returned (.bool (xs.any p)) ∧ Below w.heap.size w w' := by
  have HC := Lib.hid (gidx_any g lb p eg A c xs w hr hp)
  rw [← idxP_any]
  clear hr hp
  generalize idxP p xs = i at *
  go_enter Tryz.func126, Tryz.ntmps126
  go_wp2_with fail
  refine HC.out.mono ?_
  rintro e w1 ⟨rfl, hb⟩
  have HB := Lib.hid hb; clear hb
  go_wp2
  go_ret
  exact ⟨rfl, HB.out⟩
theorem before_any (e k : ByteArray) (w : World) : Calls Tryz.prog 128 #[.string e, .string k] w fun r w' => r = .returned (.bool (!(decide (e = emptyB) || klt k e))) ∧ w' = w := by
  by_cases h : e = emptyB
  · have h1 : e.toList = ([] : List UInt8) := (toList_nil e).2 h
    rw [decide_eq_true h, Bool.true_or]
    clear h
    have d1 : (e.toList == ([] : List UInt8)) = true := beq_iff_eq.2 h1
    have d2 : (e.toList != ([] : List UInt8)) = false := bne_eq_false_iff_eq.2 h1
    clear h1
    go_enter Tryz.func128, Tryz.ntmps128
    go_wp2
    go_ret
    exact ⟨rfl, rfl⟩
  · have h1 : ¬ e.toList = ([] : List UInt8) := fun x => h ((toList_nil e).1 x)
    rw [decide_eq_false h, Bool.false_or, ← klt_list, ← bl_tot]
    clear h
    have d1 : (e.toList == ([] : List UInt8)) = false := beq_eq_false_iff_ne.2 h1
    have d2 : (e.toList != ([] : List UInt8)) = true := bne_iff_ne.2 h1
    clear h1
    go_enter Tryz.func128, Tryz.ntmps128
    go_wp2
    go_ret
    exact ⟨rfl, rfl⟩
set_option maxHeartbeats 1000000 in
theorem has1_any (s : S71) (k : ByteArray) (bk : Nat) (w : World) (hk : w.cell? ⟨bk, 0, none⟩ = some (.string k)) :
    Calls Tryz.prog 127 #[.agg #[.string s.f0, .string s.f1], .pointer (some ⟨bk, 0, none⟩)] w fun e w' => e = .returned (.bool (hasS s k)) ∧ Below w.heap.size w w' := by
  obtain ⟨w1, hw1⟩ : ∃ w1, w.alloc (.cells #[.string s.f0, .string s.f1] 71) = w1 := ⟨_, rfl⟩
  have hb : Below w.heap.size w w1 := hw1 ▸ (Below.refl _ _).alloc (Nat.le_refl _) _
  have hT : Blk w1 w.heap.size 71 #[.string s.f0, .string s.f1] := hw1 ▸ Blk.new w 71 _
  have t0 : w1.cell? ⟨w.heap.size, 0, none⟩ = some (.string s.f0) := hT.cell 0
  have t1 : w1.cell? ⟨w.heap.size, 1, none⟩ = some (.string s.f1) := hT.cell 1
  have t2 : w1.cell? ⟨bk, 0, none⟩ = some (.string k) := pw_cell_below hb hk
  have HC := Lib.hid (before_any s.f1 k w1)
  have HB := Lib.hid hb; clear hb hT hk
  unfold hasS
  rw [← klt_list k s.f0]
  generalize (decide (s.f1 = emptyB) || klt k s.f1) = z at *
  cases hq : Op.bytesLess k.toList s.f0.toList with
  | true =>
    have h8 : (Op.bytesLess s.f0.toList k.toList || (s.f0.toList == k.toList)) = false := by rw [bl_tot, hq]; rfl
    go_enter Tryz.func127, Tryz.ntmps127
    go_wp2
    go_ret
    exact ⟨rfl, HB.out⟩
  | false =>
    have h8 : (Op.bytesLess s.f0.toList k.toList || (s.f0.toList == k.toList)) = true := by rw [bl_tot, hq]; rfl
    go_enter Tryz.func127, Tryz.ntmps127
    go_wp2_with fail
    refine HC.out.mono ?_
    rintro e w2 ⟨rfl, rfl⟩
    go_wp2
    go_ret
    exact ⟨by simp, HB.out⟩
set_option maxHeartbeats 1000000 in
theorem spHas_any (A : Option Addr) (c : Nat) (l : List S71) (k : ByteArray) (w : World) (hr : Kd.C k71 w A l.length l) :
    Calls Tryz.prog 84 #[.slice A l.length c, .string k] w fun e w' => e = .returned (.bool (hasSs l k)) ∧ Below w.heap.size w w' := by
  obtain ⟨w1, hw1⟩ : ∃ w1, w.alloc (.cells #[.string k] 9) = w1 := ⟨_, rfl⟩
  have hb : Below w.heap.size w w1 := hw1 ▸ (Below.refl _ _).alloc (Nat.le_refl _) _
  have hT : Blk w1 w.heap.size 9 #[.string k] := hw1 ▸ Blk.new w 9 _
  have eg : ∀ args w, (callFunc 127 args).run Tryz.prog w = .ok (.enter 127 args) w := enters_of Tryz.func127 (by kernel_rfl) rfl
  have hmf : ∀ (fn : Fn) (first cap : Array Value) (w : World), (Instr.makeFunc fn first cap).run Tryz.prog w = .ok (.func fn first cap) w := fun _ _ _ _ => rfl
  have HC := Lib.hid (gcontains_any 127 #[.pointer (some ⟨w.heap.size, 0, none⟩)] (fun s => hasS s k) eg A c l w1 (Kd.C_below hr hb) (fun W s _ hB => has1_any s k w.heap.size W (pw_cell_below hB (hT.cell 0))))
  have HB := Lib.hid hb; clear hb hT hr eg
  unfold hasSs
  generalize l.any (fun s => hasS s k) = z at *
  go_enter Tryz.func84, Tryz.ntmps84
  go_wp2_with fail
  refine HC.out.mono ?_
  rintro e w2 ⟨rfl, hb2⟩
  have HB2 := Lib.hid (HB.out.trans (hb2.mono HB.out.size)); clear hb2
  go_wp2
  go_ret
  exact ⟨rfl, HB2.out⟩
end Go.Proofs.YtgmlenpcchhmbaaGreat.P
end
section
set_option linter.unusedVariables false
set_option linter.unusedSimpArgs false
namespace Go.Proofs.YtgmlenpcchhmbaaGreat.P
open Go.RowKit Go.Proofs.YtgmlenpcchhmbaaGreatW.PrintWords Go.Proofs.YtgmlenpcchhmbaaGreatW.PrintLast Go.Proofs.YtgmlenpcchhmbaaGreatW.PrintMore
set_option maxHeartbeats 1000000 in
theorem pick1_any (p : S61) (bs : Nat) (A : Option Addr) (c : Nat) (l : List S71) (w : World) (hs : w.cell? ⟨bs, 0, none⟩ = some (.slice A l.length c)) (hr : Kd.C k71 w A l.length l) :
    Calls Tryz.prog 83 #[.agg #[.string p.f0, .int .u64 p.f1], .pointer (some ⟨bs, 0, none⟩)] w fun e w' => e = .returned (.bool (!hasSs l p.f0)) ∧ Below w.heap.size w w' := by
  obtain ⟨w1, hw1⟩ : ∃ w1, w.alloc (.cells #[.string p.f0, .int .u64 p.f1] 61) = w1 := ⟨_, rfl⟩
  have hb : Below w.heap.size w w1 := hw1 ▸ (Below.refl _ _).alloc (Nat.le_refl _) _
  have hT : Blk w1 w.heap.size 61 #[.string p.f0, .int .u64 p.f1] := hw1 ▸ Blk.new w 61 _
  have t0 : w1.cell? ⟨w.heap.size, 0, none⟩ = some (.string p.f0) := hT.cell 0
  have t2 : w1.cell? ⟨bs, 0, none⟩ = some (.slice A l.length c) := pw_cell_below hb hs
  have HC := Lib.hid (spHas_any A c l p.f0 w1 (Kd.C_below hr hb))
  have HB := Lib.hid hb; clear hb hT hs hr
  generalize hasSs l p.f0 = z at *
  go_enter Tryz.func83, Tryz.ntmps83
  go_wp2_with fail
  refine HC.out.mono ?_
  rintro e w2 ⟨rfl, hb2⟩
  have HB2 := Lib.hid (HB.out.trans (hb2.mono HB.out.size)); clear hb2
  go_wp2
  go_ret
  exact ⟨rfl, HB2.out⟩
set_option maxHeartbeats 1000000 in
theorem txpick_any (A : Option Addr) (c : Nat) (data : List S61) (A' : Option Addr) (c' : Nat) (l : List S71) (w : World) (hr : Kd.C k61 w A data.length data) (hr' : Kd.C k71 w A' l.length l) (hb : data.length * 24 ≤ 140737488355328) :
    Calls Tryz.prog 34 #[.slice A data.length c, .slice A' l.length c'] w fun e w' => ∃ v, e = .returned v ∧ RowPr w' w.heap.size v (pickT l data) ∧ Below w.heap.size w w' := by
  obtain ⟨w1, hw1⟩ : ∃ w1, w.alloc (.cells #[.slice A' l.length c'] 40) = w1 := ⟨_, rfl⟩
  have hb1 : Below w.heap.size w w1 := hw1 ▸ (Below.refl _ _).alloc (Nat.le_refl _) _
  have hT : Blk w1 w.heap.size 40 #[.slice A' l.length c'] := hw1 ▸ Blk.new w 40 _
  have hsz : w.heap.size < w1.heap.size := hT.lt
  have eg : ∀ args w, (callFunc 83 args).run Tryz.prog w = .ok (.enter 83 args) w := enters_of Tryz.func83 (by kernel_rfl) rfl
  have hmf : ∀ (fn : Fn) (first cap : Array Value) (w : World), (Instr.makeFunc fn first cap).run Tryz.prog w = .ok (.func fn first cap) w := fun _ _ _ _ => rfl
  have HC := Lib.hid (clonePr_any A c data w1 (Kd.C_below hr hb1) hb)
  have HX := Lib.hid (And.intro hb1 (And.intro hT (And.intro (Kd.C_below hr' hb1) (And.intro eg hsz)))); clear hb1 hT hr hr' hb eg hsz
  go_enter Tryz.func34, Tryz.ntmps34
  go_wp2_with fail
  refine HC.out.mono ?_
  rintro e w2 ⟨v2, rfl, ho2, hb2⟩
  have HD := Lib.hid (delPr_own 83 #[] #[.pointer (some ⟨w.heap.size, 0, none⟩)] (fun p => !hasSs l p.f0) HX.out.2.2.2.1 w1.heap.size v2 data w2 w1 ho2 hb2 hb2.size
    (fun W s hs hW => pick1_any s w.heap.size A' c' l W (pw_cell_below hW (HX.out.2.1.cell 0)) (Kd.C_below HX.out.2.2.1 hW)))
  obtain ⟨A2, c2, rfl⟩ := own_slice ho2
  clear ho2 hb2
  go_wp2_with fail
  refine HD.out.mono ?_
  rintro e w3 ⟨v3, rfl, ho3, hb3, _, _⟩
  have HO := Lib.hid (And.intro ho3 hb3)
  obtain ⟨A3, c3, rfl⟩ := own_slice ho3
  clear ho3 hb3
  go_wp2
  go_ret
  refine ⟨_, rfl, ?_, HX.out.1.trans (HO.out.2.mono HX.out.1.size)⟩
  have := RowPr.lower HO.out.1 HX.out.1.size
  simpa [pickT] using this
end Go.Proofs.YtgmlenpcchhmbaaGreat.P
end
section
set_option linter.unusedVariables false
set_option linter.unusedSimpArgs false
namespace Go.Proofs.YtgmlenpcchhmbaaGreat.P
open Go.RowKit Go.Proofs.YtgmlenpcchhmbaaGreatW.PrintWords Go.Proofs.YtgmlenpcchhmbaaGreatW.PrintLast Go.Proofs.YtgmlenpcchhmbaaGreatW.PrintMore
theorem C_atS {w : World} {A : Option Addr} {n : Nat} {xs : List ByteArray} (h : Kd.C Kd.string w A n xs) (k : Nat) (hk : k < xs.length) : ∃ ad, A = some ad ∧ w.cell? (ad.add k) = some (.string xs[k]) := by
  obtain ⟨ad, hA, x0⟩ := Kd.at_string h (k : Int) (by omega) (by have := h.1; omega)
  have er : rdOf ByteArray.empty xs (k : Int) = xs[k] := by
    unfold rdOf
    rw [Int.toNat_natCast, List.getD_eq_getElem?_getD, List.getElem?_eq_getElem hk]
    rfl
  rw [er, Int.toNat_natCast] at x0
  exact ⟨ad, hA, x0⟩
def keySizes {V : Type} (l : List (ByteArray × V)) : Prop := ∀ x ∈ l, x.1.size ≤ 1000000
set_option maxHeartbeats 2000000 in
set_option maxRecDepth 100000 in
theorem sorted_any {w : World} {mb : Nat} {l : List (ByteArray × Int)} (hM : MS encN w mb l) (hn : l.length ≤ 1000000) (hs : keySizes l) :
    Calls Tryz.prog 143 #[.map (some mb)] w fun e w' => ∃ v, e = .returned v ∧ RowPr w' w.heap.size v (l.map ofA) ∧ Below w.heap.size w w' := by
  have hK := keysSN_any (some mb) w
  have hb1 : Below w.heap.size w (w.alloc (.cells #[.map (some mb)] 103)) := (Below.refl _ _).alloc (Nat.le_refl _) _
  have hS := sortedSN_any (Bm := w.heap.size) (hM.below hb1) hn (by simp) ((Blk.new w 103 #[.map (some mb)]).cell 0)
  have HK := Lib.hid hK
  have HS := Lib.hid hS
  have HX := Lib.hid (And.intro hM (And.intro hn (And.intro hs hb1)))
  clear hM hn hs hK hS hb1
  go_enter Tryz.func143, Tryz.ntmps143
  go_wp2_with fail
  refine HK.out.mono ?_
  rintro e w1 ⟨rfl, rfl⟩
  go_wp2_with fail
  refine HS.out.mono ?_
  rintro e w2 ⟨v2, rfl, hR2, hb2⟩
  obtain ⟨A2, c2, rfl, hc2, hC2⟩ := Kd.R_reads hR2
  have hB2 : Below w.heap.size w w2 := HX.out.2.2.2.trans (hb2.mono (by simp))
  have hlen : (l.map (·.1)).length = l.length := List.length_map _
  have hge := hB2.size
  have HY := Lib.hid (And.intro hC2 hB2)
  clear hR2 hC2 hb2 hB2 HS HK
  rw [hlen] at HY hc2 ⊢
  have hmx : l.length ≤ 1000000 := HX.out.2.1
  go_wp2
  go_loopw [2, 4, 9] (fun so _ i wr => ∃ (k : Nat) (A' : Option Addr) (c' : Nat), so = .slice A' k c' ∧ i = .int .i64 k ∧ k ≤ l.length ∧ RowKit.Hid (Kd.R k61 61 wr w2.heap.size (fun _ => True) (.slice A' k c') ((l.take k).map ofA) ∧ Below w2.heap.size w2 wr)) (fun _ _ i _ => l.length - (intOf i).toNat)
  case atStart => exact ⟨0, none, 0, rfl, rfl, Nat.zero_le _, Lib.hid ⟨Kd.R_nil _ _ _ _ _, Below.refl _ _⟩⟩
  case round =>
    obtain ⟨k, A', c', rfl, rfl, hk, HR⟩ := hrel
    have hbw : Below w.heap.size w wr := HY.out.2.trans (HR.out.2.mono hge)
    by_cases hlt : k < l.length
    · obtain ⟨ad, hA, d0⟩ := C_atS (Kd.C_below HY.out.1 HR.out.2) k (by rw [hlen]; exact hlt)
      subst hA
      rw [List.getElem_map] at d0
      have hx := (getL_some HX.out.1.1 (k := l[k].1) (v := l[k].2)).2 (List.getElem_mem hlt)
      have hsz := maxLen_ge (HX.out.2.2.1 l[k] (List.getElem_mem hlt))
      have hlk := (HX.out.1.below hbw).look1 Tryz.underlying103 (zeroNum _) hsz
      rw [hx] at hlk
      simp only [Option.map_some, Option.getD_some] at hlk
      have hst : (l.take (k + 1)).map ofA = (l.take k).map ofA ++ [ofA l[k]] := by rw [List.take_succ_eq_append_getElem hlt, List.map_append]; rfl
      generalize l[k] = x at *
      obtain ⟨x0, x1⟩ := x
      simp only at d0 hlk hsz hst
      have HN := Lib.hid (And.intro hst hbw)
      clear hst hx hsz hbw
      go_wp2_with (first | ((with_reducible refine gate_builtin (b := .append) (xs := #[.tmp 13, .tmp 19]) rfl ?_); at_builtin; refine stop_append rfl ?_))
      refine Lib.hid ?_
      refine Kd.R_append k61 (w0 := w2) w2.heap.size rfl (.tmp 13) (.tmp 19) 39 61 (.agg #[.string ⟨#[]⟩, .int .u64 0]) 24 rfl Tryz.underlying39 info61 rfl (by decide) (by decide) (.slice A' k c') ((l.take k).map ofA) ⟨x0, x1⟩ [.string x0, .int .u64 x1] (fun _ => True) (fun _ => False) rfl rfl (k61_mkM _ _ _ _) (fun _ h => h.elim) (fun _ _ => trivial) HR.out.1 HR.out.2 HR.out.2.size (by rw [List.length_map, List.length_take]; omega) ?_
      intro v9 w9 hS9 hB9 hg9 hat9
      have hln : ((l.take k).map ofA ++ [(⟨x0, x1⟩ : S61)]).length = k + 1 := by simp; omega
      obtain ⟨A9, c9, e9⟩ := Kd.R_slice hS9
      rw [hln] at e9
      have HN9 := Lib.hid (And.intro hS9 hB9)
      rw [e9] at HN9
      rw [e9]
      clear hS9 hB9 hg9 hat9 e9 hlk d0
      go_wp2_with fail
      go_roundw
      case rel => exact ⟨k + 1, A9, c9, rfl, by go_num, by omega, Lib.hid ⟨by rw [HN.out.1]; exact HN9.out.1, HN9.out.2⟩⟩
      case measure => simp [intOf]; omega
    · obtain rfl : k = l.length := by omega
      have HZ := Lib.hid (And.intro (Kd.R_lower HR.out.1 hge) hbw)
      rw [List.take_length] at HZ
      clear hbw
      go_wp2
      go_ret
      exact ⟨_, rfl, RowPr.of_R HZ.out.1, HZ.out.2⟩
theorem blk_held {W V : World} {B : Nat} {t : TypeId} {cs : Array Value} (_h : Below B W (V.alloc (.cells cs t))) : Blk (V.alloc (.cells cs t)) V.heap.size t cs := Blk.new V t cs
theorem blk_heldD {W V : World} {B : Nat} {t : TypeId} {cs : Array Value} (_h : Below B W (V.alloc (.cells cs t)).drew) : Blk (V.alloc (.cells cs t)).drew V.heap.size t cs := (Blk.new V t cs).drew
theorem below_held {W V : World} {B : Nat} {o : Obj} (_h : Below B W (V.alloc o)) : Below V.heap.size V (V.alloc o) := (Below.refl _ _).alloc (Nat.le_refl _) _
theorem Boxed.below {w W W' : World} {g mb cb : Nat} {s : St} {o : S63} {y : Bool} {n : Int} {v : Value} (h : Boxed w W g mb cb s o y n v) (hb : Below W.heap.size W W') : Boxed w W' g mb cb s o y n v :=
  ⟨h.upd.then_below hb, h.run.below hb, h.op.below hb h.op.lt, h.ans.below hb h.ans.lt⟩
theorem C_blkG {W : World} {b : Nat} (x : S71) (h : Blk W b 71 #[.string x.f0, .string x.f1]) : Kd.C k71 W (some ⟨b, 0, none⟩) [x].length [x] := by
  refine ⟨rfl, by simp, fun _ => ⟨_, rfl, fun j p hj => ?_⟩⟩
  rcases j with _ | j
  · obtain rfl : x = p := by simpa using hj
    refine ⟨[.string x.f0, .string x.f1], rfl, k71_mk W x, fun i u hu => ?_⟩
    rcases i with _ | i
    · simp only [List.getElem?_cons_zero, Option.some.injEq] at hu
      subst hu
      rw [show (⟨b, 0, none⟩ : Addr).add (0 * k71.sz + 0) = ⟨b, 0, none⟩ by rw [Nat.zero_mul, Nat.add_zero, add_plain]]
      exact h.cell 0
    · rcases i with _ | i
      · simp only [List.getElem?_cons_succ, List.getElem?_cons_zero, Option.some.injEq] at hu
        subst hu
        rw [show (⟨b, 0, none⟩ : Addr).add (0 * k71.sz + (0 + 1)) = ⟨b, 1, none⟩ by rw [Nat.zero_mul, Nat.zero_add, Nat.zero_add, add_plain]]
        exact h.cell 1
      · simp at hu
  · simp at hj
theorem txpick1 (A : Option Addr) (c : Nat) (data : List S61) (b : Nat) (x : S71) (w : World) (hr : Kd.C k61 w A data.length data) (hl : Blk w b 71 #[.string x.f0, .string x.f1]) (hb : data.length * 24 ≤ 140737488355328) :
    Calls Tryz.prog 34 #[.slice A data.length c, .slice (some ⟨b, 0, none⟩) 1 1] w fun e w' => ∃ v, e = .returned v ∧ RowPr w' w.heap.size v (pickT [x] data) ∧ Below w.heap.size w w' :=
  txpick_any A c data (some ⟨b, 0, none⟩) 1 [x] w hr (C_blkG x hl) hb
set_option maxHeartbeats 2000000 in
set_option maxRecDepth 100000 in
theorem rnscan_any {w : World} {g mb cb : Nat} {s : St} (h : RunIs w g mb cb s) (hs : s.d.length ≤ 1000000) (hz : keySizes s.d) (o : S63) : Calls Tryz.prog 110 #[ptrR g, opV o] w (StepOut w g mb cb ⟨true, 0, pickT [⟨o.f1, o.f2⟩] (s.d.map ofA)⟩ s) := by
  have hX := boxed h o
  obtain ⟨W, hW⟩ : ∃ W, ((w.alloc (.cells #[.int .i64 o.f0, .string o.f1, .string o.f2, .int .u64 o.f3] 63)).alloc (.cells #[.bool false, .int .u64 0, .slice none 0 0] 65)) = W := ⟨_, rfl⟩
  rw [hW] at hX
  have hlt := hX.lt h
  have hg : W.cell? ⟨g, 0, none⟩ = some (.map (some mb)) := hX.run.blk.cell 0
  have hk1 : W.cell? ⟨w.heap.size, 1, none⟩ = some (.string o.f1) := hX.op.cell 1
  have hk2 : W.cell? ⟨w.heap.size, 2, none⟩ = some (.string o.f2) := hX.op.cell 2
  have hso := fun (V : World) (hV : Below W.heap.size W V) => sorted_any (hX.run.d.below hV) hs hz
  have hdd : (s.d.map ofA).length * 24 ≤ 140737488355328 := by rw [List.length_map]; omega
  generalize s.d.map ofA = dd at *
  have HX := Lib.hid (And.intro hX (And.intro hlt (And.intro hso hdd))); clear h hX hlt hs hz hso hdd
  go_enter Tryz.func110, Tryz.ntmps110
  go_upto_region 1 with fail
  clear hW
  refine wp_region_last1_held (S := (fun V => Below W.heap.size W V ∧ V.cell? ⟨g, 0, none⟩ = some (.map (some mb)) ∧ V.cell? ⟨w.heap.size, 1, none⟩ = some (.string o.f1) ∧ V.cell? ⟨w.heap.size, 2, none⟩ = some (.string o.f2))) (l := [_, _, _, _, _, _, _, _, _, _, _, _, _]) (o := _) (by kernel_rfl) (by kernel_rfl) ?_
  simp only [List.size_toArray, List.length_cons, List.length_nil, Nat.zero_add, Nat.reduceAdd]
  have hHeld : ((fun V => Below W.heap.size W V ∧ V.cell? ⟨g, 0, none⟩ = some (.map (some mb)) ∧ V.cell? ⟨w.heap.size, 1, none⟩ = some (.string o.f1) ∧ V.cell? ⟨w.heap.size, 2, none⟩ = some (.string o.f2))) W.drew := ⟨below_drew (Below.refl _ _), hg, hk1, hk2⟩
  refine tk_ 0 hHeld ?_
  refine tk_ 1 hHeld ?_
  refine tk_ 2 hHeld ?_
  refine tk_ 3 hHeld ?_
  refine tk_ 5 hHeld ?_
  refine tk_ 6 hHeld ?_
  refine tk_ 7 hHeld ?_
  refine tk_ 8 hHeld ?_
  refine tk_ 9 hHeld ?_
  refine wpAnyH_ready (rs := [4, 10]) (by kernel_rfl) (by simp) ?_
  refine (AllReadyH.cons rfl (fun K hK => ?_) (AllReadyH.cons rfl (fun K hK => ?_) AllReadyH.nil))
  · go_simp
    refine (HX.out.2.2.1 _ hHeld.1).mono ?_
    rintro e w1 ⟨v1, rfl, ho1, hb1⟩
    obtain ⟨A1, c1, e1, hc1, hC1⟩ := Kd.R_reads ho1.R
    subst e1
    refine hK.out _ _ ?_ (fun hHeld => ?_)
    · exact ⟨hHeld.1.trans (hb1.mono hHeld.1.size), pw_cell_below hb1 hHeld.2.1, pw_cell_below hb1 hHeld.2.2.1, pw_cell_below hb1 hHeld.2.2.2⟩
    clear hK K
    have HP := Lib.hid hC1
    try (have hz := HL.out.below hb1 HL.out.lt; clear HL; have HL := Lib.hid hz; clear hz)
    clear hb1 ho1 hC1 hc1
    try simp only [List.getElem_toArray, List.getElem_cons_succ, List.getElem_cons_zero, Act.put, List.setIfInBounds_toArray, List.set_cons_zero, List.set_cons_succ]
    refine wpAnyH_ready (rs := [10]) (by kernel_rfl) (by simp) ?_
    refine (AllReadyH.cons rfl (fun K hK => ?_) AllReadyH.nil)
    go_simp
    refine hK.out _ _ ?_ (fun hHeld => ?_)
    · exact ⟨below_alloc hHeld.1 _, pw_cell_below (below_alloc (Below.refl _ _) _) hHeld.2.1, pw_cell_below (below_alloc (Below.refl _ _) _) hHeld.2.2.1, pw_cell_below (below_alloc (Below.refl _ _) _) hHeld.2.2.2⟩
    clear hK K
    first
      | have HL := Lib.hid (blk_held hHeld.1)
      | have HL := Lib.hid (blk_heldD hHeld.1)
    try (have hz := Kd.C_below HP.out (below_held hHeld.1); clear HP; have HP := Lib.hid hz; clear hz)
    try simp only [List.getElem_toArray, List.getElem_cons_succ, List.getElem_cons_zero, Act.put, List.setIfInBounds_toArray, List.set_cons_zero, List.set_cons_succ]
    refine wpAnyH_ready (rs := [11]) (by kernel_rfl) (by simp) ?_
    refine (AllReadyH.cons rfl (fun K hK => ?_) AllReadyH.nil)
    have hle := hHeld.1.size
    go_simp
    refine (txpick1 _ _ dd _ ⟨o.f1, o.f2⟩ _ HP.out HL.out HX.out.2.2.2).mono ?_
    rintro e w3 ⟨v3, rfl, ho3, hb3⟩
    obtain ⟨A3, c3, rfl⟩ := own_slice ho3
    refine hK.out _ _ ?_ (fun hHeld => ?_)
    · exact ⟨hHeld.1.trans (hb3.mono hHeld.1.size), pw_cell_below hb3 hHeld.2.1, pw_cell_below hb3 hHeld.2.2.1, pw_cell_below hb3 hHeld.2.2.2⟩
    clear hK K
    have HQ := Lib.hid (RowPr.lower ho3 hle)
    clear ho3 hb3 hle
    try simp only [List.getElem_toArray, List.getElem_cons_succ, List.getElem_cons_zero, Act.put, List.setIfInBounds_toArray, List.set_cons_zero, List.set_cons_succ]
    refine tk_ 12 hHeld ?_
    refine wpAnyH_done (by kernel_rfl) ?_ _
    refine lastPost_wp ?_
    have HX3 := Lib.hid (And.intro (HX.out.1.below hHeld.1) HX.out.2.1)
    clear hHeld
    have a0 : w3.cell? ⟨w.heap.size + 1, 0, none⟩ = some (.bool false) := HX3.out.1.ans.cell 0
    have a1 : w3.cell? ⟨w.heap.size + 1, 1, none⟩ = some (.int .u64 0) := HX3.out.1.ans.cell 1
    have a2 : w3.cell? ⟨w.heap.size + 1, 2, none⟩ = some (.slice none 0 0) := HX3.out.1.ans.cell 2
    have z0 := HX3.out.1.ans.frozen 0
    have z1 := HX3.out.1.ans.frozen 1
    have z2 := HX3.out.1.ans.frozen 2
    have hsz := HX.out.1.ans.lt
    have HR := Lib.hid (Kd.R_mono (Kd.R_bound (Kd.R_lower HQ.out.R (Nat.le_refl _))) (fun q hq => show q ≠ w.heap.size + 1 by have := hq.2.1; omega))
    clear hsz HQ
    go_wp2
    refine bodyPost_ret (results_cell_row (by rfl) _ _ (w.heap.size + 1) 65 #[.bool true, .int .u64 0, .slice A3 (pickT [⟨o.f1, o.f2⟩] dd).length c3] (0, 0) _ (by rfl) HX3.out.1.fin Tryz.underlying65 (by rfl) (by kernel_rfl)) rfl ?_
    exact HX3.out.1.out HX3.out.2 (Kd.R_lower HR.out (by have := HX.out.1.upd.size; omega))
  · go_simp
    refine hK.out _ _ ?_ (fun hHeld => ?_)
    · exact ⟨below_alloc hHeld.1 _, pw_cell_below (below_alloc (Below.refl _ _) _) hHeld.2.1, pw_cell_below (below_alloc (Below.refl _ _) _) hHeld.2.2.1, pw_cell_below (below_alloc (Below.refl _ _) _) hHeld.2.2.2⟩
    clear hK K
    first
      | have HL := Lib.hid (blk_held hHeld.1)
      | have HL := Lib.hid (blk_heldD hHeld.1)
    try (have hz := Kd.C_below HP.out (below_held hHeld.1); clear HP; have HP := Lib.hid hz; clear hz)
    try simp only [List.getElem_toArray, List.getElem_cons_succ, List.getElem_cons_zero, Act.put, List.setIfInBounds_toArray, List.set_cons_zero, List.set_cons_succ]
    refine wpAnyH_ready (rs := [4]) (by kernel_rfl) (by simp) ?_
    refine (AllReadyH.cons rfl (fun K hK => ?_) AllReadyH.nil)
    go_simp
    refine (HX.out.2.2.1 _ hHeld.1).mono ?_
    rintro e w1 ⟨v1, rfl, ho1, hb1⟩
    obtain ⟨A1, c1, e1, hc1, hC1⟩ := Kd.R_reads ho1.R
    subst e1
    refine hK.out _ _ ?_ (fun hHeld => ?_)
    · exact ⟨hHeld.1.trans (hb1.mono hHeld.1.size), pw_cell_below hb1 hHeld.2.1, pw_cell_below hb1 hHeld.2.2.1, pw_cell_below hb1 hHeld.2.2.2⟩
    clear hK K
    have HP := Lib.hid hC1
    try (have hz := HL.out.below hb1 HL.out.lt; clear HL; have HL := Lib.hid hz; clear hz)
    clear hb1 ho1 hC1 hc1
    try simp only [List.getElem_toArray, List.getElem_cons_succ, List.getElem_cons_zero, Act.put, List.setIfInBounds_toArray, List.set_cons_zero, List.set_cons_succ]
    refine wpAnyH_ready (rs := [11]) (by kernel_rfl) (by simp) ?_
    refine (AllReadyH.cons rfl (fun K hK => ?_) AllReadyH.nil)
    have hle := hHeld.1.size
    go_simp
    refine (txpick1 _ _ dd _ ⟨o.f1, o.f2⟩ _ HP.out HL.out HX.out.2.2.2).mono ?_
    rintro e w3 ⟨v3, rfl, ho3, hb3⟩
    obtain ⟨A3, c3, rfl⟩ := own_slice ho3
    refine hK.out _ _ ?_ (fun hHeld => ?_)
    · exact ⟨hHeld.1.trans (hb3.mono hHeld.1.size), pw_cell_below hb3 hHeld.2.1, pw_cell_below hb3 hHeld.2.2.1, pw_cell_below hb3 hHeld.2.2.2⟩
    clear hK K
    have HQ := Lib.hid (RowPr.lower ho3 hle)
    clear ho3 hb3 hle
    try simp only [List.getElem_toArray, List.getElem_cons_succ, List.getElem_cons_zero, Act.put, List.setIfInBounds_toArray, List.set_cons_zero, List.set_cons_succ]
    refine tk_ 12 hHeld ?_
    refine wpAnyH_done (by kernel_rfl) ?_ _
    refine lastPost_wp ?_
    have HX3 := Lib.hid (And.intro (HX.out.1.below hHeld.1) HX.out.2.1)
    clear hHeld
    have a0 : w3.cell? ⟨w.heap.size + 1, 0, none⟩ = some (.bool false) := HX3.out.1.ans.cell 0
    have a1 : w3.cell? ⟨w.heap.size + 1, 1, none⟩ = some (.int .u64 0) := HX3.out.1.ans.cell 1
    have a2 : w3.cell? ⟨w.heap.size + 1, 2, none⟩ = some (.slice none 0 0) := HX3.out.1.ans.cell 2
    have z0 := HX3.out.1.ans.frozen 0
    have z1 := HX3.out.1.ans.frozen 1
    have z2 := HX3.out.1.ans.frozen 2
    have hsz := HX.out.1.ans.lt
    have HR := Lib.hid (Kd.R_mono (Kd.R_bound (Kd.R_lower HQ.out.R (Nat.le_refl _))) (fun q hq => show q ≠ w.heap.size + 1 by have := hq.2.1; omega))
    clear hsz HQ
    go_wp2
    refine bodyPost_ret (results_cell_row (by rfl) _ _ (w.heap.size + 1) 65 #[.bool true, .int .u64 0, .slice A3 (pickT [⟨o.f1, o.f2⟩] dd).length c3] (0, 0) _ (by rfl) HX3.out.1.fin Tryz.underlying65 (by rfl) (by kernel_rfl)) rfl ?_
    exact HX3.out.1.out HX3.out.2 (Kd.R_lower HR.out (by have := HX.out.1.upd.size; omega))
end Go.Proofs.YtgmlenpcchhmbaaGreat.P
end
section
set_option linter.unusedVariables false
set_option linter.unusedSimpArgs false
namespace Go.Proofs.YtgmlenpcchhmbaaGreat.P
open Go.RowKit Go.Proofs.YtgmlenpcchhmbaaGreatW.PrintWords Go.Proofs.YtgmlenpcchhmbaaGreatW.PrintLast Go.Proofs.YtgmlenpcchhmbaaGreatW.PrintMore
def opOk (o : S63) : Prop := o.f1.size ≤ 1000000 ∧ o.f2.size ≤ 1000000
structure StFit (s : St) (n : Nat) : Prop where
  ok : s.ok
  dl : s.d.length ≤ n
  cl : s.c.length ≤ n
  dk : keySizes s.d
  ck : keySizes s.c
theorem putL_le {V : Type} {l : List (ByteArray × V)} (h : SortK l) (k : ByteArray) (v : V) : (putL l k v).length ≤ l.length + 1 := by
  rw [putL_len h]; split <;> omega
theorem delL_le {V : Type} (l : List (ByteArray × V)) (k : ByteArray) : (delL l k).length ≤ l.length := List.length_filter_le _ _
theorem keySizes_put {V : Type} {l : List (ByteArray × V)} (h : keySizes l) {k : ByteArray} (hk : k.size ≤ 1000000) (v : V) : keySizes (putL l k v) := fun x hx => by
  rcases mem_putL hx with rfl | hx
  · exact hk
  · exact h x hx
theorem StFit.put {s : St} {n : Nat} (h : StFit s n) {k : ByteArray} (hk : k.size ≤ 1000000) (v : Int) : StFit (s.put k v) (n + 1) :=
  ⟨St.ok_put h.ok k v, Nat.le_trans (putL_le h.ok.1 k v) (Nat.succ_le_succ h.dl), Nat.le_trans (putL_le h.ok.2.1 k true) (Nat.succ_le_succ h.cl), keySizes_put h.dk hk v, keySizes_put h.ck hk true⟩
theorem StFit.drop {s : St} {n : Nat} (h : StFit s n) {k : ByteArray} (hk : k.size ≤ 1000000) : StFit (s.drop k) (n + 1) :=
  ⟨St.ok_drop h.ok k, Nat.le_trans (delL_le s.d k) (Nat.le_succ_of_le h.dl), Nat.le_trans (putL_le h.ok.2.1 k true) (Nat.succ_le_succ h.cl), fun x hx => h.dk x (List.mem_filter.1 hx).1, keySizes_put h.ck hk true⟩
theorem StFit.mono {s : St} {n m : Nat} (h : StFit s n) (hm : n ≤ m) : StFit s m := ⟨h.ok, Nat.le_trans h.dl hm, Nat.le_trans h.cl hm, h.dk, h.ck⟩
theorem StFit.step {s : St} {n : Nat} (h : StFit s n) {o : S63} (ho : opOk o) : StFit (stepS o s) (n + 2) := by
  unfold stepS
  repeat' split
  all_goals first
    | exact h.mono (by omega)
    | exact ((h.put ho.1 _).put ho.2 _)
    | exact (h.put ho.1 _).mono (by omega)
    | exact (h.drop ho.1).mono (by omega)
theorem StFit.small {s : St} {n : Nat} (h : StFit s n) (hn : n ≤ 1000100) : s.small := ⟨by have := h.dl; omega, by have := h.cl; omega⟩
section
variable {w : World} {g mb cb : Nat} {s : St}
set_option maxHeartbeats 1000000 in
set_option maxRecDepth 100000 in
theorem do_get (h : RunIs w g mb cb s) (o : S63) (hk : o.f0 = 1) {a : S65} {s' : St} (hc : ∀ W, RunIs W g mb cb s → Calls Tryz.prog 109 #[ptrR g, opV o] W (StepOut W g mb cb a s')) : Calls Tryz.prog 67 #[ptrR g, opV o] w (StepOut w g mb cb a s') := by
  have hX := boxed h o
  obtain ⟨W, hW⟩ : ∃ W, ((w.alloc (.cells #[.int .i64 o.f0, .string o.f1, .string o.f2, .int .u64 o.f3] 63)).alloc (.cells #[.bool false, .int .u64 0, .slice none 0 0] 65)) = W := ⟨_, rfl⟩
  rw [hW] at hX
  have hlt := hX.lt h
  have hcc := hc W hX.run
  obtain ⟨x0, x1, x2, x3⟩ := o
  simp only at hk
  subst hk
  have k0 : W.cell? ⟨w.heap.size, 0, none⟩ = some (.int .i64 1) := hX.op.cell 0
  have k1 : W.cell? ⟨w.heap.size, 1, none⟩ = some (.string x1) := hX.op.cell 1
  have k2 : W.cell? ⟨w.heap.size, 2, none⟩ = some (.string x2) := hX.op.cell 2
  have k3 : W.cell? ⟨w.heap.size, 3, none⟩ = some (.int .u64 x3) := hX.op.cell 3
  have HC := Lib.hid hcc
  have HX := Lib.hid (And.intro hX (And.intro hlt (show w.heap.size + 1 < W.heap.size from hX.ans.lt))); clear h hX hlt hc hcc
  go_enter Tryz.func67, Tryz.ntmps67
  go_wp2_with fail
  refine HC.out.mono ?_
  rintro e w3 ⟨vs, rfl, hv, hr, hu⟩
  have HX3 := Lib.hid (And.intro (HX.out.1.put HX.out.2.1 hr hu) HX.out.2.1)
  have HV := Lib.hid (Kd.R_lower (Kd.R_mono (Kd.R_bound hv) (fun q hq => show q ≠ w.heap.size + 1 by have := hq.2.1; have := HX.out.2.2; omega)) (show w.heap.size ≤ W.heap.size by have := HX.out.2.2; omega))
  obtain ⟨A3, c3, rfl⟩ := Kd.R_slice hv
  clear hv hr hu hW k0 k1 k2 k3 HX HC
  have a0 : w3.cell? ⟨w.heap.size + 1, 0, none⟩ = some (.bool false) := HX3.out.1.ans.cell 0
  have a1 : w3.cell? ⟨w.heap.size + 1, 1, none⟩ = some (.int .u64 0) := HX3.out.1.ans.cell 1
  have a2 : w3.cell? ⟨w.heap.size + 1, 2, none⟩ = some (.slice none 0 0) := HX3.out.1.ans.cell 2
  have z0 := HX3.out.1.ans.frozen 0
  have z1 := HX3.out.1.ans.frozen 1
  have z2 := HX3.out.1.ans.frozen 2
  go_wp2
  refine bodyPost_ret (results_cell_row (by rfl) _ _ (w.heap.size + 1) 65 #[.bool a.f0, .int .u64 a.f1, .slice A3 a.f2.length c3] (0, 0) _ (by rfl) HX3.out.1.fin Tryz.underlying65 (by rfl) (by kernel_rfl)) rfl ?_
  exact HX3.out.1.out HX3.out.2 HV.out
set_option maxHeartbeats 1000000 in
set_option maxRecDepth 100000 in
theorem do_scan (h : RunIs w g mb cb s) (o : S63) (hk : o.f0 = 2) {a : S65} {s' : St} (hc : ∀ W, RunIs W g mb cb s → Calls Tryz.prog 110 #[ptrR g, opV o] W (StepOut W g mb cb a s')) : Calls Tryz.prog 67 #[ptrR g, opV o] w (StepOut w g mb cb a s') := by
  have hX := boxed h o
  obtain ⟨W, hW⟩ : ∃ W, ((w.alloc (.cells #[.int .i64 o.f0, .string o.f1, .string o.f2, .int .u64 o.f3] 63)).alloc (.cells #[.bool false, .int .u64 0, .slice none 0 0] 65)) = W := ⟨_, rfl⟩
  rw [hW] at hX
  have hlt := hX.lt h
  have hcc := hc W hX.run
  obtain ⟨x0, x1, x2, x3⟩ := o
  simp only at hk
  subst hk
  have k0 : W.cell? ⟨w.heap.size, 0, none⟩ = some (.int .i64 2) := hX.op.cell 0
  have k1 : W.cell? ⟨w.heap.size, 1, none⟩ = some (.string x1) := hX.op.cell 1
  have k2 : W.cell? ⟨w.heap.size, 2, none⟩ = some (.string x2) := hX.op.cell 2
  have k3 : W.cell? ⟨w.heap.size, 3, none⟩ = some (.int .u64 x3) := hX.op.cell 3
  have HC := Lib.hid hcc
  have HX := Lib.hid (And.intro hX (And.intro hlt (show w.heap.size + 1 < W.heap.size from hX.ans.lt))); clear h hX hlt hc hcc
  go_enter Tryz.func67, Tryz.ntmps67
  go_wp2_with fail
  refine HC.out.mono ?_
  rintro e w3 ⟨vs, rfl, hv, hr, hu⟩
  have HX3 := Lib.hid (And.intro (HX.out.1.put HX.out.2.1 hr hu) HX.out.2.1)
  have HV := Lib.hid (Kd.R_lower (Kd.R_mono (Kd.R_bound hv) (fun q hq => show q ≠ w.heap.size + 1 by have := hq.2.1; have := HX.out.2.2; omega)) (show w.heap.size ≤ W.heap.size by have := HX.out.2.2; omega))
  obtain ⟨A3, c3, rfl⟩ := Kd.R_slice hv
  clear hv hr hu hW k0 k1 k2 k3 HX HC
  have a0 : w3.cell? ⟨w.heap.size + 1, 0, none⟩ = some (.bool false) := HX3.out.1.ans.cell 0
  have a1 : w3.cell? ⟨w.heap.size + 1, 1, none⟩ = some (.int .u64 0) := HX3.out.1.ans.cell 1
  have a2 : w3.cell? ⟨w.heap.size + 1, 2, none⟩ = some (.slice none 0 0) := HX3.out.1.ans.cell 2
  have z0 := HX3.out.1.ans.frozen 0
  have z1 := HX3.out.1.ans.frozen 1
  have z2 := HX3.out.1.ans.frozen 2
  go_wp2
  refine bodyPost_ret (results_cell_row (by rfl) _ _ (w.heap.size + 1) 65 #[.bool a.f0, .int .u64 a.f1, .slice A3 a.f2.length c3] (0, 0) _ (by rfl) HX3.out.1.fin Tryz.underlying65 (by rfl) (by kernel_rfl)) rfl ?_
  exact HX3.out.1.out HX3.out.2 HV.out
set_option maxHeartbeats 1000000 in
set_option maxRecDepth 100000 in
theorem do_set (h : RunIs w g mb cb s) (o : S63) (hk : o.f0 = 3) {a : S65} {s' : St} (hc : ∀ W, RunIs W g mb cb s → Calls Tryz.prog 111 #[ptrR g, opV o] W (StepOut W g mb cb a s')) : Calls Tryz.prog 67 #[ptrR g, opV o] w (StepOut w g mb cb a s') := by
  have hX := boxed h o
  obtain ⟨W, hW⟩ : ∃ W, ((w.alloc (.cells #[.int .i64 o.f0, .string o.f1, .string o.f2, .int .u64 o.f3] 63)).alloc (.cells #[.bool false, .int .u64 0, .slice none 0 0] 65)) = W := ⟨_, rfl⟩
  rw [hW] at hX
  have hlt := hX.lt h
  have hcc := hc W hX.run
  obtain ⟨x0, x1, x2, x3⟩ := o
  simp only at hk
  subst hk
  have k0 : W.cell? ⟨w.heap.size, 0, none⟩ = some (.int .i64 3) := hX.op.cell 0
  have k1 : W.cell? ⟨w.heap.size, 1, none⟩ = some (.string x1) := hX.op.cell 1
  have k2 : W.cell? ⟨w.heap.size, 2, none⟩ = some (.string x2) := hX.op.cell 2
  have k3 : W.cell? ⟨w.heap.size, 3, none⟩ = some (.int .u64 x3) := hX.op.cell 3
  have HC := Lib.hid hcc
  have HX := Lib.hid (And.intro hX (And.intro hlt (show w.heap.size + 1 < W.heap.size from hX.ans.lt))); clear h hX hlt hc hcc
  go_enter Tryz.func67, Tryz.ntmps67
  go_wp2_with fail
  refine HC.out.mono ?_
  rintro e w3 ⟨vs, rfl, hv, hr, hu⟩
  have HX3 := Lib.hid (And.intro (HX.out.1.put HX.out.2.1 hr hu) HX.out.2.1)
  have HV := Lib.hid (Kd.R_lower (Kd.R_mono (Kd.R_bound hv) (fun q hq => show q ≠ w.heap.size + 1 by have := hq.2.1; have := HX.out.2.2; omega)) (show w.heap.size ≤ W.heap.size by have := HX.out.2.2; omega))
  obtain ⟨A3, c3, rfl⟩ := Kd.R_slice hv
  clear hv hr hu hW k0 k1 k2 k3 HX HC
  have a0 : w3.cell? ⟨w.heap.size + 1, 0, none⟩ = some (.bool false) := HX3.out.1.ans.cell 0
  have a1 : w3.cell? ⟨w.heap.size + 1, 1, none⟩ = some (.int .u64 0) := HX3.out.1.ans.cell 1
  have a2 : w3.cell? ⟨w.heap.size + 1, 2, none⟩ = some (.slice none 0 0) := HX3.out.1.ans.cell 2
  have z0 := HX3.out.1.ans.frozen 0
  have z1 := HX3.out.1.ans.frozen 1
  have z2 := HX3.out.1.ans.frozen 2
  go_wp2
  refine bodyPost_ret (results_cell_row (by rfl) _ _ (w.heap.size + 1) 65 #[.bool a.f0, .int .u64 a.f1, .slice A3 a.f2.length c3] (0, 0) _ (by rfl) HX3.out.1.fin Tryz.underlying65 (by rfl) (by kernel_rfl)) rfl ?_
  exact HX3.out.1.out HX3.out.2 HV.out
set_option maxHeartbeats 1000000 in
set_option maxRecDepth 100000 in
theorem do_add (h : RunIs w g mb cb s) (o : S63) (hk : o.f0 = 4) {a : S65} {s' : St} (hc : ∀ W, RunIs W g mb cb s → Calls Tryz.prog 112 #[ptrR g, opV o] W (StepOut W g mb cb a s')) : Calls Tryz.prog 67 #[ptrR g, opV o] w (StepOut w g mb cb a s') := by
  have hX := boxed h o
  obtain ⟨W, hW⟩ : ∃ W, ((w.alloc (.cells #[.int .i64 o.f0, .string o.f1, .string o.f2, .int .u64 o.f3] 63)).alloc (.cells #[.bool false, .int .u64 0, .slice none 0 0] 65)) = W := ⟨_, rfl⟩
  rw [hW] at hX
  have hlt := hX.lt h
  have hcc := hc W hX.run
  obtain ⟨x0, x1, x2, x3⟩ := o
  simp only at hk
  subst hk
  have k0 : W.cell? ⟨w.heap.size, 0, none⟩ = some (.int .i64 4) := hX.op.cell 0
  have k1 : W.cell? ⟨w.heap.size, 1, none⟩ = some (.string x1) := hX.op.cell 1
  have k2 : W.cell? ⟨w.heap.size, 2, none⟩ = some (.string x2) := hX.op.cell 2
  have k3 : W.cell? ⟨w.heap.size, 3, none⟩ = some (.int .u64 x3) := hX.op.cell 3
  have HC := Lib.hid hcc
  have HX := Lib.hid (And.intro hX (And.intro hlt (show w.heap.size + 1 < W.heap.size from hX.ans.lt))); clear h hX hlt hc hcc
  go_enter Tryz.func67, Tryz.ntmps67
  go_wp2_with fail
  refine HC.out.mono ?_
  rintro e w3 ⟨vs, rfl, hv, hr, hu⟩
  have HX3 := Lib.hid (And.intro (HX.out.1.put HX.out.2.1 hr hu) HX.out.2.1)
  have HV := Lib.hid (Kd.R_lower (Kd.R_mono (Kd.R_bound hv) (fun q hq => show q ≠ w.heap.size + 1 by have := hq.2.1; have := HX.out.2.2; omega)) (show w.heap.size ≤ W.heap.size by have := HX.out.2.2; omega))
  obtain ⟨A3, c3, rfl⟩ := Kd.R_slice hv
  clear hv hr hu hW k0 k1 k2 k3 HX HC
  have a0 : w3.cell? ⟨w.heap.size + 1, 0, none⟩ = some (.bool false) := HX3.out.1.ans.cell 0
  have a1 : w3.cell? ⟨w.heap.size + 1, 1, none⟩ = some (.int .u64 0) := HX3.out.1.ans.cell 1
  have a2 : w3.cell? ⟨w.heap.size + 1, 2, none⟩ = some (.slice none 0 0) := HX3.out.1.ans.cell 2
  have z0 := HX3.out.1.ans.frozen 0
  have z1 := HX3.out.1.ans.frozen 1
  have z2 := HX3.out.1.ans.frozen 2
  go_wp2
  refine bodyPost_ret (results_cell_row (by rfl) _ _ (w.heap.size + 1) 65 #[.bool a.f0, .int .u64 a.f1, .slice A3 a.f2.length c3] (0, 0) _ (by rfl) HX3.out.1.fin Tryz.underlying65 (by rfl) (by kernel_rfl)) rfl ?_
  exact HX3.out.1.out HX3.out.2 HV.out
set_option maxHeartbeats 1000000 in
set_option maxRecDepth 100000 in
theorem do_drop (h : RunIs w g mb cb s) (o : S63) (hk : o.f0 = 5) {a : S65} {s' : St} (hc : ∀ W, RunIs W g mb cb s → Calls Tryz.prog 113 #[ptrR g, opV o] W (StepOut W g mb cb a s')) : Calls Tryz.prog 67 #[ptrR g, opV o] w (StepOut w g mb cb a s') := by
  have hX := boxed h o
  obtain ⟨W, hW⟩ : ∃ W, ((w.alloc (.cells #[.int .i64 o.f0, .string o.f1, .string o.f2, .int .u64 o.f3] 63)).alloc (.cells #[.bool false, .int .u64 0, .slice none 0 0] 65)) = W := ⟨_, rfl⟩
  rw [hW] at hX
  have hlt := hX.lt h
  have hcc := hc W hX.run
  obtain ⟨x0, x1, x2, x3⟩ := o
  simp only at hk
  subst hk
  have k0 : W.cell? ⟨w.heap.size, 0, none⟩ = some (.int .i64 5) := hX.op.cell 0
  have k1 : W.cell? ⟨w.heap.size, 1, none⟩ = some (.string x1) := hX.op.cell 1
  have k2 : W.cell? ⟨w.heap.size, 2, none⟩ = some (.string x2) := hX.op.cell 2
  have k3 : W.cell? ⟨w.heap.size, 3, none⟩ = some (.int .u64 x3) := hX.op.cell 3
  have HC := Lib.hid hcc
  have HX := Lib.hid (And.intro hX (And.intro hlt (show w.heap.size + 1 < W.heap.size from hX.ans.lt))); clear h hX hlt hc hcc
  go_enter Tryz.func67, Tryz.ntmps67
  go_wp2_with fail
  refine HC.out.mono ?_
  rintro e w3 ⟨vs, rfl, hv, hr, hu⟩
  have HX3 := Lib.hid (And.intro (HX.out.1.put HX.out.2.1 hr hu) HX.out.2.1)
  have HV := Lib.hid (Kd.R_lower (Kd.R_mono (Kd.R_bound hv) (fun q hq => show q ≠ w.heap.size + 1 by have := hq.2.1; have := HX.out.2.2; omega)) (show w.heap.size ≤ W.heap.size by have := HX.out.2.2; omega))
  obtain ⟨A3, c3, rfl⟩ := Kd.R_slice hv
  clear hv hr hu hW k0 k1 k2 k3 HX HC
  have a0 : w3.cell? ⟨w.heap.size + 1, 0, none⟩ = some (.bool false) := HX3.out.1.ans.cell 0
  have a1 : w3.cell? ⟨w.heap.size + 1, 1, none⟩ = some (.int .u64 0) := HX3.out.1.ans.cell 1
  have a2 : w3.cell? ⟨w.heap.size + 1, 2, none⟩ = some (.slice none 0 0) := HX3.out.1.ans.cell 2
  have z0 := HX3.out.1.ans.frozen 0
  have z1 := HX3.out.1.ans.frozen 1
  have z2 := HX3.out.1.ans.frozen 2
  go_wp2
  refine bodyPost_ret (results_cell_row (by rfl) _ _ (w.heap.size + 1) 65 #[.bool a.f0, .int .u64 a.f1, .slice A3 a.f2.length c3] (0, 0) _ (by rfl) HX3.out.1.fin Tryz.underlying65 (by rfl) (by kernel_rfl)) rfl ?_
  exact HX3.out.1.out HX3.out.2 HV.out
set_option maxHeartbeats 1000000 in
set_option maxRecDepth 100000 in
theorem do_move (h : RunIs w g mb cb s) (o : S63) (hk : o.f0 = 6) {a : S65} {s' : St} (hc : ∀ W, RunIs W g mb cb s → Calls Tryz.prog 114 #[ptrR g, opV o] W (StepOut W g mb cb a s')) : Calls Tryz.prog 67 #[ptrR g, opV o] w (StepOut w g mb cb a s') := by
  have hX := boxed h o
  obtain ⟨W, hW⟩ : ∃ W, ((w.alloc (.cells #[.int .i64 o.f0, .string o.f1, .string o.f2, .int .u64 o.f3] 63)).alloc (.cells #[.bool false, .int .u64 0, .slice none 0 0] 65)) = W := ⟨_, rfl⟩
  rw [hW] at hX
  have hlt := hX.lt h
  have hcc := hc W hX.run
  obtain ⟨x0, x1, x2, x3⟩ := o
  simp only at hk
  subst hk
  have k0 : W.cell? ⟨w.heap.size, 0, none⟩ = some (.int .i64 6) := hX.op.cell 0
  have k1 : W.cell? ⟨w.heap.size, 1, none⟩ = some (.string x1) := hX.op.cell 1
  have k2 : W.cell? ⟨w.heap.size, 2, none⟩ = some (.string x2) := hX.op.cell 2
  have k3 : W.cell? ⟨w.heap.size, 3, none⟩ = some (.int .u64 x3) := hX.op.cell 3
  have HC := Lib.hid hcc
  have HX := Lib.hid (And.intro hX (And.intro hlt (show w.heap.size + 1 < W.heap.size from hX.ans.lt))); clear h hX hlt hc hcc
  go_enter Tryz.func67, Tryz.ntmps67
  go_wp2_with fail
  refine HC.out.mono ?_
  rintro e w3 ⟨vs, rfl, hv, hr, hu⟩
  have HX3 := Lib.hid (And.intro (HX.out.1.put HX.out.2.1 hr hu) HX.out.2.1)
  have HV := Lib.hid (Kd.R_lower (Kd.R_mono (Kd.R_bound hv) (fun q hq => show q ≠ w.heap.size + 1 by have := hq.2.1; have := HX.out.2.2; omega)) (show w.heap.size ≤ W.heap.size by have := HX.out.2.2; omega))
  obtain ⟨A3, c3, rfl⟩ := Kd.R_slice hv
  clear hv hr hu hW k0 k1 k2 k3 HX HC
  have a0 : w3.cell? ⟨w.heap.size + 1, 0, none⟩ = some (.bool false) := HX3.out.1.ans.cell 0
  have a1 : w3.cell? ⟨w.heap.size + 1, 1, none⟩ = some (.int .u64 0) := HX3.out.1.ans.cell 1
  have a2 : w3.cell? ⟨w.heap.size + 1, 2, none⟩ = some (.slice none 0 0) := HX3.out.1.ans.cell 2
  have z0 := HX3.out.1.ans.frozen 0
  have z1 := HX3.out.1.ans.frozen 1
  have z2 := HX3.out.1.ans.frozen 2
  go_wp2
  refine bodyPost_ret (results_cell_row (by rfl) _ _ (w.heap.size + 1) 65 #[.bool a.f0, .int .u64 a.f1, .slice A3 a.f2.length c3] (0, 0) _ (by rfl) HX3.out.1.fin Tryz.underlying65 (by rfl) (by kernel_rfl)) rfl ?_
  exact HX3.out.1.out HX3.out.2 HV.out
set_option maxHeartbeats 1000000 in
set_option maxRecDepth 100000 in
theorem do_none (h : RunIs w g mb cb s) (o : S63) (h1 : o.f0 ≠ 1) (h2 : o.f0 ≠ 2) (h3 : o.f0 ≠ 3) (h4 : o.f0 ≠ 4) (h5 : o.f0 ≠ 5) (h6 : o.f0 ≠ 6) : Calls Tryz.prog 67 #[ptrR g, opV o] w (StepOut w g mb cb ⟨false, 0, []⟩ s) := by
  have hX := boxed h o
  obtain ⟨w3, hW⟩ : ∃ w3, ((w.alloc (.cells #[.int .i64 o.f0, .string o.f1, .string o.f2, .int .u64 o.f3] 63)).alloc (.cells #[.bool false, .int .u64 0, .slice none 0 0] 65)) = w3 := ⟨_, rfl⟩
  rw [hW] at hX
  have hlt := hX.lt h
  have k0 : w3.cell? ⟨w.heap.size, 0, none⟩ = some (.int .i64 o.f0) := hX.op.cell 0
  have HX3 := Lib.hid (And.intro hX hlt); clear h hX hlt
  have d1 : (o.f0 == 1) = false := beq_eq_false_iff_ne.2 h1
  have d2 : (o.f0 == 2) = false := beq_eq_false_iff_ne.2 h2
  have d3 : (o.f0 == 3) = false := beq_eq_false_iff_ne.2 h3
  have d4 : (o.f0 == 4) = false := beq_eq_false_iff_ne.2 h4
  have d5 : (o.f0 == 5) = false := beq_eq_false_iff_ne.2 h5
  have d6 : (o.f0 == 6) = false := beq_eq_false_iff_ne.2 h6
  clear h1 h2 h3 h4 h5 h6
  have a0 : w3.cell? ⟨w.heap.size + 1, 0, none⟩ = some (.bool false) := HX3.out.1.ans.cell 0
  have a1 : w3.cell? ⟨w.heap.size + 1, 1, none⟩ = some (.int .u64 0) := HX3.out.1.ans.cell 1
  have a2 : w3.cell? ⟨w.heap.size + 1, 2, none⟩ = some (.slice none 0 0) := HX3.out.1.ans.cell 2
  have z0 := HX3.out.1.ans.frozen 0
  have z1 := HX3.out.1.ans.frozen 1
  have z2 := HX3.out.1.ans.frozen 2
  go_enter Tryz.func67, Tryz.ntmps67
  go_wp2
  refine bodyPost_ret (results_cell_row (by rfl) _ _ (w.heap.size + 1) 65 #[.bool false, .int .u64 0, .slice none 0 0] (0, 0) _ (by rfl) HX3.out.1.fin Tryz.underlying65 (by rfl) (by kernel_rfl)) rfl ?_
  exact HX3.out.1.out HX3.out.2 (Kd.R_nil _ _ _ _ _)
theorem rndo_any (h : RunIs w g mb cb s) {n : Nat} (hf : StFit s n) (hn : n ≤ 1000000) (o : S63) (ho : opOk o) : Calls Tryz.prog 67 #[ptrR g, opV o] w (StepOut w g mb cb (stepA o s) (stepS o s)) := by
  have hm1 := maxLen_ge ho.1
  have hm2 := maxLen_ge ho.2
  have hs := hf.small (by omega)
  have hs2 : ∀ k n, (s.put k n).small := fun k v => ⟨Nat.le_trans (putL_le hf.ok.1 k v) (by have := hf.dl; omega), Nat.le_trans (putL_le hf.ok.2.1 k true) (by have := hf.cl; omega)⟩
  by_cases h1 : o.f0 = 1
  · rw [show stepA o s = ⟨s.has o.f1, s.at o.f1, []⟩ by unfold stepA; rw [if_pos h1], show stepS o s = s by unfold stepS; simp [h1]]
    exact do_get h o h1 fun W hW => rnget_any hW o hm1
  by_cases h2 : o.f0 = 2
  · rw [show stepA o s = ⟨true, 0, pickT [⟨o.f1, o.f2⟩] (s.d.map ofA)⟩ by unfold stepA; rw [if_neg h1, if_pos h2], show stepS o s = s by unfold stepS; simp [h2]]
    exact do_scan h o h2 fun W hW => rnscan_any hW (Nat.le_trans hf.dl hn) hf.dk o
  by_cases h3 : o.f0 = 3
  · rw [show stepA o s = ⟨true, 0, []⟩ by unfold stepA; simp [h3], show stepS o s = s.put o.f1 o.f3 by unfold stepS; simp [h3]]
    exact do_set h o h3 fun W hW => rnset_any hW hs o hm1
  by_cases h4 : o.f0 = 4
  · rw [show stepA o s = ⟨s.has o.f1, addN (s.at o.f1) o.f3, []⟩ by unfold stepA; simp [h4], show stepS o s = s.put o.f1 (addN (s.at o.f1) o.f3) by unfold stepS; simp [h4]]
    exact do_add h o h4 fun W hW => rnadd_any hW hs o hm1
  by_cases h5 : o.f0 = 5
  · rw [show stepA o s = ⟨s.has o.f1, 0, []⟩ by unfold stepA; simp [h5], show stepS o s = s.drop o.f1 by unfold stepS; simp [h5]]
    exact do_drop h o h5 fun W hW => rndrop_any hW hs o hm1
  by_cases h6 : o.f0 = 6
  · cases c1 : geN (s.at o.f1) o.f3 with
    | false =>
      rw [show stepA o s = ⟨false, 0, []⟩ by unfold stepA; simp [h6, c1], show stepS o s = s by unfold stepS; simp [h6, c1]]
      exact do_move h o h6 fun W hW => rnmove_no1 hW o hm1 c1
    | true =>
      cases c2 : geN o.f3 0 with
      | false =>
        rw [show stepA o s = ⟨false, 0, []⟩ by unfold stepA; simp [h6, c1, c2], show stepS o s = s by unfold stepS; simp [h6, c1, c2]]
        exact do_move h o h6 fun W hW => rnmove_no2 hW o hm1 c1 c2
      | true =>
        rw [show stepA o s = ⟨true, 0, []⟩ by unfold stepA; simp [h6, c1, c2], show stepS o s = (s.put o.f1 (addN (s.at o.f1) (negN o.f3))).put o.f2 (addN ((s.put o.f1 (addN (s.at o.f1) (negN o.f3))).at o.f2) o.f3) by unfold stepS; simp [h6, c1, c2]]
        exact do_move h o h6 fun W hW => rnmove_yes hW hs hs2 o hm1 hm2 c1 c2
  · rw [show stepA o s = ⟨false, 0, []⟩ by unfold stepA; simp [h1, h2, h3, h4, h5, h6], show stepS o s = s by unfold stepS; simp [h3, h4, h5, h6]]
    exact do_none h o h1 h2 h3 h4 h5 h6
end
end Go.Proofs.YtgmlenpcchhmbaaGreat.P
end
section
set_option linter.unusedVariables false
set_option linter.unusedSimpArgs false
namespace Go.Proofs.YtgmlenpcchhmbaaGreat.P
open Go.RowKit Go.Proofs.YtgmlenpcchhmbaaGreatW.PrintWords Go.Proofs.YtgmlenpcchhmbaaGreatW.PrintLast Go.Proofs.YtgmlenpcchhmbaaGreatW.PrintMore
theorem fit_run : ∀ (l : List S63) {s : St} {n : Nat}, StFit s n → (∀ o ∈ l, opOk o) → StFit (runS l s) (n + 2 * l.length)
  | [], _, _, h, _ => h
  | o :: l, _, _, h, ho => (fit_run l (h.step (ho o (List.mem_cons_self ..))) (fun p hp => ho p (List.mem_cons_of_mem _ hp))).mono (by rw [List.length_cons]; omega)
theorem fit_take (l : List S63) {s : St} {n : Nat} (h : StFit s n) (ho : ∀ o ∈ l, opOk o) (k : Nat) : StFit (runS (l.take k) s) (n + 2 * l.length) :=
  (fit_run (l.take k) h (fun p hp => ho p (List.mem_of_mem_take hp))).mono (by rw [List.length_take]; omega)
theorem start_fit {data : List S61} (h : keysOk data) : StFit (startT data) data.length := by
  refine ⟨start_ok data, mapT_len data, Nat.zero_le _, ?_, fun x hx => by cases hx⟩
  have key : ∀ (d : List S61) (l : List (ByteArray × Int)), (∀ p ∈ d, p.f0.size ≤ 1000000) → keySizes l → keySizes (d.foldl (fun l p => putL l p.f0 p.f1) l) := by
    intro d
    induction d with
    | nil => intro l _ hl; exact hl
    | cons p d ih => intro l hd hl; exact ih _ (fun q hq => hd q (List.mem_cons_of_mem _ hq)) (keySizes_put hl (hd p (List.mem_cons_self ..)) _)
  exact key data [] h.2 (fun x hx => by cases hx)
def wrOf (d : List (ByteArray × Int)) (x : ByteArray × Bool) : S69 := ⟨x.1, (getL d x.1).getD 0, (getL d x.1).isNone⟩
set_option maxHeartbeats 4000000 in
set_option maxRecDepth 100000 in
theorem eval_any (A : Option Addr) (c : Nat) (l : List S63) (A' : Option Addr) (c' : Nat) (data : List S61) (w : World) (hr : Kd.C k63 w A l.length l) (hr' : Kd.C k61 w A' data.length data) (hl : l.length ≤ 1000) (ho : ∀ o ∈ l, opOk o) (hd : keysOk data) (hd2 : data.length ≤ 900000) :
    Calls Tryz.prog 26 #[.slice A l.length c, .slice A' data.length c'] w fun e w' => ∃ v1 v2, e = .returned (.tuple #[v1, v2]) ∧ Kd.R k69 69 w' w.heap.size (fun _ => True) v1 (writesT (runS l (startT data))) ∧ Kd.S k65 65 w' w.heap.size (fun _ => True) v2 (runA l (startT data)) ∧ Below w.heap.size w w' := by
  have HM := Lib.hid (mapped_any A' c' data w hr' hd)
  have HF := Lib.hid (fun k => fit_take l (start_fit hd) ho k)
  have HX := Lib.hid (And.intro hr (And.intro ho (And.intro hl hd2)))
  have hmx := Kd.C_max hr
  clear hr hr' hd ho
  have hmm := @run_makeMap Tryz.prog
  go_enter Tryz.func26, Tryz.ntmps26
  go_wp2_with fail
  refine HM.out.mono ?_
  rintro e w1 ⟨rfl, hm1, hb1⟩
  have hlt1 := hm1.lt
  obtain ⟨w3, hw3⟩ : ∃ w3, (w1.alloc (.map #[] 0)).alloc (.cells #[.map (some w.heap.size), .map (some w1.heap.size)] 107) = w3 := ⟨_, rfl⟩
  have hba : Below w1.heap.size w1 (w1.alloc (.map #[] 0)) := (Below.refl _ _).alloc (Nat.le_refl _) _
  have hbb : Below w1.heap.size w1 w3 := hw3 ▸ hba.alloc (by simp) _
  have hrun : RunIs w3 (w1.heap.size + 1) w.heap.size w1.heap.size (startT data) := by
    refine ⟨?_, by omega, hm1.below hbb, ?_⟩
    · have := Blk.new (w1.alloc (.map #[] 0)) 107 #[.map (some w.heap.size), .map (some w1.heap.size)]
      rw [hw3] at this
      simpa using this
    · have := (MS.made encB w1).below (w' := w3) (hw3 ▸ (Below.refl _ _).alloc (Nat.le_refl _) _)
      exact this
  have hgz : w.heap.size < w1.heap.size := hlt1
  have HR := Lib.hid (And.intro hrun (hb1.trans (hbb.mono hb1.size)))
  clear hm1 hlt1 hba hbb hrun HM
  go_wp2
  go_loopw [5, 8, 20] (fun so _ i wr => ∃ (k : Nat) (A2 : Option Addr) (c2 : Nat), so = .slice A2 k c2 ∧ i = .int .i64 k ∧ k ≤ l.length ∧ RowKit.Hid (RunIs wr (w1.heap.size + 1) w.heap.size w1.heap.size (runS (l.take k) (startT data)) ∧ Kd.S k65 65 wr w.heap.size (fun q => q ≠ w1.heap.size + 1 ∧ q ≠ w.heap.size ∧ q ≠ w1.heap.size) (.slice A2 k c2) (runA (l.take k) (startT data)) ∧ Below w.heap.size w wr)) (fun _ _ i _ => l.length - (intOf i).toNat)
  case atStart => exact ⟨0, none, 0, rfl, rfl, Nat.zero_le _, Lib.hid ⟨HR.out.1, Kd.S_nil _ _ _ _ _, HR.out.2⟩⟩
  case round =>
    obtain ⟨k, A2, c2, rfl, rfl, hk, HS⟩ := hrel
    by_cases hlt : k < l.length
    · obtain ⟨ad, hA, d0, d1, d2, d3⟩ := C_atO (Kd.C_below HX.out.1 HS.out.2.2) k hlt
      subst hA
      have hoo := HX.out.2.1 l[k] (List.getElem_mem hlt)
      have hsA : runA (l.take (k + 1)) (startT data) = runA (l.take k) (startT data) ++ [stepA l[k] (runS (l.take k) (startT data))] := by rw [List.take_succ_eq_append_getElem hlt, runA_snoc]
      have hsS : runS (l.take (k + 1)) (startT data) = stepS l[k] (runS (l.take k) (startT data)) := by rw [List.take_succ_eq_append_getElem hlt, runS_snoc]
      have hfit := HF.out k
      have hlenA : (runA (l.take k) (startT data)).length = k := by rw [runA_len, List.length_take]; omega
      generalize l[k] = x at *
      generalize runS (l.take k) (startT data) = s at *
      generalize runA (l.take k) (startT data) = an at *
      generalize hsa : stepA x s = a at *
      generalize hss : stepS x s = s' at *
      obtain ⟨W, hW⟩ : ∃ W, wr.alloc (.cells #[.int .i64 x.f0, .string x.f1, .string x.f2, .int .u64 x.f3] 63) = W := ⟨_, rfl⟩
      have hbW : Below wr.heap.size wr W := hW ▸ (Below.refl _ _).alloc (Nat.le_refl _) _
      have hTW : Blk W wr.heap.size 63 #[.int .i64 x.f0, .string x.f1, .string x.f2, .int .u64 x.f3] := hW ▸ Blk.new wr 63 _
      have t0 : W.cell? ⟨wr.heap.size, 0, none⟩ = some (.int .i64 x.f0) := hTW.cell 0
      have t1 : W.cell? ⟨wr.heap.size, 1, none⟩ = some (.string x.f1) := hTW.cell 1
      have t2 : W.cell? ⟨wr.heap.size, 2, none⟩ = some (.string x.f2) := hTW.cell 2
      have t3 : W.cell? ⟨wr.heap.size, 3, none⟩ = some (.int .u64 x.f3) := hTW.cell 3
      have hdo := rndo_any (HS.out.1.below hbW) hfit (by have := HX.out.2.2; omega) x hoo
      rw [hsa, hss] at hdo
      have HD := Lib.hid hdo
      have HN := Lib.hid (And.intro hsA (And.intro hsS (And.intro hlenA (And.intro hbW hTW.lt))))
      clear hdo hsA hsS hlenA hbW hTW hfit hoo hsa hss
      go_wp2_with fail
      refine HD.out.mono ?_
      rintro e w4 ⟨vs, rfl, hv, hr4, hu4⟩
      obtain ⟨A4, c4, rfl⟩ := Kd.R_slice hv
      have hlv : ∀ q, (Value.slice A2 k c2).ownBlock = some q → q < wr.heap.size := Kd.S_lt HS.out.2.1
      have hszW : wr.heap.size ≤ W.heap.size := HN.out.2.2.2.1.size
      have hin : w1.heap.size + 1 < wr.heap.size := HS.out.1.blk.lt
      have hsw : w.heap.size ≤ wr.heap.size := HS.out.2.2.size
      have hB4 : Below w.heap.size w w4 := (HS.out.2.2.trans (HN.out.2.2.2.1.mono hsw)).trans (hu4.below (by omega) (fun q hq e => by omega))
      have H4 := Lib.hid (And.intro hv (And.intro hr4 (And.intro hu4 (And.intro hB4 hlv))))
      clear hv hr4 hu4 hB4 hlv t0 t1 t2 t3 hW HD
      go_wp2_with (first | ((with_reducible refine gate_builtin (b := .append) (xs := #[.tmp 24, .tmp 28]) rfl ?_); at_builtin; refine stop_append rfl ?_))
      refine Lib.hid ?_
      refine Kd.S_append k65 (w0 := w) w.heap.size rfl (.tmp 24) (.tmp 28) 44 65 (.agg #[.bool false, .int .u64 0, .slice none 0 0]) 40 rfl Tryz.underlying44 info65 rfl (by decide) (by decide) (.slice A2 k c2) an a [.bool a.f0, .int .u64 a.f1, .slice A4 a.f2.length c4] (fun q => q ≠ w1.heap.size + 1 ∧ q ≠ w.heap.size ∧ q ≠ w1.heap.size) (fun q => W.heap.size ≤ q) rfl rfl (k65_mkM _ _ _ _ (Kd.R_lower (Kd.R_mono (Kd.R_bound H4.out.1) (fun q hq => hq.2.1)) (by omega))) ?_ ?_ ?_ H4.out.2.2.2.1 H4.out.2.2.2.1.size ?_ ?_
      · intro q hq
        exact ⟨⟨by omega, by omega, by omega⟩, fun e => by have := H4.out.2.2.2.2 q e.symm; omega⟩
      · intro q hq
        have := H4.out.2.2.1.size
        exact ⟨by omega, by omega, by omega⟩
      · refine Kd.S_step (Kd.S_mono (Kd.S_bound HS.out.2.1) (fun q hq => ⟨hq.1, by have := hq.2.2.1; omega⟩)) (fun q hq hql => ?_)
        exact (H4.out.2.2.1.block q (by omega) (fun e => by rcases e with e | e; exact hq.1.2.1 e; exact hq.1.2.2 e)).trans (HN.out.2.2.2.1.block q hql)
      · have := HN.out.2.2.1; have := HX.out.2.2; omega
      intro v5 w5 hS5 hB5 hg5 hat5
      have hln : (an ++ [a]).length = k + 1 := by rw [List.length_append, HN.out.2.2.1]; rfl
      obtain ⟨A5, c5, e5⟩ := Kd.S_slice hS5
      rw [hln] at e5
      have hr5 : RunIs w5 (w1.heap.size + 1) w.heap.size w1.heap.size s' := by
        have hu5 : Upd w4 w5 (fun q => some q = (Value.slice A2 k c2).ownBlock) := Upd.of_grown hg5 (fun q hq => hq.symm)
        exact H4.out.2.1.upd hu5 (fun h => ((Kd.S_R HS.out.2.1).1 _ h.symm).1 rfl) (fun h => ((Kd.S_R HS.out.2.1).1 _ h.symm).2.1 rfl) (fun h => ((Kd.S_R HS.out.2.1).1 _ h.symm).2.2 rfl)
      have HN5 := Lib.hid (And.intro hS5 (And.intro hB5 hr5))
      rw [e5] at HN5
      rw [e5]
      clear hS5 hB5 hg5 hat5 e5 hr5
      go_wp2_with fail
      go_roundw
      case rel => exact ⟨k + 1, A5, c5, rfl, by go_num, by omega, Lib.hid ⟨by rw [HN.out.2.1]; exact HN5.out.2.2, by rw [HN.out.1]; exact HN5.out.1, HN5.out.2.1⟩⟩
      case measure => simp [intOf]; omega
    · obtain rfl : k = l.length := by omega
      have hfit := HF.out l.length
      rw [List.take_length] at HS hfit
      obtain ⟨s, hse⟩ : ∃ s, runS l (startT data) = s := ⟨_, rfl⟩
      obtain ⟨an, hae⟩ : ∃ an, runA l (startT data) = an := ⟨_, rfl⟩
      rw [hse] at HS hfit
      rw [hae] at HS
      have HE := Lib.hid (And.intro hse hae)
      clear hse hae
      have HF2 := Lib.hid hfit
      have hcl : s.c.length ≤ 1000000 := by have := hfit.cl; have := HX.out.2.2; omega
      have hb5 : Below wr.heap.size wr (wr.alloc (.cells #[.map (some w1.heap.size)] 105)) := (Below.refl _ _).alloc (Nat.le_refl _) _
      have HK := Lib.hid (keysSB_any (some w1.heap.size) wr)
      have HSO := Lib.hid (sortedSB_any (Bm := wr.heap.size) (HS.out.1.c.below hb5) hcl (by simp) ((Blk.new wr 105 #[.map (some w1.heap.size)]).cell 0))
      have HB5 := Lib.hid hb5
      have hr1 : wr.cell? ⟨w1.heap.size + 1, 1, none⟩ = some (.map (some w1.heap.size)) := HS.out.1.blk.cell 1
      clear hfit HF HR hb5
      go_wp2_with fail
      refine HK.out.mono ?_
      rintro e w5 ⟨rfl, rfl⟩
      go_wp2_with fail
      refine HSO.out.mono ?_
      rintro e w6 ⟨v6, rfl, hR6, hb6⟩
      obtain ⟨A6, c6, rfl, hc6, hC6⟩ := Kd.R_reads hR6
      have hB6 : Below wr.heap.size wr w6 := HB5.out.trans (hb6.mono (by simp))
      have hlen : (s.c.map (·.1)).length = s.c.length := List.length_map _
      have HY := Lib.hid (And.intro hC6 (And.intro hB6 (And.intro (HS.out.2.2.trans (hB6.mono HS.out.2.2.size)) HS.out.1)))
      have hge := hB6.size
      clear hR6 hC6 hb6 hB6 HSO HK hr1
      rw [hlen] at HY hc6 ⊢
      go_wp2
      go_loopw [4, 10, 11, 12, 38, 42] (fun so _ _ _ i _ wq => ∃ (k : Nat) (A7 : Option Addr) (c7 : Nat), so = .slice A7 k c7 ∧ i = .int .i64 k ∧ k ≤ s.c.length ∧ RowKit.Hid (Kd.R k69 69 wq w6.heap.size (fun _ => True) (.slice A7 k c7) ((s.c.take k).map (wrOf s.d)) ∧ Below w6.heap.size w6 wq)) (fun _ _ _ _ i _ _ => s.c.length - (intOf i).toNat)
      case atStart => exact ⟨0, none, 0, rfl, rfl, Nat.zero_le _, Lib.hid ⟨Kd.R_nil _ _ _ _ _, Below.refl _ _⟩⟩
      case round =>
        obtain ⟨k, A7, c7, rfl, rfl, hk7, HR7⟩ := hrel
        rename World => wq
        have hbw : Below wr.heap.size wr wq := HY.out.2.1.trans (HR7.out.2.mono hge)
        by_cases hlt : k < s.c.length
        · obtain ⟨ad, hA, d0⟩ := C_atS (Kd.C_below HY.out.1 HR7.out.2) k (by rw [hlen]; exact hlt)
          subst hA
          rw [List.getElem_map] at d0
          have hsz := maxLen_ge (HF2.out.ck s.c[k] (List.getElem_mem hlt))
          have hrq := HY.out.2.2.2.below hbw
          have hr0 : wq.cell? ⟨w1.heap.size + 1, 0, none⟩ = some (.map (some w.heap.size)) := hrq.blk.cell 0
          have hlk := hrq.d.look Tryz.underlying103 (zeroNum _) hsz
          have hst : (s.c.take (k + 1)).map (wrOf s.d) = (s.c.take k).map (wrOf s.d) ++ [⟨s.c[k].1, (getL s.d s.c[k].1).getD 0, (getL s.d s.c[k].1).isNone⟩] := by rw [List.take_succ_eq_append_getElem hlt, List.map_append]; rfl
          have hv : ((getL s.d s.c[k].1).map encN).getD (.int .u64 0) = .int .u64 ((getL s.d s.c[k].1).getD 0) := by cases getL s.d s.c[k].1 <;> rfl
          have hy : (getL s.d s.c[k].1).isNone = !(getL s.d s.c[k].1).isSome := by cases getL s.d s.c[k].1 <;> rfl
          rw [hv] at hlk
          rw [hy] at hst
          clear hv hy
          generalize (getL s.d s.c[k].1).getD 0 = n0 at *
          generalize (getL s.d s.c[k].1).isSome = y0 at *
          generalize s.c[k].1 = x0 at *
          have HN := Lib.hid hst
          clear hst hsz hrq
          go_wp2_with (first | ((with_reducible refine gate_builtin (b := .append) (xs := #[.tmp 51, .tmp 57]) rfl ?_); at_builtin; refine stop_append rfl ?_))
          refine Lib.hid ?_
          refine Kd.R_append k69 (w0 := w6) w6.heap.size rfl (.tmp 51) (.tmp 57) 43 69 (.agg #[.string ⟨#[]⟩, .int .u64 0, .bool false]) 32 rfl Tryz.underlying43 info69 rfl (by decide) (by decide) (.slice A7 k c7) ((s.c.take k).map (wrOf s.d)) ⟨x0, n0, !y0⟩ [.string x0, .int .u64 n0, .bool (!y0)] (fun _ => True) (fun _ => False) rfl rfl (k69_mkM _ _ _ _) (fun _ h => h.elim) (fun _ _ => trivial) HR7.out.1 HR7.out.2 HR7.out.2.size (by rw [List.length_map, List.length_take]; omega) ?_
          intro v9 w9 hS9 hB9 hg9 hat9
          have hln : ((s.c.take k).map (wrOf s.d) ++ [(⟨x0, n0, !y0⟩ : S69)]).length = k + 1 := by simp; omega
          obtain ⟨A9, c9, e9⟩ := Kd.R_slice hS9
          rw [hln] at e9
          have HN9 := Lib.hid (And.intro hS9 hB9)
          rw [e9] at HN9
          rw [e9]
          clear hS9 hB9 hg9 hat9 e9 hlk d0 hr0
          go_wp2_with fail
          go_roundw
          case rel => exact ⟨k + 1, A9, c9, rfl, by go_num, by omega, Lib.hid ⟨by rw [HN.out]; exact HN9.out.1, HN9.out.2⟩⟩
          case measure => simp [intOf]; omega
        · obtain rfl : k = s.c.length := by omega
          have HZ := Lib.hid (And.intro (Kd.R_lower HR7.out.1 (Nat.le_trans HS.out.2.2.size hge)) (And.intro (Kd.S_mono (Kd.S_below HS.out.2.1 hbw) (fun _ _ => trivial)) (HS.out.2.2.trans (hbw.mono HS.out.2.2.size))))
          rw [List.take_length] at HZ
          clear hbw
          go_wp2
          go_ret2
          refine ⟨_, _, rfl, ?_⟩
          rw [HE.out.1, HE.out.2]
          exact HZ.out
def evalOk (l : List S63) (data : List S61) : Prop := l.length ≤ 1000 ∧ (∀ o ∈ l, opOk o) ∧ data.length ≤ 900000 ∧ (∀ p ∈ data, p.f0.size ≤ 1000000)
instance (l : List S63) (data : List S61) : Decidable (evalOk l data) := by unfold evalOk opOk; exact inferInstance
def txn_Eval.f (l : List S63) (data : List S61) : Option (List S69 × List S65) := if evalOk l data then some (writesT (runS l (startT data)), runA l (startT data)) else none
theorem txn_Eval.calls (A0 : Option Addr) (c0 : Nat) (l0 : List S63) (A1 : Option Addr) (c1 : Nat) (l1 : List S61) (r0 : List S69) (r1 : List S65) (w : World) (hr0 : Kd.C k63 w A0 l0.length l0) (_hc0 : l0.length ≤ c0) (hr1 : Kd.C k61 w A1 l1.length l1) (_hc1 : l1.length ≤ c1) (h : txn_Eval.f l0 l1 = some (r0, r1)) :
    Calls Tryz.prog 26 #[.slice A0 l0.length c0, .slice A1 l1.length c1] w fun e w' => ∃ v0_ v1_ : Value, e = .returned (.tuple #[v0_, v1_]) ∧ Kd.R k69 69 w' w.heap.size (fun _ => True) v0_ r0 ∧ Kd.S k65 65 w' w.heap.size (fun _ => True) v1_ r1 ∧ Below w.heap.size w w' := by
  unfold txn_Eval.f at h
  split at h
  · rename_i hc
    injection h with h
    injection h with h0 h1
    subst h0 h1
    exact eval_any A0 c0 l0 A1 c1 l1 w hr0 hr1 hc.1 hc.2.1 ⟨by have := hc.2.2.1; omega, hc.2.2.2⟩ hc.2.2.1
  · cases h
end Go.Proofs.YtgmlenpcchhmbaaGreat.P
end
section
set_option linter.unusedVariables false
set_option linter.unusedSimpArgs false
namespace Go.Proofs.YtgmlenpcchhmbaaGreat.P
open Go.RowKit Go.Sort Go.Shelf Go.Proofs.YtgmlenpcchhmbaaGreatW.PrintWords Go.Proofs.YtgmlenpcchhmbaaGreatW.PrintLast Go.Proofs.YtgmlenpcchhmbaaGreatW.PrintMore
set_option linter.unnecessarySimpa false
theorem C_blk {α : Type} (d : Kd α) {W : World} {g : Nat} {t : TypeId} {cs : Array Value} {xs : List α} (h : Blk W g t cs) (hl : xs.length ≤ 9223372036854775807)
    (hr : ∀ j p, xs[j]? = some p → ∃ c, c.length = d.sz ∧ d.K W p c ∧ ∀ i u, c[i]? = some u → cs[j * d.sz + i]? = some u) : Kd.C d W (some ⟨g, 0, none⟩) xs.length xs := by
  refine ⟨rfl, hl, fun _ => ⟨_, rfl, fun j p hj => ?_⟩⟩
  obtain ⟨c, h1, h2, h3⟩ := hr j p hj
  refine ⟨c, h1, h2, fun i u hu => ?_⟩
  rw [add_plain, h.cell]
  exact h3 i u hu
def sa : ByteArray := ⟨#[97]⟩
def sb : ByteArray := ⟨#[98]⟩
def se : ByteArray := ⟨#[]⟩
def lOps : List S63 := [⟨4, sa, se, rOfN 5⟩, ⟨6, sa, sb, rOfN 3⟩, ⟨1, sb, se, 0⟩]
def lWs : List S69 := [⟨sa, rOfN 2, false⟩, ⟨sb, rOfN 3, false⟩]
def lAs : List S65 := [⟨false, rOfN 5, []⟩, ⟨true, 0, []⟩, ⟨true, rOfN 3, []⟩]
theorem C_lOps (W : World) (g : Nat) (h : Blk W g 63 #[.int .i64 4, .string sa, .string se, .int .u64 (rOfN 5), .int .i64 6, .string sa, .string sb, .int .u64 (rOfN 3), .int .i64 1, .string sb, .string se, .int .u64 0]) : Kd.C k63 W (some ⟨g, 0, none⟩) lOps.length lOps := by
  refine C_blk k63 h (by decide) fun j p hj => ⟨_, rfl, k63_mk W p, fun i u hu => ?_⟩
  rcases j with _ | _ | _ | j <;> simp [lOps] at hj <;> subst hj <;> rcases i with _ | _ | _ | _ | i <;> simpa [show k63.sz = 4 from rfl] using hu
theorem C_lWs (W : World) (g : Nat) (h : Blk W g 69 #[.string sa, .int .u64 (rOfN 2), .bool false, .string sb, .int .u64 (rOfN 3), .bool false]) : Kd.C k69 W (some ⟨g, 0, none⟩) lWs.length lWs := by
  refine C_blk k69 h (by decide) fun j p hj => ⟨_, rfl, k69_mk W p, fun i u hu => ?_⟩
  rcases j with _ | _ | j <;> simp [lWs] at hj <;> subst hj <;> rcases i with _ | _ | _ | i <;> simpa [show k69.sz = 3 from rfl] using hu
theorem C_lAs (W : World) (g : Nat) (h : Blk W g 65 #[.bool false, .int .u64 (rOfN 5), .slice none 0 0, .bool true, .int .u64 0, .slice none 0 0, .bool true, .int .u64 (rOfN 3), .slice none 0 0]) : Kd.C k65 W (some ⟨g, 0, none⟩) lAs.length lAs := by
  refine C_blk k65 h (by decide) fun j p hj => ?_
  rcases j with _ | _ | _ | j <;> simp [lAs] at hj <;> subst hj
  · exact ⟨_, rfl, k65_mk W ⟨false, rOfN 5, []⟩ (c2 := 0) (by simp) (Kd.C_nil _ _), fun i u hu => by rcases i with _ | _ | _ | i <;> simpa [show k65.sz = 3 from rfl] using hu⟩
  · exact ⟨_, rfl, k65_mk W ⟨true, 0, []⟩ (c2 := 0) (by simp) (Kd.C_nil _ _), fun i u hu => by rcases i with _ | _ | _ | i <;> simpa [show k65.sz = 3 from rfl] using hu⟩
  · exact ⟨_, rfl, k65_mk W ⟨true, rOfN 3, []⟩ (c2 := 0) (by simp) (Kd.C_nil _ _), fun i u hu => by rcases i with _ | _ | _ | i <;> simpa [show k65.sz = 3 from rfl] using hu⟩
theorem live_eval : evalOk lOps [] := by decide +kernel
theorem live_ws : folkmootref08_WritesSame.f 9 (writesT (runS lOps (startT []))) lWs = some true := by decide +kernel
theorem live_as : folkmootref08_Answers.f 9 (runA lOps (startT [])) lAs = some true := by decide +kernel
theorem live_put : txn_Put.f lOps = some (laidOps lOps) := by decide +kernel
theorem live_parse : txn_Parse.f (laidOps lOps) = some (lOps, 0) := by kernel_rfl
theorem live_ops : folkmootref08_Ops.f 9 lOps lOps = some true := by decide +kernel
theorem live_chk : txn_Check.f lOps = some 0 := by decide +kernel
theorem live_nil : txn_Check.f ([] : List S63) = some 80 := by decide +kernel
def bL : List Int := laidOps lOps
def vW : List S69 := writesT (runS lOps (startT []))
def vA : List S65 := runA lOps (startT [])
theorem evC (W : World) : Calls Tryz.prog 26 #[.slice (some ⟨W.heap.size, 0, none⟩) 3 3, .slice none 0 0] (W.alloc (.cells #[.int .i64 4, .string ⟨#[97]⟩, .string ⟨#[]⟩, .int .u64 (rOfN 5), .int .i64 6, .string ⟨#[97]⟩, .string ⟨#[98]⟩, .int .u64 (rOfN 3), .int .i64 1, .string ⟨#[98]⟩, .string ⟨#[]⟩, .int .u64 0] 63)) fun e w' =>
    ∃ A1 c1 A2 c2, e = .returned (.tuple #[.slice A1 vW.length c1, .slice A2 vA.length c2]) ∧ (vW.length ≤ c1 ∧ Kd.C k69 w' A1 vW.length vW ∧ vA.length ≤ c2 ∧ Kd.C k65 w' A2 vA.length vA ∧ Kd.C k63 w' (some ⟨W.heap.size, 0, none⟩) 3 lOps) ∧ Below W.heap.size W w' := by
  have hL := C_lOps (W.alloc (.cells #[.int .i64 4, .string sa, .string se, .int .u64 (rOfN 5), .int .i64 6, .string sa, .string sb, .int .u64 (rOfN 3), .int .i64 1, .string sb, .string se, .int .u64 0] 63)) W.heap.size (Blk.new W 63 _)
  refine (txn_Eval.calls _ 3 lOps none 0 [] vW vA _ hL (by decide) (Kd.C_nil _ _) (by simp) (by unfold txn_Eval.f; rw [if_pos live_eval]; rfl)).mono ?_
  rintro e w' ⟨v1, v2, rfl, h1, h2, hb⟩
  obtain ⟨A1, c1, rfl⟩ := Kd.R_slice h1
  obtain ⟨A2, c2, rfl⟩ := Kd.S_slice h2
  obtain ⟨_, l1, C1⟩ := Kd.R_reads' h1
  obtain ⟨_, l2, C2⟩ := Kd.S_reads' h2
  exact ⟨A1, c1, A2, c2, rfl, ⟨l1, C1, l2, C2, Kd.C_below hL hb⟩, ((Below.refl _ _).alloc (Nat.le_refl _) _).trans (hb.mono (by simp))⟩
theorem putC (g : Nat) (W : World) (hr : Kd.C k63 W (some ⟨g, 0, none⟩) 3 lOps) : Calls Tryz.prog 22 #[.slice (some ⟨g, 0, none⟩) 3 3] W fun e w' => ∃ A c, e = .returned (.slice A bL.length c) ∧ (bL.length ≤ c ∧ Kd.C (Kd.int .u8) w' A bL.length bL) ∧ Below W.heap.size W w' := by
  refine (txn_Put.calls _ 3 lOps _ _ hr (by decide) live_put).mono ?_
  rintro e w' ⟨v1, rfl, h1, hb⟩
  obtain ⟨A1, c1, rfl, l1, C1⟩ := Kd.R_reads h1
  exact ⟨A1, c1, rfl, ⟨l1, C1⟩, hb⟩
theorem parseC (A : Option Addr) (c : Nat) (W : World) (hc : bL.length ≤ c) (hr : Kd.C (Kd.int .u8) W A bL.length bL) : Calls Tryz.prog 15 #[.slice A bL.length c] W fun e w' => ∃ A' c', e = .returned (.tuple #[.slice A' 3 c', .int .i64 0]) ∧ (3 ≤ c' ∧ Kd.C k63 w' A' 3 lOps) ∧ Below W.heap.size W w' := by
  refine (txn_Parse.calls A c bL lOps 0 _ hr hc live_parse).mono ?_
  rintro e w' ⟨v1, rfl, h1, hb⟩
  obtain ⟨A1, c1, rfl, l1, C1⟩ := Kd.R_reads h1
  exact ⟨A1, c1, rfl, ⟨l1, C1⟩, hb⟩
theorem chkC (g : Nat) (W : World) (hr : Kd.C k63 W (some ⟨g, 0, none⟩) 3 lOps) : Calls Tryz.prog 18 #[.slice (some ⟨g, 0, none⟩) 3 3] W fun e w' => e = .returned (.int .i64 0) ∧ Below W.heap.size W w' :=
  txn_Check.calls _ 3 lOps _ _ hr (by decide) live_chk
theorem chkN (W : World) : Calls Tryz.prog 18 #[.slice none 0 0] W fun e w' => e = .returned (.int .i64 80) ∧ Below W.heap.size W w' :=
  txn_Check.calls none 0 [] _ _ (Kd.C_nil _ _) (by decide) live_nil
theorem wsC (A : Option Addr) (c : Nat) (W : World) (hc : vW.length ≤ c) (hr : Kd.C k69 W A vW.length vW) : Calls Tryz.prog 29 #[.slice A vW.length c, .slice (some ⟨W.heap.size, 0, none⟩) 2 2] (W.alloc (.cells #[.string ⟨#[97]⟩, .int .u64 (rOfN 2), .bool false, .string ⟨#[98]⟩, .int .u64 (rOfN 3), .bool false] 69)) fun e w' => e = .returned (.bool true) ∧ Below W.heap.size W w' := by
  have hL := C_lWs (W.alloc (.cells #[.string sa, .int .u64 (rOfN 2), .bool false, .string sb, .int .u64 (rOfN 3), .bool false] 69)) W.heap.size (Blk.new W 69 _)
  exact (folkmootref08_WritesSame.calls 9 A c vW _ 2 lWs true _ (Kd.C_alloc hr _) hc hL (by decide) live_ws).mono fun e w' ⟨he, hd⟩ => ⟨he, ((Below.refl _ _).alloc (Nat.le_refl _) _).trans (hd.below.mono (by simp))⟩
theorem ansC (A : Option Addr) (c : Nat) (W : World) (hc : vA.length ≤ c) (hr : Kd.C k65 W A vA.length vA) : Calls Tryz.prog 30 #[.slice A vA.length c, .slice (some ⟨W.heap.size, 0, none⟩) 3 3] (W.alloc (.cells #[.bool false, .int .u64 (rOfN 5), .slice none 0 0, .bool true, .int .u64 0, .slice none 0 0, .bool true, .int .u64 (rOfN 3), .slice none 0 0] 65)) fun e w' => e = .returned (.bool true) ∧ Below W.heap.size W w' := by
  have hL := C_lAs (W.alloc (.cells #[.bool false, .int .u64 (rOfN 5), .slice none 0 0, .bool true, .int .u64 0, .slice none 0 0, .bool true, .int .u64 (rOfN 3), .slice none 0 0] 65)) W.heap.size (Blk.new W 65 _)
  exact (folkmootref08_Answers.calls 9 A c vA _ 3 lAs true _ (Kd.C_alloc hr _) hc hL (by decide) live_as).mono fun e w' ⟨he, hd⟩ => ⟨he, ((Below.refl _ _).alloc (Nat.le_refl _) _).trans (hd.mono (by simp))⟩
theorem opsC (A : Option Addr) (c g : Nat) (W : World) (hc : 3 ≤ c) (hr : Kd.C k63 W A 3 lOps) (hr' : Kd.C k63 W (some ⟨g, 0, none⟩) 3 lOps) : Calls Tryz.prog 21 #[.slice A 3 c, .slice (some ⟨g, 0, none⟩) 3 3] W fun e w' => e = .returned (.bool true) ∧ Below W.heap.size W w' :=
  (folkmootref08_Ops.calls 9 A c lOps _ 3 lOps true _ hr hc hr' (by decide) live_ops).mono fun e w' ⟨he, hd⟩ => ⟨he, hd.below⟩
def folkmootlaw08_live.f : Option Bool := some true
set_option maxHeartbeats 8000000 in
set_option maxRecDepth 100000 in
theorem folkmootlaw08_live.calls (r : Bool) (w : World) (h : folkmootlaw08_live.f = some r) : Calls Tryz.prog 14 #[] w fun e w' => e = .returned (.bool r) ∧ Below w.heap.size w w' := by
  injection h with h
  subst h
  have HO := Lib.hid (fun (a : Int) (W : World) => folkmootref07_Of.calls a _ W rfl)
  have HN := Lib.hid (fun (a : Int) (W : World) => folkmootlaw08_num.calls a _ W rfl)
  have H0 := Lib.hid (Below.refl w.heap.size w)
  go_enter Tryz.func14, Tryz.ntmps14
  go_wp2_with fail
  refine (HO.out 5 _).mono ?_
  rintro e w1 ⟨rfl, hb⟩
  have H1 := Lib.hid (hb.below); clear hb
  go_wp2_with fail
  refine (HO.out 3 _).mono ?_
  rintro e w2 ⟨rfl, hb⟩
  have H2 := Lib.hid (hb.below); clear hb
  go_wp2_with fail
  refine (evC _).mono ?_
  rintro e w3 ⟨A1, c1, A2, c2, rfl, he_, hb⟩
  have H3 := Lib.hid (hb); clear hb
  have HE := Lib.hid he_; clear he_
  go_wp2_with fail
  refine (putC _ _ (HE.out.2.2.2.2)).mono ?_
  rintro e w4 ⟨A3, c3, rfl, hp_, hb⟩
  have H4 := Lib.hid (hb); clear hb
  have HP := Lib.hid hp_; clear hp_
  go_wp2_with fail
  refine (parseC A3 c3 _ HP.out.1 HP.out.2).mono ?_
  rintro e w5 ⟨A4, c4, rfl, hq_, hb⟩
  have H5 := Lib.hid (hb); clear hb
  have HQ := Lib.hid hq_; clear hq_
  go_wp2_with fail
  refine (chkC _ _ (Kd.C_below (Kd.C_below (HE.out.2.2.2.2) H4.out) H5.out)).mono ?_
  rintro e w6 ⟨rfl, hb⟩
  have H6 := Lib.hid (hb); clear hb
  go_wp2_with fail
  refine (HN.out 0 _).mono ?_
  rintro e w7 ⟨rfl, hb⟩
  have H7 := Lib.hid (hb.below); clear hb
  go_wp2_with fail
  refine (HO.out 2 _).mono ?_
  rintro e w8 ⟨rfl, hb⟩
  have H8 := Lib.hid (hb.below); clear hb
  go_wp2_with fail
  refine (HO.out 3 _).mono ?_
  rintro e w9 ⟨rfl, hb⟩
  have H9 := Lib.hid (hb.below); clear hb
  go_wp2_with fail
  refine (wsC A1 c1 _ HE.out.1 (Kd.C_below (Kd.C_below (Kd.C_below (Kd.C_below (Kd.C_below (Kd.C_below (HE.out.2.1) H4.out) H5.out) H6.out) H7.out) H8.out) H9.out)).mono ?_
  rintro e w10 ⟨rfl, hb⟩
  have H10 := Lib.hid (hb); clear hb
  go_wp2_with fail
  refine (HO.out 5 _).mono ?_
  rintro e w11 ⟨rfl, hb⟩
  have H11 := Lib.hid (hb.below); clear hb
  go_wp2_with fail
  refine (HO.out 3 _).mono ?_
  rintro e w12 ⟨rfl, hb⟩
  have H12 := Lib.hid (hb.below); clear hb
  go_wp2_with fail
  refine (ansC A2 c2 _ HE.out.2.2.1 (Kd.C_below (Kd.C_below (Kd.C_below (Kd.C_below (Kd.C_below (Kd.C_below (Kd.C_below (Kd.C_below (Kd.C_below (HE.out.2.2.2.1) H4.out) H5.out) H6.out) H7.out) H8.out) H9.out) H10.out) H11.out) H12.out)).mono ?_
  rintro e w13 ⟨rfl, hb⟩
  have H13 := Lib.hid (hb); clear hb
  go_wp2_with fail
  refine (HN.out 0 _).mono ?_
  rintro e w14 ⟨rfl, hb⟩
  have H14 := Lib.hid (hb.below); clear hb
  go_wp2_with fail
  refine (opsC A4 c4 _ _ HQ.out.1 (Kd.C_below (Kd.C_below (Kd.C_below (Kd.C_below (Kd.C_below (Kd.C_below (Kd.C_below (Kd.C_below (Kd.C_below (HQ.out.2) H6.out) H7.out) H8.out) H9.out) H10.out) H11.out) H12.out) H13.out) H14.out) (Kd.C_below (Kd.C_below (Kd.C_below (Kd.C_below (Kd.C_below (Kd.C_below (Kd.C_below (Kd.C_below (Kd.C_below (Kd.C_below (Kd.C_below (HE.out.2.2.2.2) H4.out) H5.out) H6.out) H7.out) H8.out) H9.out) H10.out) H11.out) H12.out) H13.out) H14.out)).mono ?_
  rintro e w15 ⟨rfl, hb⟩
  have H15 := Lib.hid (hb); clear hb
  go_wp2_with fail
  refine (chkN _).mono ?_
  rintro e w16 ⟨rfl, hb⟩
  have H16 := Lib.hid (hb); clear hb
  go_wp2_with fail
  refine (HN.out 80 _).mono ?_
  rintro e w17 ⟨rfl, hb⟩
  have H17 := Lib.hid (hb.below); clear hb
  go_wp2_with fail
  go_ret
  have X0 := H0.out
  have X1 := X0.trans (H1.out.mono X0.size)
  have X2 := X1.trans (H2.out.mono X1.size)
  have X3 := X2.trans (H3.out.mono X2.size)
  have X4 := X3.trans (H4.out.mono X3.size)
  have X5 := X4.trans (H5.out.mono X4.size)
  have X6 := X5.trans (H6.out.mono X5.size)
  have X7 := X6.trans (H7.out.mono X6.size)
  have X8 := X7.trans (H8.out.mono X7.size)
  have X9 := X8.trans (H9.out.mono X8.size)
  have X10 := X9.trans (H10.out.mono X9.size)
  have X11 := X10.trans (H11.out.mono X10.size)
  have X12 := X11.trans (H12.out.mono X11.size)
  have X13 := X12.trans (H13.out.mono X12.size)
  have X14 := X13.trans (H14.out.mono X13.size)
  have X15 := X14.trans (H15.out.mono X14.size)
  have X16 := X15.trans (H16.out.mono X15.size)
  have X17 := X16.trans (H17.out.mono X16.size)
  exact ⟨rfl, X17⟩
end Go.Proofs.YtgmlenpcchhmbaaGreat.P
end
section
set_option linter.unusedVariables false
set_option linter.unusedSimpArgs false
namespace Go.Proofs.YtgmlenpcchhmbaaGreat.P
open Go.RowKit Go.Proofs.YtgmlenpcchhmbaaGreatW.PrintWords Go.Proofs.YtgmlenpcchhmbaaGreatW.PrintLast Go.Proofs.YtgmlenpcchhmbaaGreatW.PrintMore
theorem C_atW {w : World} {A : Option Addr} {n : Nat} {xs : List S69} (h : Kd.C k69 w A n xs) (k : Nat) (hk : k < xs.length) : ∃ ad, A = some ad ∧ w.cell? (ad.add (k * 3)) = some (.string xs[k].f0) ∧ w.cell? ⟨(ad.add (k * 3)).block, (ad.add (k * 3)).off + 1, none⟩ = some (.int .u64 xs[k].f1) ∧ w.cell? ⟨(ad.add (k * 3)).block, (ad.add (k * 3)).off + 2, none⟩ = some (.bool xs[k].f2) := by
  obtain ⟨ad, hA, x0, x1, x2⟩ := at_T69 h (k : Int) (by omega) (by have := h.1; omega)
  have er : rd_T69 xs (k : Int) = xs[k] := by
    unfold rd_T69
    rw [Int.toNat_natCast, List.getD_eq_getElem?_getD, List.getElem?_eq_getElem hk]
    rfl
  rw [er, Int.toNat_natCast] at x0 x1 x2
  exact ⟨ad, hA, x0, x1, x2⟩
theorem RowPr.store1 {w : World} {base g c : Nat} {xs : List S61} (h : RowPr w base (.slice (some ⟨g, 0, none⟩) xs.length c) xs) {i : Nat} {x : S61} (hx : xs[i]? = some x) (n : Int) : RowPr (w.setCell ⟨g, i * 2 + 1, none⟩ (.int .u64 n)) base (.slice (some ⟨g, 0, none⟩) xs.length c) (xs.set i ⟨x.f0, n⟩) := by
  have h2 := (World.ownsRow.stored h (i * 2 + 1) (.int .u64 n)).1
  have hE := enc2_at (xs.map pPr) i
  rw [List.getElem?_map, hx] at hE
  have h3 := enc2_set (xs.map pPr) i (.string x.f0) (.int .u64 n)
  have h4 : (enc2 (xs.map pPr)).set (i * 2) (.string x.f0) = enc2 (xs.map pPr) := by
    obtain ⟨hl, he⟩ := List.getElem?_eq_some_iff.1 hE.1
    have he' : (enc2 (xs.map pPr))[i * 2] = .string x.f0 := he
    rw [← he', List.set_getElem_self]
  rw [h4] at h3
  rw [h3] at h2
  unfold RowPr
  rw [List.length_set, List.map_set]
  exact h2
theorem found_at {xs : List S61} {k : ByteArray} {i : Nat} (h : foundK xs k i = true) : ∃ x, xs[i]? = some x ∧ x.f0 = k := by
  unfold foundK at h
  split at h
  · rename_i x hx; exact ⟨x, hx, by simpa using h⟩
  · cases h
set_option maxHeartbeats 4000000 in
set_option maxRecDepth 100000 in
theorem apply_any (A : Option Addr) (c : Nat) (data : List S61) (A' : Option Addr) (c' : Nat) (l : List S69) (w : World) (hr : Kd.C k61 w A data.length data) (hr' : Kd.C k69 w A' l.length l) (hs : SortK (data.map toA)) (hn : data.length + l.length ≤ 1000000) :
    Calls Tryz.prog 32 #[.slice A data.length c, .slice A' l.length c'] w fun e w' => ∃ v, e = .returned v ∧ RowPr w' w.heap.size v (applyT data l) ∧ Below w.heap.size w w' := by
  have HC := Lib.hid (clonePr_any A c data w hr (by omega))
  have HX := Lib.hid (And.intro hr' (And.intro hs hn))
  have hmx := Kd.C_max hr'
  clear hr hr' hs hn
  go_enter Tryz.func32, Tryz.ntmps32
  go_wp2_with fail
  refine HC.out.mono ?_
  rintro e w1 ⟨v1, rfl, ho1, hb1⟩
  have HO := Lib.hid (And.intro ho1 hb1)
  obtain ⟨A1, c1, rfl⟩ := own_slice ho1
  clear ho1 hb1 HC
  go_wp2
  go_loopw [0, 13] (fun so i wr => ∃ (k : Nat) (A2 : Option Addr) (c2 : Nat), so = .slice A2 (applyT data (l.take k)).length c2 ∧ i = .int .i64 k ∧ k ≤ l.length ∧ RowKit.Hid (RowPr wr w.heap.size (.slice A2 (applyT data (l.take k)).length c2) (applyT data (l.take k)) ∧ Below w.heap.size w wr)) (fun _ i _ => l.length - (intOf i).toNat)
  case atStart => exact ⟨0, A1, c1, rfl, rfl, Nat.zero_le _, HO⟩
  case round =>
    obtain ⟨k, A2, c2, rfl, rfl, hk, HR⟩ := hrel
    by_cases hlt : k < l.length
    · obtain ⟨ad, hA, d0, d1, d2⟩ := C_atW (Kd.C_below HX.out.1 HR.out.2) k hlt
      subst hA
      have hsn : applyT data (l.take (k + 1)) = doW (applyT data (l.take k)) l[k] := by rw [List.take_succ_eq_append_getElem hlt, applyT_snoc]
      have hso := applyT_sort (l.take k) HX.out.2.1
      have hle := applyT_len (l.take k) HX.out.2.1
      rw [List.length_take] at hle
      have hbd : (applyT data (l.take k)).length ≤ 1000000 := by have := HX.out.2.2; omega
      generalize applyT data (l.take k) = d at *
      generalize l[k] = x at *
      obtain ⟨x0, x1, x2⟩ := x
      simp only at d0 d1 d2
      obtain ⟨W, hW⟩ : ∃ W, wr.alloc (.cells #[.string x0, .int .u64 x1, .bool x2] 69) = W := ⟨_, rfl⟩
      have hbW : Below wr.heap.size wr W := hW ▸ (Below.refl _ _).alloc (Nat.le_refl _) _
      have hTW : Blk W wr.heap.size 69 #[.string x0, .int .u64 x1, .bool x2] := hW ▸ Blk.new wr 69 _
      have t0 : W.cell? ⟨wr.heap.size, 0, none⟩ = some (.string x0) := hTW.cell 0
      have t1 : W.cell? ⟨wr.heap.size, 1, none⟩ = some (.int .u64 x1) := hTW.cell 1
      have t2 : W.cell? ⟨wr.heap.size, 2, none⟩ = some (.bool x2) := hTW.cell 2
      have hRW : RowPr W w.heap.size (.slice A2 d.length c2) d := pw_own_below HR.out.1 hbW
      have HB := Lib.hid (pbs_any A2 c2 d x0 W (Kd.R_reads' hRW.R).2.2 hso (by omega))
      have HN := Lib.hid (And.intro hsn (And.intro hso (And.intro hRW (And.intro hTW (HR.out.2.trans (hbW.mono HR.out.2.size))))))
      clear hsn hso hle hbW hTW hRW
      go_wp2_with fail
      refine HB.out.mono ?_
      rintro e w3 ⟨i, rfl, hat, hb3⟩
      have hT3 := HN.out.2.2.2.1.below hb3 HN.out.2.2.2.1.lt
      have hR3 : RowPr w3 w.heap.size (.slice A2 d.length c2) d := pw_own_below HN.out.2.2.1 hb3
      have hB3 : Below w.heap.size w w3 := HN.out.2.2.2.2.trans (hb3.mono HN.out.2.2.2.2.size)
      have t0 : w3.cell? ⟨wr.heap.size, 0, none⟩ = some (.string x0) := hT3.cell 0
      have t1 : w3.cell? ⟨wr.heap.size, 1, none⟩ = some (.int .u64 x1) := hT3.cell 1
      have t2 : w3.cell? ⟨wr.heap.size, 2, none⟩ = some (.bool x2) := hT3.cell 2
      have hil := hat.le
      have H3 := Lib.hid (And.intro hat (And.intro hR3 (And.intro hB3 hT3)))
      clear hat hb3 hT3 hR3 hB3 HB hW
      cases hf : foundK d x0 i with
      | true =>
        have HF := Lib.hid hf
        clear hf
        obtain ⟨y, hy, hyk⟩ := found_at HF.out
        have hilt : i < d.length := (List.getElem?_eq_some_iff.1 hy).1
        obtain ⟨g, hAg, hgb, hgl⟩ := own_some H3.out.2.1 (by omega)
        subst hAg
        cases x2 with
        | true =>
          have HDL := Lib.hid (pdelete_any H3.out.2.1 hilt)
          have HE := Lib.hid (show applyT data (l.take (k + 1)) = d.eraseIdx i by rw [HN.out.1]; unfold doW; rw [if_pos rfl]; exact del_erase d x0 i HN.out.2.1 H3.out.1 HF.out)
          clear hy hyk
          go_wp2_with fail
          refine HDL.out.mono ?_
          rintro e w4 ⟨rfl, hR4, hu4⟩
          have hel : (d.eraseIdx i).length = d.length - 1 := by rw [List.length_eraseIdx, if_pos hilt]
          have H4 := Lib.hid (And.intro hR4 (H3.out.2.2.1.trans (hu4.below H3.out.2.2.1.size (fun q hq e => by omega))))
          rw [← hel] at H4 ⊢
          clear hR4 hu4 hel
          go_wp2
          go_roundw
          case rel => exact ⟨k + 1, _, c2, by rw [HE.out], by go_num, by omega, Lib.hid (by rw [HE.out]; exact H4.out)⟩
          case measure => simp [intOf]; omega
        | false =>
          have HE := Lib.hid (show applyT data (l.take (k + 1)) = d.set i ⟨x0, x1⟩ by rw [HN.out.1]; unfold doW; rw [if_neg (by simp)]; exact put_set d x0 x1 i H3.out.1 HF.out)
          obtain ⟨q0, q1, z0, z1⟩ := RowPr.at_ H3.out.2.1 i y hy
          have H4 := Lib.hid (And.intro (RowPr.store1 H3.out.2.1 hy x1) (H3.out.2.2.1.setCell (p := ⟨g, i * 2 + 1, none⟩) hgb (.int .u64 x1)))
          rw [hyk] at H4
          have hsl : (d.set i ⟨x0, x1⟩).length = d.length := List.length_set
          have HSL := Lib.hid hsl
          clear hy hyk hsl
          go_wp2
          go_roundw
          case rel => exact ⟨k + 1, _, c2, by rw [HE.out, HSL.out], by go_num, by omega, Lib.hid (by rw [HE.out, HSL.out]; exact H4.out)⟩
          case measure => simp [intOf]; omega
      | false =>
        have HF := Lib.hid hf
        clear hf
        cases x2 with
        | true =>
          have HE := Lib.hid (show applyT data (l.take (k + 1)) = d by rw [HN.out.1]; unfold doW; rw [if_pos rfl]; exact del_none HN.out.2.1 H3.out.1 HF.out)
          go_wp2
          go_roundw
          case rel => exact ⟨k + 1, A2, c2, by rw [HE.out], by go_num, by omega, Lib.hid (by rw [HE.out]; exact ⟨H3.out.2.1, H3.out.2.2.1⟩)⟩
          case measure => simp [intOf]; omega
        | false =>
          have HE := Lib.hid (show applyT data (l.take (k + 1)) = insAt d i ⟨x0, x1⟩ by rw [HN.out.1]; unfold doW; rw [if_neg (by simp)]; exact put_ins d x0 x1 i H3.out.1 HF.out)
          obtain ⟨W4, hW4⟩ : ∃ W4, w3.alloc (.cells #[.string x0, .int .u64 x1] 61) = W4 := ⟨_, rfl⟩
          have hb4 : Below w3.heap.size w3 W4 := hW4 ▸ (Below.refl _ _).alloc (Nat.le_refl _) _
          have hv4 : Blk W4 w3.heap.size 61 #[.string x0, .int .u64 x1] := hW4 ▸ Blk.new w3 61 _
          have hR4 : RowPr W4 w.heap.size (.slice A2 d.length c2) d := pw_own_below H3.out.2.1 hb4
          have hB4 : Below w.heap.size w W4 := H3.out.2.2.1.trans (hb4.mono H3.out.2.2.1.size)
          have HI := Lib.hid (pinsert_any ⟨x0, x1⟩ hR4 hB4.size hv4 (fun e => by have := own_lt H3.out.2.1 _ e; omega) hil (by omega))
          have H4 := Lib.hid (And.intro hB4 (fun q hq => own_base hR4 q hq))
          clear hb4 hv4 hR4 hB4
          go_wp2_with fail
          refine HI.out.mono ?_
          rintro e w5 ⟨v5, rfl, hR5, hu5⟩
          have H5 := Lib.hid (And.intro hR5 (H4.out.1.trans (hu5.below H4.out.1.size (fun q hq e => by have := H4.out.2 q e; omega))))
          obtain ⟨A5, c5, rfl⟩ := own_slice hR5
          clear hR5 hu5 hW4
          go_wp2
          go_roundw
          case rel => exact ⟨k + 1, A5, c5, by rw [HE.out], by go_num, by omega, Lib.hid (by rw [HE.out]; exact H5.out)⟩
          case measure => simp [intOf]; omega
    · obtain rfl : k = l.length := by omega
      rw [List.take_length] at HR ⊢
      go_wp2
      go_ret
      exact ⟨_, rfl, HR.out⟩
instance {V : Type} (l : List (ByteArray × V)) : Decidable (SortK l) := inferInstanceAs (Decidable (List.Pairwise _ _))
def txn_Apply.f (d : List S61) (l : List S69) : Option (List S61) := if SortK (d.map toA) ∧ d.length + l.length ≤ 1000000 then some (applyT d l) else none
theorem txn_Apply.calls (A0 : Option Addr) (c0 : Nat) (l0 : List S61) (A1 : Option Addr) (c1 : Nat) (l1 : List S69) (r : List S61) (w : World) (hr0 : Kd.C k61 w A0 l0.length l0) (_hc0 : l0.length ≤ c0) (hr1 : Kd.C k69 w A1 l1.length l1) (_hc1 : l1.length ≤ c1) (h : txn_Apply.f l0 l1 = some r) :
    Calls Tryz.prog 32 #[.slice A0 l0.length c0, .slice A1 l1.length c1] w fun e w' => ∃ v0_ : Value, e = .returned (v0_) ∧ Kd.R k61 61 w' w.heap.size (fun _ => True) v0_ r ∧ Below w.heap.size w w' := by
  unfold txn_Apply.f at h
  split at h
  · rename_i hc
    injection h with h
    subst h
    exact (apply_any A0 c0 l0 A1 c1 l1 w hr0 hr1 hc.1 hc.2).mono fun e w' ⟨v, he, ho, hb⟩ => ⟨v, he, ho.R, hb⟩
  · cases h
end Go.Proofs.YtgmlenpcchhmbaaGreat.P
end
section
set_option linter.unusedVariables false
set_option linter.unusedSimpArgs false
namespace Go.Proofs.YtgmlenpcchhmbaaGreat.P
open Go.RowKit Go.Proofs.YtgmlenpcchhmbaaGreatW.PrintWords Go.Proofs.YtgmlenpcchhmbaaGreatW.PrintLast
theorem ev_live : Ev (fun _ => (folkmootlaw08_live.f).bind fun t => (some t)) true := Ev.some _
structure TxIn (l : List S63) (d : List S61) : Prop where
  len : l.length ≤ 8
  ops : ∀ o ∈ l, isT o = true
  dl : d.length ≤ 60
  dt : dataT d
theorem isT_key {o : S63} (h : isT o = true) : o.f1.size ≤ 16 ∧ o.f2.size ≤ 16 := by
  have hk : ∀ {k : ByteArray}, keyT k = true → k.size ≤ 16 := fun h => by
    unfold keyT at h
    simp only [Bool.and_eq_true, decide_eq_true_eq] at h
    exact h.2
  have he : emptyB.size ≤ 16 := by decide
  unfold isT at h
  simp only [Bool.and_eq_true] at h
  refine ⟨hk h.1.1, ?_⟩
  have h2 := h.2
  split at h2
  · simp only [Bool.and_eq_true, decide_eq_true_eq] at h2; rw [h2.1]; exact he
  · split at h2
    · simp only [decide_eq_true_eq] at h2; rw [h2]; exact he
    · split at h2
      · simp only [Bool.and_eq_true, Bool.or_eq_true, decide_eq_true_eq] at h2
        rcases h2.2 with e | e
        · rw [e]; exact he
        · exact hk e.1
      · split at h2
        · simp only [Bool.and_eq_true] at h2; exact hk h2.1
        · cases h2
theorem chk_of {l : List S63} (h : checkT l = 0) : l.length ≤ 8 ∧ ∀ o ∈ l, isT o = true := by
  unfold checkT at h
  split at h
  · omega
  · rename_i h1
    split at h
    · omega
    · rename_i h2
      refine ⟨by omega, fun o ho => ?_⟩
      by_cases h3 : isT o = true
      · exact h3
      · exact absurd (.inr (List.any_eq_true.2 ⟨o, ho, by simpa using h3⟩)) h2
theorem eval_f {l : List S63} {d : List S61} (h1 : l.length ≤ 8) (h2 : ∀ o ∈ l, isT o = true) (h3 : d.length ≤ 900000) (h4 : KeysD (d.map toA)) : txn_Eval.f l d = some (writesT (runS l (startT d)), runA l (startT d)) := by
  unfold txn_Eval.f
  rw [if_pos ⟨by omega, fun o ho => by have := isT_key (h2 o ho); exact ⟨by omega, by omega⟩, h3, fun p hp => by have := h4 _ (List.mem_map_of_mem hp); exact Nat.le_trans this (by decide)⟩]
theorem apply_f {d : List S61} {l : List S69} (h : SortK (d.map toA)) (hl : d.length + l.length ≤ 1000000) : txn_Apply.f d l = some (applyT d l) := by
  unfold txn_Apply.f
  rw [if_pos ⟨h, hl⟩]
theorem writes_len (s : St) : (writesT s).length = s.c.length := by unfold writesT; rw [List.length_map]
theorem start_d {d : List S61} (h : SortK (d.map toA)) : (startT d).d = d.map toA := mapT_id h
theorem dataT_keys {d : List S61} (h : dataT d) : KeysD (d.map toA) := fun x hx => by
  obtain ⟨p, hp, rfl⟩ := List.mem_map.1 hx
  exact (h.2 p hp).2.1
theorem wr_start (d : List S61) {s : St} (hs : SortK (d.map toA)) (l : List S63) (e : s = runS l (startT d)) : applyT d (writesT s) = s.d.map ofA := by
  subst e
  exact apply_writes hs (runS_ok l (start_ok d)) (Cov.run l (cov_start hs))
theorem rd_atA {d : List S65} {i : Nat} (h : i < d.length) : rd_T65 d (i : Int) = d[i] := by
  unfold rd_T65
  rw [Int.toNat_natCast, List.getD_eq_getElem?_getD, List.getElem?_eq_getElem h]; rfl
theorem answers_l0 (d : List S65) (hd : d.length ≤ 9223372036854775807) (hp : ∀ a ∈ d, a.f2.length ≤ 9223372036854775807) : ∀ (m i : Nat), i + m = d.length → Ev (fun k => folkmootref08_Answers.l0 k d d (i : Int)) true
  | 0, i, h => by
    refine Ev.succ ?_
    simp only [folkmootref08_Answers.l0]
    exact Ev.no (by omega) (Ev.some _)
  | m + 1, i, h => by
    refine Ev.succ ?_
    simp only [folkmootref08_Answers.l0]
    rw [w64_succ (by omega)]
    refine Ev.yes (by omega) (Ev.yes (by omega) (Ev.yes (by omega) (Ev.no (by simp) (Ev.yes trivial (Ev.bind (ev_pairs _ ?_) (Ev.yes rfl (answers_l0 d hd hp m (i + 1) (by omega))))))))
    rw [rd_atA (by omega)]
    exact hp _ (List.getElem_mem _)
theorem ev_answers (d : List S65) (hd : d.length ≤ 9223372036854775807) (hp : ∀ a ∈ d, a.f2.length ≤ 9223372036854775807) : Ev (fun k => folkmootref08_Answers.f k d d) true := by
  unfold folkmootref08_Answers.f
  exact Ev.yes rfl (answers_l0 d hd hp d.length 0 (by omega))
theorem stepA_len (o : S63) (s : St) : (stepA o s).f2.length ≤ s.d.length := by
  unfold stepA
  repeat' split
  all_goals first | exact Nat.zero_le _ | exact Nat.le_trans (List.length_filter_le _ _) (by rw [List.length_map]; exact Nat.le_refl _)
theorem runA_f2 : ∀ (l : List S63) (s : St), ∀ a ∈ runA l s, a.f2.length ≤ s.d.length + 2 * l.length
  | [], _, _, h => by cases h
  | o :: l, s, a, h => by
    rw [List.length_cons]
    rcases List.mem_cons.1 h with h | h
    · subst h; have := stepA_len o s; omega
    · have := runA_f2 l (stepS o s) a h
      have := (stepS_le o s).1
      omega
end Go.Proofs.YtgmlenpcchhmbaaGreat.P
end
