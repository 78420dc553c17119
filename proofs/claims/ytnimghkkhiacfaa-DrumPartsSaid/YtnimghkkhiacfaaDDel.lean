/- A drum: Delete. -/
import Derived.Test.YtnimghkkhiacfaaDSyncB
namespace Go.Proofs.Ytnimghkkhiacfaa.P
open Go.RowKit Go.Proofs.YtnimghkkhiacfaaW.PrintWords Go.Proofs.YtnimghkkhiacfaaW.PrintLast Go.Proofs.YtnimghkkhiacfaaW.PrintMore
theorem ptrs_none (F : Files) (fb : Int → Nat) (n : Int) : upF (ptrs F fb) n none = ptrs (upF F n none) fb := by
  funext y
  unfold ptrs
  by_cases e : y = n
  · subst e; rw [upF_same, upF_same]; rfl
  · rw [upF_other _ _ e, upF_other _ _ e]
section
variable {w : World} {o : Nat → Int} {g mb : Nat} {F : Files} {room : Nat} {left ops : Int} {dead : Bool}
theorem delete_done (h : DrumIs w o g mb F room left dead ops) {fb : Int → Nat} (hfs : ∀ n x, F n = some x → FileAt w o n (fb n) x.1 x.2) {n : Int} (hn : 1 ≤ n ∧ n ≤ 1000) {s r : List Int} (hF : F n = some (s, r)) {W : World}
    (hu : Upd w W (fun k => k = g ∨ k = mb)) (hB : Blk W g 64 #[.map (some mb), .int .i64 (room - sumF F + (s.length + r.length)), .int .i64 left, .bool dead, .int .i64 ops]) (hm : MI W mb (upF (ptrs F fb) n none)) :
    Did w W o g mb (upF F n none) room left dead ops := by
  have hsum := sumF_up F (n := n) (by omega) (by omega) none
  rw [hF] at hsum
  simp only [szF, Nat.add_zero] at hsum
  have hfit := h.fit
  refine ⟨o, ⟨?_, h.zg, h.zm, fun k hk => Nat.lt_of_lt_of_le (h.lt k hk) hu.size, fun m x hx => ?_, by omega, h.big, fb, by rw [← ptrs_none]; exact hm, fun m x hx => ?_⟩, fun _ _ => rfl, hu.mono fun k _ hk => ?_⟩
  · rw [show ((room : Int) - (sumF (upF F n none) : Nat)) = (room : Int) - sumF F + (s.length + r.length) by omega]
    exact hB
  · by_cases e : m = n
    · subst e; rw [upF_same] at hx; cases hx
    · rw [upF_other _ _ e] at hx; exact h.key m x hx
  · by_cases e : m = n
    · subst e; rw [upF_same] at hx; cases hx
    · rw [upF_other _ _ e] at hx
      have hk := (h.key m x hx).1
      refine (hfs m x hx).upd hu (fun k hk' e' => ?_)
      have h1 := h.zg; have h2 := h.zm
      rcases e' with e' | e' <;> subst e' <;> omega
  · rcases hk with hk | hk
    · exact .inl hk
    · exact .inr (.inl hk)
theorem delete1_none (h : DrumIs w o g mb F room left dead ops) {n : Int} (hn : 1 ≤ n ∧ n ≤ 1000) {bD bN : Nat} (h2 : Boxed w o g mb bD (dptr g)) (h3 : Boxed w o g mb bN (.int .i64 n)) (hF : F n = none) :
    Calls Try.prog 39 #[dptr bD, dptr bN] w fun e w' => e = .returned (.int .i64 7) ∧ Did w w' o g mb F room left dead ops := by
  have H := Lib.hid h
  obtain ⟨fb, hm, hfs⟩ := h.ex
  have hc0 : w.cell? ⟨g, 0, none⟩ = some (.map (some mb)) := h.blk.cell 0
  have hld := (hm.below (below_drew (Below.refl _ w))).look (x := n) (WalkArith.wf_i64 (by omega))
  have hl1 : (ptrs F fb n) = none := by simp [ptrs, hF]
  rw [hl1] at hld
  simp only [Option.getD_none, Option.isSome_none] at hld
  have hx2 := h2.1; have hx3 := h3.1
  clear h hm hfs h2 h3
  go_enter Try.func39, Try.ntmps39
  go_upto_region 1 with fail
  refine wp_region_held (S := (fun W => W.cell? ⟨bD, 0, none⟩ = some (dptr g) ∧ W.cell? ⟨g, 0, none⟩ = some (.map (some mb)) ∧ W.cell? ⟨bN, 0, none⟩ = some (.int .i64 n) ∧ (Instr.lookup 62 (.map (some mb)) (.int .i64 n) true).run Try.prog W = .ok (.tuple #[.pointer none, .bool false]) W)) (by kernel_rfl) ?_
  simp only [List.size_toArray, List.length_cons, List.length_nil, Nat.zero_add, Nat.reduceAdd]
  have hHeld : ((fun W => W.cell? ⟨bD, 0, none⟩ = some (dptr g) ∧ W.cell? ⟨g, 0, none⟩ = some (.map (some mb)) ∧ W.cell? ⟨bN, 0, none⟩ = some (.int .i64 n) ∧ (Instr.lookup 62 (.map (some mb)) (.int .i64 n) true).run Try.prog W = .ok (.tuple #[.pointer none, .bool false]) W)) w.drew := ⟨hx2, hc0, hx3, hld⟩
  refine wpAnyH_take (i := 0) (v := ?_) rfl (by kernel_rfl) (by kernel_rfl) (by kernel_rfl) (fun _ _ _ h => h) (Or.inl ⟨by rfl, ?_⟩) (by assumption) ?_
  rotate_left
  · (intro w hSw; (try dsimp only at hSw); go_split_ands; go_simp; try with_reducible rfl)
  try simp only [List.getElem_toArray, List.getElem_cons_succ, List.getElem_cons_zero, Act.put, List.setIfInBounds_toArray, List.set_cons_zero, List.set_cons_succ]
  refine wpAnyH_take (i := 1) (v := ?_) rfl (by kernel_rfl) (by kernel_rfl) (by kernel_rfl) (fun _ _ _ h => h) (Or.inl ⟨by rfl, ?_⟩) (by assumption) ?_
  rotate_left
  · (intro w hSw; (try dsimp only at hSw); go_split_ands; go_simp; try with_reducible rfl)
  try simp only [List.getElem_toArray, List.getElem_cons_succ, List.getElem_cons_zero, Act.put, List.setIfInBounds_toArray, List.set_cons_zero, List.set_cons_succ]
  refine wpAnyH_take (i := 2) (v := ?_) rfl (by kernel_rfl) (by kernel_rfl) (by kernel_rfl) (fun _ _ _ h => h) (Or.inl ⟨by rfl, ?_⟩) (by assumption) ?_
  rotate_left
  · (intro w hSw; (try dsimp only at hSw); go_split_ands; go_simp; try with_reducible rfl)
  try simp only [List.getElem_toArray, List.getElem_cons_succ, List.getElem_cons_zero, Act.put, List.setIfInBounds_toArray, List.set_cons_zero, List.set_cons_succ]
  refine wpAnyH_take (i := 3) (v := ?_) rfl (by kernel_rfl) (by kernel_rfl) (by kernel_rfl) (fun _ _ _ h => h) (Or.inl ⟨by rfl, ?_⟩) (by assumption) ?_
  rotate_left
  · (intro w hSw; (try dsimp only at hSw); go_split_ands; go_simp; try with_reducible rfl)
  try simp only [List.getElem_toArray, List.getElem_cons_succ, List.getElem_cons_zero, Act.put, List.setIfInBounds_toArray, List.set_cons_zero, List.set_cons_succ]
  refine wpAnyH_take (i := 4) (v := ?_) rfl (by kernel_rfl) (by kernel_rfl) (by kernel_rfl) (fun _ _ _ h => h) (Or.inl ⟨by rfl, ?_⟩) (by assumption) ?_
  rotate_left
  · (intro w hSw; (try dsimp only at hSw); go_split_ands; go_simp; try with_reducible rfl)
  try simp only [List.getElem_toArray, List.getElem_cons_succ, List.getElem_cons_zero, Act.put, List.setIfInBounds_toArray, List.set_cons_zero, List.set_cons_succ]
  refine wpAnyH_take (i := 5) (v := ?_) rfl (by kernel_rfl) (by kernel_rfl) (by kernel_rfl) (fun _ _ _ h => h) (Or.inl ⟨by rfl, ?_⟩) (by assumption) ?_
  rotate_left
  · (intro w hSw; (try dsimp only at hSw); go_split_ands; go_simp; try with_reducible rfl)
  try simp only [List.getElem_toArray, List.getElem_cons_succ, List.getElem_cons_zero, Act.put, List.setIfInBounds_toArray, List.set_cons_zero, List.set_cons_succ]
  refine wpAnyH_take (i := 6) (v := ?_) rfl (by kernel_rfl) (by kernel_rfl) (by kernel_rfl) (fun _ _ _ h => h) (Or.inl ⟨by rfl, ?_⟩) (by assumption) ?_
  rotate_left
  · (intro w hSw; (try dsimp only at hSw); go_split_ands; go_simp; try with_reducible rfl)
  try simp only [List.getElem_toArray, List.getElem_cons_succ, List.getElem_cons_zero, Act.put, List.setIfInBounds_toArray, List.set_cons_zero, List.set_cons_succ]
  refine wpAnyH_take (i := 7) (v := ?_) rfl (by kernel_rfl) (by kernel_rfl) (by kernel_rfl) (fun _ _ _ h => h) (Or.inl ⟨by rfl, ?_⟩) (by assumption) ?_
  rotate_left
  · (intro w hSw; (try dsimp only at hSw); go_split_ands; go_simp; try with_reducible rfl)
  try simp only [List.getElem_toArray, List.getElem_cons_succ, List.getElem_cons_zero, Act.put, List.setIfInBounds_toArray, List.set_cons_zero, List.set_cons_succ]
  refine wpAnyH_take (i := 8) (v := ?_) rfl (by kernel_rfl) (by kernel_rfl) (by kernel_rfl) (fun _ _ _ h => h) (Or.inl ⟨by rfl, ?_⟩) (by assumption) ?_
  rotate_left
  · (intro w hSw; (try dsimp only at hSw); go_split_ands; go_simp; try with_reducible rfl)
  try simp only [List.getElem_toArray, List.getElem_cons_succ, List.getElem_cons_zero, Act.put, List.setIfInBounds_toArray, List.set_cons_zero, List.set_cons_succ]
  refine wpAnyH_take (i := 9) (v := ?_) rfl (by kernel_rfl) (by kernel_rfl) (by kernel_rfl) (fun _ _ _ h => h) (Or.inl ⟨by rfl, ?_⟩) (by assumption) ?_
  rotate_left
  · (intro w hSw; (try dsimp only at hSw); go_split_ands; go_simp; try with_reducible rfl)
  try simp only [List.getElem_toArray, List.getElem_cons_succ, List.getElem_cons_zero, Act.put, List.setIfInBounds_toArray, List.set_cons_zero, List.set_cons_succ]
  refine wpAnyH_take (i := 10) (v := ?_) rfl (by kernel_rfl) (by kernel_rfl) (by kernel_rfl) (fun _ _ _ h => h) (Or.inl ⟨by rfl, ?_⟩) (by assumption) ?_
  rotate_left
  · (intro w hSw; (try dsimp only at hSw); go_split_ands; go_simp; try with_reducible rfl)
  try simp only [List.getElem_toArray, List.getElem_cons_succ, List.getElem_cons_zero, Act.put, List.setIfInBounds_toArray, List.set_cons_zero, List.set_cons_succ]
  refine wpAnyH_done (by kernel_rfl) ?_ _
  go_wp2
  go_ret
  exact ⟨rfl, o, H.out.below (below_drew (Below.refl _ _)), fun _ _ => rfl, (Upd.refl _ _).drew⟩
set_option maxHeartbeats 1000000 in
set_option maxRecDepth 100000 in
theorem delete1_some (h : DrumIs w o g mb F room left dead ops) {n : Int} (hn : 1 ≤ n ∧ n ≤ 1000) {bD bN : Nat} (h2 : Boxed w o g mb bD (dptr g)) (h3 : Boxed w o g mb bN (.int .i64 n)) {s r : List Int} (hF : F n = some (s, r)) :
    Calls Try.prog 39 #[dptr bD, dptr bN] w fun e w' => e = .returned (.int .i64 0) ∧ Did w w' o g mb (upF F n none) room left dead ops := by
  have H := Lib.hid h
  obtain ⟨fb, hm, hfs⟩ := h.ex
  have HFS := Lib.hid hfs
  have hc0 : w.cell? ⟨g, 0, none⟩ = some (.map (some mb)) := h.blk.cell 0
  have hld := (hm.below (below_drew (Below.refl _ w))).look (x := n) (WalkArith.wf_i64 (by omega))
  have hl1 : (ptrs F fb n) = some (.pointer (some ⟨fb n, 0, none⟩)) := by simp [ptrs, hF]
  rw [hl1] at hld
  simp only [Option.getD_some, Option.isSome_some] at hld
  have hx2 := h2.1; have hx3 := h3.1
  have HL1 := Lib.hid hl1; clear hl1
  have HM := Lib.hid hm
  have hszr := szF_le F (n := n) (by omega) (by omega)
  rw [hF] at hszr
  simp only [szF] at hszr
  have hfit := h.fit; have hbig := h.big
  obtain ⟨hofn, vs, vr, hBf, hRs, hRr, hos, hor, hsr⟩ := hfs n (s, r) hF
  obtain ⟨Ar, cr, rfl, hrd⟩ := hRr.reads
  obtain ⟨As, cs, rfl, _⟩ := hRs.reads
  have HQ := Lib.hid (And.intro hfit (And.intro hbig hszr))
  have hf0 : w.cell? ⟨fb n, 0, none⟩ = some (.slice As s.length cs) := hBf.cell 0
  have hf1 : w.cell? ⟨fb n, 1, none⟩ = some (.slice Ar r.length cr) := hBf.cell 1
  have hbg := h.blk
  have hcg1 : w.cell? ⟨g, 1, none⟩ = some (.int .i64 (room - sumF F)) := hbg.cell 1
  have hfzg := hbg.frozen 1
  have HBG := Lib.hid hbg
  have e7 : RowKit.Hid (IntKind.i64.wrap ((s.length : Int) + (r.length : Int)) = (s.length : Int) + (r.length : Int) ∧ IntKind.i64.wrap ((room : Int) - sumF F + ((s.length : Int) + (r.length : Int))) = (room : Int) - sumF F + ((s.length : Int) + (r.length : Int))) := Lib.hid (by
    rw [Go.IntWalk.i64_left, Go.IntWalk.i64_left]
    exact ⟨w64 (by omega) (by omega), w64 (by omega) (by omega)⟩)
  have hgD : bD ≠ g := fun e => h2.2 (.inl e)
  have hgN : bN ≠ g := fun e => h3.2 (.inl e)
  have hgm := h.ne
  have HGM := Lib.hid hgm
  have hx2a : ∀ u, (w.setCell ⟨g, 1, none⟩ u).cell? ⟨bD, 0, none⟩ = some (dptr g) := fun u => (World.cell?_of_block (w := w) (Below.heap_setCell _ _ _ _ hgD)).trans hx2
  have hx3a : ∀ u, (w.setCell ⟨g, 1, none⟩ u).cell? ⟨bN, 0, none⟩ = some (.int .i64 n) := fun u => (World.cell?_of_block (w := w) (Below.heap_setCell _ _ _ _ hgN)).trans hx3
  have HXA := Lib.hid (And.intro hx2a hx3a)
  clear h hm hfs h2 h3 hRs hRr hrd hBf hofn hos hor hsr hfit hbig hszr hbg hgD hgN hgm hx2a hx3a
  go_enter Try.func39, Try.ntmps39
  go_upto_region 1 with fail
  refine wp_region_held (S := (fun W => W.cell? ⟨bD, 0, none⟩ = some (dptr g) ∧ W.cell? ⟨g, 0, none⟩ = some (.map (some mb)) ∧ W.cell? ⟨bN, 0, none⟩ = some (.int .i64 n) ∧ (Instr.lookup 62 (.map (some mb)) (.int .i64 n) true).run Try.prog W = .ok (.tuple #[.pointer (some ⟨fb n, 0, none⟩), .bool true]) W)) (by kernel_rfl) ?_
  simp only [List.size_toArray, List.length_cons, List.length_nil, Nat.zero_add, Nat.reduceAdd]
  have hHeld : ((fun W => W.cell? ⟨bD, 0, none⟩ = some (dptr g) ∧ W.cell? ⟨g, 0, none⟩ = some (.map (some mb)) ∧ W.cell? ⟨bN, 0, none⟩ = some (.int .i64 n) ∧ (Instr.lookup 62 (.map (some mb)) (.int .i64 n) true).run Try.prog W = .ok (.tuple #[.pointer (some ⟨fb n, 0, none⟩), .bool true]) W)) w.drew := ⟨hx2, hc0, hx3, hld⟩
  refine wpAnyH_take (i := 0) (v := ?_) rfl (by kernel_rfl) (by kernel_rfl) (by kernel_rfl) (fun _ _ _ h => h) (Or.inl ⟨by rfl, ?_⟩) (by assumption) ?_
  rotate_left
  · (intro w hSw; (try dsimp only at hSw); go_split_ands; go_simp; try with_reducible rfl)
  try simp only [List.getElem_toArray, List.getElem_cons_succ, List.getElem_cons_zero, Act.put, List.setIfInBounds_toArray, List.set_cons_zero, List.set_cons_succ]
  refine wpAnyH_take (i := 1) (v := ?_) rfl (by kernel_rfl) (by kernel_rfl) (by kernel_rfl) (fun _ _ _ h => h) (Or.inl ⟨by rfl, ?_⟩) (by assumption) ?_
  rotate_left
  · (intro w hSw; (try dsimp only at hSw); go_split_ands; go_simp; try with_reducible rfl)
  try simp only [List.getElem_toArray, List.getElem_cons_succ, List.getElem_cons_zero, Act.put, List.setIfInBounds_toArray, List.set_cons_zero, List.set_cons_succ]
  refine wpAnyH_take (i := 2) (v := ?_) rfl (by kernel_rfl) (by kernel_rfl) (by kernel_rfl) (fun _ _ _ h => h) (Or.inl ⟨by rfl, ?_⟩) (by assumption) ?_
  rotate_left
  · (intro w hSw; (try dsimp only at hSw); go_split_ands; go_simp; try with_reducible rfl)
  try simp only [List.getElem_toArray, List.getElem_cons_succ, List.getElem_cons_zero, Act.put, List.setIfInBounds_toArray, List.set_cons_zero, List.set_cons_succ]
  refine wpAnyH_take (i := 3) (v := ?_) rfl (by kernel_rfl) (by kernel_rfl) (by kernel_rfl) (fun _ _ _ h => h) (Or.inl ⟨by rfl, ?_⟩) (by assumption) ?_
  rotate_left
  · (intro w hSw; (try dsimp only at hSw); go_split_ands; go_simp; try with_reducible rfl)
  try simp only [List.getElem_toArray, List.getElem_cons_succ, List.getElem_cons_zero, Act.put, List.setIfInBounds_toArray, List.set_cons_zero, List.set_cons_succ]
  refine wpAnyH_take (i := 4) (v := ?_) rfl (by kernel_rfl) (by kernel_rfl) (by kernel_rfl) (fun _ _ _ h => h) (Or.inl ⟨by rfl, ?_⟩) (by assumption) ?_
  rotate_left
  · (intro w hSw; (try dsimp only at hSw); go_split_ands; go_simp; try with_reducible rfl)
  try simp only [List.getElem_toArray, List.getElem_cons_succ, List.getElem_cons_zero, Act.put, List.setIfInBounds_toArray, List.set_cons_zero, List.set_cons_succ]
  refine wpAnyH_take (i := 5) (v := ?_) rfl (by kernel_rfl) (by kernel_rfl) (by kernel_rfl) (fun _ _ _ h => h) (Or.inl ⟨by rfl, ?_⟩) (by assumption) ?_
  rotate_left
  · (intro w hSw; (try dsimp only at hSw); go_split_ands; go_simp; try with_reducible rfl)
  try simp only [List.getElem_toArray, List.getElem_cons_succ, List.getElem_cons_zero, Act.put, List.setIfInBounds_toArray, List.set_cons_zero, List.set_cons_succ]
  refine wpAnyH_take (i := 6) (v := ?_) rfl (by kernel_rfl) (by kernel_rfl) (by kernel_rfl) (fun _ _ _ h => h) (Or.inl ⟨by rfl, ?_⟩) (by assumption) ?_
  rotate_left
  · (intro w hSw; (try dsimp only at hSw); go_split_ands; go_simp; try with_reducible rfl)
  try simp only [List.getElem_toArray, List.getElem_cons_succ, List.getElem_cons_zero, Act.put, List.setIfInBounds_toArray, List.set_cons_zero, List.set_cons_succ]
  refine wpAnyH_take (i := 7) (v := ?_) rfl (by kernel_rfl) (by kernel_rfl) (by kernel_rfl) (fun _ _ _ h => h) (Or.inl ⟨by rfl, ?_⟩) (by assumption) ?_
  rotate_left
  · (intro w hSw; (try dsimp only at hSw); go_split_ands; go_simp; try with_reducible rfl)
  try simp only [List.getElem_toArray, List.getElem_cons_succ, List.getElem_cons_zero, Act.put, List.setIfInBounds_toArray, List.set_cons_zero, List.set_cons_succ]
  refine wpAnyH_take (i := 8) (v := ?_) rfl (by kernel_rfl) (by kernel_rfl) (by kernel_rfl) (fun _ _ _ h => h) (Or.inl ⟨by rfl, ?_⟩) (by assumption) ?_
  rotate_left
  · (intro w hSw; (try dsimp only at hSw); go_split_ands; go_simp; try with_reducible rfl)
  try simp only [List.getElem_toArray, List.getElem_cons_succ, List.getElem_cons_zero, Act.put, List.setIfInBounds_toArray, List.set_cons_zero, List.set_cons_succ]
  refine wpAnyH_take (i := 9) (v := ?_) rfl (by kernel_rfl) (by kernel_rfl) (by kernel_rfl) (fun _ _ _ h => h) (Or.inl ⟨by rfl, ?_⟩) (by assumption) ?_
  rotate_left
  · (intro w hSw; (try dsimp only at hSw); go_split_ands; go_simp; try with_reducible rfl)
  try simp only [List.getElem_toArray, List.getElem_cons_succ, List.getElem_cons_zero, Act.put, List.setIfInBounds_toArray, List.set_cons_zero, List.set_cons_succ]
  refine wpAnyH_take (i := 10) (v := ?_) rfl (by kernel_rfl) (by kernel_rfl) (by kernel_rfl) (fun _ _ _ h => h) (Or.inl ⟨by rfl, ?_⟩) (by assumption) ?_
  rotate_left
  · (intro w hSw; (try dsimp only at hSw); go_split_ands; go_simp; try with_reducible rfl)
  try simp only [List.getElem_toArray, List.getElem_cons_succ, List.getElem_cons_zero, Act.put, List.setIfInBounds_toArray, List.set_cons_zero, List.set_cons_succ]
  refine wpAnyH_done (by kernel_rfl) ?_ _
  clear hHeld hld
  go_upto_region 4 with fail
  obtain ⟨hE7, hE8⟩ := e7.out
  generalize hfr : ((room : Int) - sumF F) = fr at *
  have HFR := Lib.hid hfr; clear hfr
  refine wp_region_last1_held (S := (fun W => W.cell? ⟨bD, 0, none⟩ = some (dptr g) ∧ W.cell? ⟨g, 1, none⟩ = some (.int .i64 fr) ∧ W.cell? ⟨fb n, 0, none⟩ = some (.slice As s.length cs) ∧ W.cell? ⟨fb n, 1, none⟩ = some (.slice Ar r.length cr))) (l := [_, _, _, _, _, _, _, _, _, _, _, _, _, _, _, _, _, _]) (o := _) (by kernel_rfl) (by kernel_rfl) ?_
  simp only [List.size_toArray, List.length_cons, List.length_nil, Nat.zero_add, Nat.reduceAdd]
  have hHeld : ((fun W => W.cell? ⟨bD, 0, none⟩ = some (dptr g) ∧ W.cell? ⟨g, 1, none⟩ = some (.int .i64 fr) ∧ W.cell? ⟨fb n, 0, none⟩ = some (.slice As s.length cs) ∧ W.cell? ⟨fb n, 1, none⟩ = some (.slice Ar r.length cr))) w.drew.drew := ⟨hx2, hcg1, hf0, hf1⟩
  refine wpAnyH_take (i := 0) (v := ?_) rfl (by kernel_rfl) (by kernel_rfl) (by kernel_rfl) (fun _ _ _ h => h) (Or.inl ⟨by rfl, ?_⟩) (by assumption) ?_
  rotate_left
  · (intro w hSw; (try dsimp only at hSw); go_split_ands; go_simp; try with_reducible rfl)
  try simp only [List.getElem_toArray, List.getElem_cons_succ, List.getElem_cons_zero, Act.put, List.setIfInBounds_toArray, List.set_cons_zero, List.set_cons_succ]
  refine wpAnyH_take (i := 1) (v := ?_) rfl (by kernel_rfl) (by kernel_rfl) (by kernel_rfl) (fun _ _ _ h => h) (Or.inl ⟨by rfl, ?_⟩) (by assumption) ?_
  rotate_left
  · (intro w hSw; (try dsimp only at hSw); go_split_ands; go_simp; try with_reducible rfl)
  try simp only [List.getElem_toArray, List.getElem_cons_succ, List.getElem_cons_zero, Act.put, List.setIfInBounds_toArray, List.set_cons_zero, List.set_cons_succ]
  refine wpAnyH_take (i := 2) (v := ?_) rfl (by kernel_rfl) (by kernel_rfl) (by kernel_rfl) (fun _ _ _ h => h) (Or.inl ⟨by rfl, ?_⟩) (by assumption) ?_
  rotate_left
  · (intro w hSw; (try dsimp only at hSw); go_split_ands; go_simp; try with_reducible rfl)
  try simp only [List.getElem_toArray, List.getElem_cons_succ, List.getElem_cons_zero, Act.put, List.setIfInBounds_toArray, List.set_cons_zero, List.set_cons_succ]
  refine wpAnyH_take (i := 3) (v := ?_) rfl (by kernel_rfl) (by kernel_rfl) (by kernel_rfl) (fun _ _ _ h => h) (Or.inl ⟨by rfl, ?_⟩) (by assumption) ?_
  rotate_left
  · (intro w hSw; (try dsimp only at hSw); go_split_ands; go_simp; try with_reducible rfl)
  try simp only [List.getElem_toArray, List.getElem_cons_succ, List.getElem_cons_zero, Act.put, List.setIfInBounds_toArray, List.set_cons_zero, List.set_cons_succ]
  refine wpAnyH_take (i := 4) (v := ?_) rfl (by kernel_rfl) (by kernel_rfl) (by kernel_rfl) (fun _ _ _ h => h) (Or.inl ⟨by rfl, ?_⟩) (by assumption) ?_
  rotate_left
  · (intro w hSw; (try dsimp only at hSw); go_split_ands; go_simp; try with_reducible rfl)
  try simp only [List.getElem_toArray, List.getElem_cons_succ, List.getElem_cons_zero, Act.put, List.setIfInBounds_toArray, List.set_cons_zero, List.set_cons_succ]
  refine wpAnyH_take (i := 5) (v := ?_) rfl (by kernel_rfl) (by kernel_rfl) (by kernel_rfl) (fun _ _ _ h => h) (Or.inl ⟨by rfl, ?_⟩) (by assumption) ?_
  rotate_left
  · (intro w hSw; (try dsimp only at hSw); go_split_ands; go_simp; try with_reducible rfl)
  try simp only [List.getElem_toArray, List.getElem_cons_succ, List.getElem_cons_zero, Act.put, List.setIfInBounds_toArray, List.set_cons_zero, List.set_cons_succ]
  refine wpAnyH_take (i := 6) (v := ?_) rfl (by kernel_rfl) (by kernel_rfl) (by kernel_rfl) (fun _ _ _ h => h) (Or.inl ⟨by rfl, ?_⟩) (by assumption) ?_
  rotate_left
  · (intro w hSw; (try dsimp only at hSw); go_split_ands; go_simp; try with_reducible rfl)
  try simp only [List.getElem_toArray, List.getElem_cons_succ, List.getElem_cons_zero, Act.put, List.setIfInBounds_toArray, List.set_cons_zero, List.set_cons_succ]
  refine wpAnyH_take (i := 7) (v := ?_) rfl (by kernel_rfl) (by kernel_rfl) (by kernel_rfl) (fun _ _ _ h => h) (Or.inl ⟨by rfl, ?_⟩) (by assumption) ?_
  rotate_left
  · (intro w hSw; (try dsimp only at hSw); go_split_ands; go_simp; try with_reducible rfl)
  try simp only [List.getElem_toArray, List.getElem_cons_succ, List.getElem_cons_zero, Act.put, List.setIfInBounds_toArray, List.set_cons_zero, List.set_cons_succ]
  refine wpAnyH_take (i := 8) (v := ?_) rfl (by kernel_rfl) (by kernel_rfl) (by kernel_rfl) (fun _ _ _ h => h) (Or.inl ⟨by rfl, ?_⟩) (by assumption) ?_
  rotate_left
  · (intro w hSw; (try dsimp only at hSw); go_split_ands; go_simp; try with_reducible rfl)
  try simp only [List.getElem_toArray, List.getElem_cons_succ, List.getElem_cons_zero, Act.put, List.setIfInBounds_toArray, List.set_cons_zero, List.set_cons_succ]
  refine wpAnyH_take (i := 9) (v := ?_) rfl (by kernel_rfl) (by kernel_rfl) (by kernel_rfl) (fun _ _ _ h => h) (Or.inl ⟨by rfl, ?_⟩) (by assumption) ?_
  rotate_left
  · (intro w hSw; (try dsimp only at hSw); go_split_ands; go_simp; try with_reducible rfl)
  try simp only [List.getElem_toArray, List.getElem_cons_succ, List.getElem_cons_zero, Act.put, List.setIfInBounds_toArray, List.set_cons_zero, List.set_cons_succ]
  refine wpAnyH_take (i := 10) (v := ?_) rfl (by kernel_rfl) (by kernel_rfl) (by kernel_rfl) (fun _ _ _ h => h) (Or.inl ⟨by rfl, ?_⟩) (by assumption) ?_
  rotate_left
  · (intro w hSw; (try dsimp only at hSw); go_split_ands; go_simp; try with_reducible rfl)
  try simp only [List.getElem_toArray, List.getElem_cons_succ, List.getElem_cons_zero, Act.put, List.setIfInBounds_toArray, List.set_cons_zero, List.set_cons_succ]
  refine wpAnyH_take (i := 11) (v := ?_) rfl (by kernel_rfl) (by kernel_rfl) (by kernel_rfl) (fun _ _ _ h => h) (Or.inl ⟨by rfl, ?_⟩) (by assumption) ?_
  rotate_left
  · (intro w hSw; (try dsimp only at hSw); go_split_ands; go_simp; try with_reducible rfl)
  try simp only [List.getElem_toArray, List.getElem_cons_succ, List.getElem_cons_zero, Act.put, List.setIfInBounds_toArray, List.set_cons_zero, List.set_cons_succ]
  refine wpAnyH_take (i := 12) (v := ?_) rfl (by kernel_rfl) (by kernel_rfl) (by kernel_rfl) (fun _ _ _ h => h) (Or.inl ⟨by rfl, ?_⟩) (by assumption) ?_
  rotate_left
  · (intro w hSw; (try dsimp only at hSw); go_split_ands; go_simp; try with_reducible rfl)
  try simp only [List.getElem_toArray, List.getElem_cons_succ, List.getElem_cons_zero, Act.put, List.setIfInBounds_toArray, List.set_cons_zero, List.set_cons_succ]
  refine wpAnyH_take (i := 13) (v := ?_) rfl (by kernel_rfl) (by kernel_rfl) (by kernel_rfl) (fun _ _ _ h => h) (Or.inl ⟨by rfl, ?_⟩) (by assumption) ?_
  rotate_left
  · (intro w hSw; (try dsimp only at hSw); go_split_ands; go_simp; try with_reducible rfl)
  try simp only [List.getElem_toArray, List.getElem_cons_succ, List.getElem_cons_zero, Act.put, List.setIfInBounds_toArray, List.set_cons_zero, List.set_cons_succ]
  refine wpAnyH_take (i := 14) (v := ?_) rfl (by kernel_rfl) (by kernel_rfl) (by kernel_rfl) (fun _ _ _ h => h) (Or.inl ⟨by rfl, ?_⟩) (by assumption) ?_
  rotate_left
  · (intro w hSw; (try dsimp only at hSw); go_split_ands; go_simp; try with_reducible rfl)
  try simp only [List.getElem_toArray, List.getElem_cons_succ, List.getElem_cons_zero, Act.put, List.setIfInBounds_toArray, List.set_cons_zero, List.set_cons_succ]
  refine wpAnyH_take (i := 15) (v := ?_) rfl (by kernel_rfl) (by kernel_rfl) (by kernel_rfl) (fun _ _ _ h => h) (Or.inl ⟨by rfl, ?_⟩) (by assumption) ?_
  rotate_left
  · (intro w hSw; (try dsimp only at hSw); go_split_ands; go_simp; try with_reducible rfl)
  try simp only [List.getElem_toArray, List.getElem_cons_succ, List.getElem_cons_zero, Act.put, List.setIfInBounds_toArray, List.set_cons_zero, List.set_cons_succ]
  refine wpAnyH_take (i := 16) (v := ?_) rfl (by kernel_rfl) (by kernel_rfl) (by kernel_rfl) (fun _ _ _ h => h) (Or.inl ⟨by rfl, ?_⟩) (by assumption) ?_
  rotate_left
  · (intro w hSw; (try dsimp only at hSw); go_split_ands; go_simp; try with_reducible rfl)
  try simp only [List.getElem_toArray, List.getElem_cons_succ, List.getElem_cons_zero, Act.put, List.setIfInBounds_toArray, List.set_cons_zero, List.set_cons_succ]
  refine wpAnyH_take (i := 17) (v := ?_) rfl (by kernel_rfl) (by kernel_rfl) (by kernel_rfl) (fun _ _ _ h => h) (Or.inl ⟨by rfl, ?_⟩) (by assumption) ?_
  rotate_left
  · (intro w hSw; (try dsimp only at hSw); go_split_ands; go_simp; try with_reducible rfl)
  try simp only [List.getElem_toArray, List.getElem_cons_succ, List.getElem_cons_zero, Act.put, List.setIfInBounds_toArray, List.set_cons_zero, List.set_cons_succ]
  refine wpAnyH_done (by kernel_rfl) ?_ _
  refine lastPost_wp ?_
  go_upto_region 5 with fail
  clear hcg1 hfzg hE7 hE8 e7 hHeld hf0 hf1
  have hu8 : Upd w ((w.setCell ⟨g, 1, none⟩ (.int .i64 (fr + ((s.length : Int) + r.length)))).drew.drew) (· = g) := ((Upd.refl w (· = g)).setCell (p := ⟨g, 1, none⟩) (.inl rfl) _).drew.drew
  have hB8 : Blk ((w.setCell ⟨g, 1, none⟩ (.int .i64 (fr + ((s.length : Int) + r.length)))).drew.drew) g 64 #[.map (some mb), .int .i64 (fr + ((s.length : Int) + r.length)), .int .i64 left, .bool dead, .int .i64 ops] := HBG.out.set_ 1 (.int .i64 (fr + ((s.length : Int) + r.length)))
  have hx2b : ((w.setCell ⟨g, 1, none⟩ (.int .i64 (fr + ((s.length : Int) + r.length)))).drew.drew).cell? ⟨bD, 0, none⟩ = some (dptr g) := HXA.out.1 _
  have hx3b : ((w.setCell ⟨g, 1, none⟩ (.int .i64 (fr + ((s.length : Int) + r.length)))).drew.drew).cell? ⟨bN, 0, none⟩ = some (.int .i64 n) := HXA.out.2 _
  generalize (w.setCell ⟨g, 1, none⟩ (.int .i64 (fr + ((s.length : Int) + r.length)))).drew.drew = w8 at *
  clear hx2 hx3 hc0
  have hc08 : w8.cell? ⟨g, 0, none⟩ = some (.map (some mb)) := hB8.cell 0
  have hm8 := HM.out.upd hu8 (fun e => HGM.out e.symm)
  obtain ⟨w9, hdel, hm9, hu9⟩ := (hm8.below (below_drew (Below.refl _ w8))).del (x := n) (WalkArith.wf_i64 (by omega)) (by omega) (by omega) HL1.out 0
  have HD := Lib.hid (And.intro hu8 (And.intro hB8 (And.intro hm9 hu9)))
  clear hu8 hB8 hm8 hm9 hu9
  refine wp_region_last1_held (S := (fun W => W.cell? ⟨bD, 0, none⟩ = some (dptr g) ∧ W.cell? ⟨g, 0, none⟩ = some (.map (some mb)) ∧ W.cell? ⟨bN, 0, none⟩ = some (.int .i64 n))) (l := [_, _, _, _, _]) (o := _) (by kernel_rfl) (by kernel_rfl) ?_
  simp only [List.size_toArray, List.length_cons, List.length_nil, Nat.zero_add, Nat.reduceAdd]
  have hHeld : ((fun W => W.cell? ⟨bD, 0, none⟩ = some (dptr g) ∧ W.cell? ⟨g, 0, none⟩ = some (.map (some mb)) ∧ W.cell? ⟨bN, 0, none⟩ = some (.int .i64 n))) w8.drew := ⟨hx2b, hc08, hx3b⟩
  refine wpAnyH_take (i := 0) (v := ?_) rfl (by kernel_rfl) (by kernel_rfl) (by kernel_rfl) (fun _ _ _ h => h) (Or.inl ⟨by rfl, ?_⟩) (by assumption) ?_
  rotate_left
  · (intro w hSw; (try dsimp only at hSw); go_split_ands; go_simp; try with_reducible rfl)
  try simp only [List.getElem_toArray, List.getElem_cons_succ, List.getElem_cons_zero, Act.put, List.setIfInBounds_toArray, List.set_cons_zero, List.set_cons_succ]
  refine wpAnyH_take (i := 1) (v := ?_) rfl (by kernel_rfl) (by kernel_rfl) (by kernel_rfl) (fun _ _ _ h => h) (Or.inl ⟨by rfl, ?_⟩) (by assumption) ?_
  rotate_left
  · (intro w hSw; (try dsimp only at hSw); go_split_ands; go_simp; try with_reducible rfl)
  try simp only [List.getElem_toArray, List.getElem_cons_succ, List.getElem_cons_zero, Act.put, List.setIfInBounds_toArray, List.set_cons_zero, List.set_cons_succ]
  refine wpAnyH_take (i := 2) (v := ?_) rfl (by kernel_rfl) (by kernel_rfl) (by kernel_rfl) (fun _ _ _ h => h) (Or.inl ⟨by rfl, ?_⟩) (by assumption) ?_
  rotate_left
  · (intro w hSw; (try dsimp only at hSw); go_split_ands; go_simp; try with_reducible rfl)
  try simp only [List.getElem_toArray, List.getElem_cons_succ, List.getElem_cons_zero, Act.put, List.setIfInBounds_toArray, List.set_cons_zero, List.set_cons_succ]
  refine wpAnyH_take (i := 3) (v := ?_) rfl (by kernel_rfl) (by kernel_rfl) (by kernel_rfl) (fun _ _ _ h => h) (Or.inl ⟨by rfl, ?_⟩) (by assumption) ?_
  rotate_left
  · (intro w hSw; (try dsimp only at hSw); go_split_ands; go_simp; try with_reducible rfl)
  try simp only [List.getElem_toArray, List.getElem_cons_succ, List.getElem_cons_zero, Act.put, List.setIfInBounds_toArray, List.set_cons_zero, List.set_cons_succ]
  refine wpAnyH_take (i := 4) (v := ?_) rfl (by kernel_rfl) (by kernel_rfl) (by kernel_rfl) (fun _ _ _ h => h) (Or.inl ⟨by rfl, ?_⟩) (by assumption) ?_
  rotate_left
  · (intro w hSw; (try dsimp only at hSw); go_split_ands; go_simp; try with_reducible rfl)
  try simp only [List.getElem_toArray, List.getElem_cons_succ, List.getElem_cons_zero, Act.put, List.setIfInBounds_toArray, List.set_cons_zero, List.set_cons_succ]
  refine wpAnyH_done (by kernel_rfl) ?_ _
  refine lastPost_wp ?_
  clear hHeld hx2b hx3b hc08
  go_wp2
  go_ret
  obtain ⟨hu8, hB8, hm9, hu9⟩ := HD.out
  refine ⟨rfl, delete_done H.out HFS.out hn hF ((hu8.mono fun k _ hk => .inl hk).trans (((Upd.refl w8 _).drew).trans (hu9.mono fun k _ hk => .inr hk))) ?_ hm9⟩
  rw [HFR.out]
  exact hB8.drew.upd hu9 HGM.out
theorem drDelete_by (h : DrumIs w o g mb F room left dead ops) (n : Int) {R : Ending → World → Prop}
    (hop : ∀ W, TwoBoxes w W o g mb n → Calls Try.prog 30 #[dptr g, .int .i64 n, .func (.func 39) #[] #[dptr w.heap.size, dptr (w.heap.size + 1)]] W fun e w' => ∃ x, e = .returned (.int .i64 x) ∧ R (.returned (.int .i64 x)) w') :
    Calls Try.prog 24 #[dptr g, .int .i64 n] w R := by
  have hx := two_boxes h n
  obtain ⟨w3, hw3⟩ : ∃ w3, ((w.alloc (.cells #[dptr g] 24)).alloc (.cells #[.int .i64 n] 3)) = w3 := ⟨_, rfl⟩
  rw [hw3] at hx
  have HOP := Lib.hid (hop _ hx)
  have hc0 := hx.b0.1
  have hc1 := hx.b1.1
  clear hop hx h
  go_enter Try.func24, Try.ntmps24
  go_wp2_with fail
  refine HOP.out.mono ?_
  rintro e w' ⟨x, rfl, hR⟩
  go_wp2
  exact hR
theorem entersDel : ∀ args w, (callFunc 39 args).run Try.prog w = .ok (.enter 39 args) w := enters_of Try.func39 (by kernel_rfl) rfl
theorem drDelete_ok (h : DrumIs w o g mb F room left false ops) {n : Int} (hn : 1 ≤ n ∧ n ≤ 1000) (hl : left ≠ 0) (hl2 : -9223372036854775808 ≤ left) (hl3 : left ≤ 9223372036854775807) (ho : 0 ≤ ops) (ho2 : ops ≤ 1000000000) {s r : List Int} (hF : F n = some (s, r)) :
    Calls Try.prog 24 #[dptr g, .int .i64 n] w fun e w' => e = .returned (.int .i64 0) ∧ Did w w' o g mb (upF F n none) room (decL left) false (ops + 1) := by
  refine drDelete_by h n fun W hb => ?_
  refine (operate_any (h.below hb.below) n hn hl hl2 hl3 ho ho2 39 _ 0 _ entersDel fun W' hu hD => delete1_some hD hn (hb.b0.upd (hu.mono fun _ _ h => .inl h)) (hb.b1.upd (hu.mono fun _ _ h => .inl h)) hF).mono ?_
  rintro e w' ⟨rfl, hd⟩
  exact ⟨0, rfl, rfl, Did.from_ hb.below hd⟩
theorem drDelete_none (h : DrumIs w o g mb F room left false ops) {n : Int} (hn : 1 ≤ n ∧ n ≤ 1000) (hl : left ≠ 0) (hl2 : -9223372036854775808 ≤ left) (hl3 : left ≤ 9223372036854775807) (ho : 0 ≤ ops) (ho2 : ops ≤ 1000000000) (hF : F n = none) :
    Calls Try.prog 24 #[dptr g, .int .i64 n] w fun e w' => e = .returned (.int .i64 7) ∧ Did w w' o g mb F room (decL left) false ops := by
  refine drDelete_by h n fun W hb => ?_
  refine (operate_any (h.below hb.below) n hn hl hl2 hl3 ho ho2 39 _ 7 _ entersDel fun W' hu hD => delete1_none hD hn (hb.b0.upd (hu.mono fun _ _ h => .inl h)) (hb.b1.upd (hu.mono fun _ _ h => .inl h)) hF).mono ?_
  rintro e w' ⟨rfl, hd⟩
  exact ⟨7, rfl, rfl, Did.from_ hb.below hd⟩
theorem drDelete_dead (h : DrumIs w o g mb F room left dead ops) {n : Int} (hn : 1 ≤ n ∧ n ≤ 1000) (hd : dead = true ∨ left = 0) :
    Calls Try.prog 24 #[dptr g, .int .i64 n] w fun e w' => e = .returned (.int .i64 140) ∧ Did w w' o g mb F room left true ops := by
  refine drDelete_by h n fun W hb => ?_
  refine (operate_dead (h.below hb.below) n hn hd _).mono ?_
  rintro e w' ⟨rfl, h1, h2⟩
  exact ⟨140, rfl, rfl, Did.from_ hb.below (h1.did_of h2)⟩
theorem drDelete_arg (h : DrumIs w o g mb F room left dead ops) {n : Int} (hn : n < 1 ∨ 1000 < n) :
    Calls Try.prog 24 #[dptr g, .int .i64 n] w fun e w' => e = .returned (.int .i64 2) ∧ Did w w' o g mb F room left dead ops := by
  refine drDelete_by h n fun W hb => ?_
  refine (operate_arg (h.below hb.below) n hn _).mono ?_
  rintro e w' ⟨rfl, rfl⟩
  exact ⟨2, rfl, rfl, Did.from_ hb.below (h.below hb.below).did⟩
end
end Go.Proofs.Ytnimghkkhiacfaa.P
