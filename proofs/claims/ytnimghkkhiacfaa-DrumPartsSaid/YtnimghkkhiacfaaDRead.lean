/- A drum: Read. -/
import Derived.Test.YtnimghkkhiacfaaDSyncB
namespace Go.Proofs.Ytnimghkkhiacfaa.P
open Go.RowKit Go.Proofs.YtnimghkkhiacfaaW.PrintWords Go.Proofs.YtnimghkkhiacfaaW.PrintLast Go.Proofs.YtnimghkkhiacfaaW.PrintMore
/-- a block of slices reads as lists of bytes. -/
theorem blk_bs {W : World} {g : Nat} {t : TypeId} {cs : Array Value} {ls : List (List Int)} (hb : Blk W g t cs) (hn : ls.length ≤ 1000000) (h : ∀ (j : Nat) p, ls[j]? = some p → ∃ A c, cs[j]? = some (.slice A p.length c) ∧ p.length ≤ c ∧ Kd.C (Kd.int .u8) W A p.length p) : Kd.C kBs W (some ⟨g, 0, none⟩) ls.length ls := by
  refine ⟨rfl, by omega, fun _ => ⟨_, rfl, fun j p hj => ?_⟩⟩
  obtain ⟨A, c, h1, h2, h3⟩ := h j p hj
  refine ⟨[.slice A p.length c], rfl, ⟨A, c, rfl, h2, h3⟩, fun i u hu => ?_⟩
  rcases i with _ | i
  · simp only [List.getElem?_cons_zero, Option.some.injEq] at hu
    subst hu
    rw [add_plain, hb.cell]
    exact (by simpa [kBs, Kd.slice] using h1)
  · simp at hu
theorem C_of_int {W : World} {A : Option Addr} {xs : List Int} (h : ReadsInt W .u8 A xs.length xs) : Kd.C (Kd.int .u8) W A xs.length xs := Kd.C_of_reads (d := (0 : Int)) (readsInt_of.1 h)
theorem Row.C {W : World} {A : Option Addr} {c : Nat} {xs : List Int} (h : Row W (.slice A xs.length c) xs) : xs.length ≤ c ∧ Kd.C (Kd.int .u8) W A xs.length xs := by
  refine ⟨?_, C_of_int (own_reads' h)⟩
  obtain ⟨_, h⟩ := h
  rcases h with ⟨e, hn⟩ | ⟨g, cap, cur, e, _, _, hc, _⟩
  · rw [hn]; exact Nat.zero_le _
  · injection e with _ _ e; rw [e]; exact hc
section
variable {w w1 w' : World} {o : Nat → Int} {g mb : Nat} {F : Files} {room : Nat} {left ops : Int} {dead : Bool}
theorem drRead_arg (h : DrumIs w o g mb F room left dead ops) {n : Int} (hn : n < 1 ∨ 1000 < n) :
    Calls Try.prog 14 #[dptr g, .int .i64 n] w fun e w' => e = .returned (.tuple #[.slice none 0 0, .int .i64 2]) ∧ w' = w := by
  clear h
  go_enter Try.func14, Try.ntmps14
  by_cases h1 : n < 1
  · have d1 : decide (n < 1) = true := decide_eq_true h1
    go_wp2
    go_ret2
    exact ⟨rfl, rfl⟩
  · have d1 : decide (n < 1) = false := decide_eq_false h1
    have d2 : decide (1000 < n) = true := decide_eq_true (by omega)
    go_wp2
    go_ret2
    exact ⟨rfl, rfl⟩
theorem drRead_dead (h : DrumIs w o g mb F room left true ops) {n : Int} (hn : 1 ≤ n ∧ n ≤ 1000) :
    Calls Try.prog 14 #[dptr g, .int .i64 n] w fun e w' => e = .returned (.tuple #[.slice none 0 0, .int .i64 140]) ∧ w' = w := by
  have hc3 : w.cell? ⟨g, 3, none⟩ = some (.bool true) := h.blk.cell 3
  clear h
  have d1 : decide (n < 1) = false := decide_eq_false (by omega)
  have d2 : decide (1000 < n) = false := decide_eq_false (by omega)
  go_enter Try.func14, Try.ntmps14
  go_wp2
  go_ret2
  exact ⟨rfl, rfl⟩
theorem drRead_none (h : DrumIs w o g mb F room left false ops) {n : Int} (hn : 1 ≤ n ∧ n ≤ 1000) (hF : F n = none) :
    Calls Try.prog 14 #[dptr g, .int .i64 n] w fun e w' => e = .returned (.tuple #[.slice none 0 0, .int .i64 7]) ∧ w' = w := by
  obtain ⟨fb, hm, hfs⟩ := h.ex
  have hc0 : w.cell? ⟨g, 0, none⟩ = some (.map (some mb)) := h.blk.cell 0
  have hc3 : w.cell? ⟨g, 3, none⟩ = some (.bool false) := h.blk.cell 3
  have hld := hm.look (x := n) (WalkArith.wf_i64 (by omega))
  have hl1 : (ptrs F fb n) = none := by simp [ptrs, hF]
  rw [hl1] at hld
  simp only [Option.getD_none, Option.isSome_none] at hld
  clear h hm hfs
  have d1 : decide (n < 1) = false := decide_eq_false (by omega)
  have d2 : decide (1000 < n) = false := decide_eq_false (by omega)
  go_enter Try.func14, Try.ntmps14
  go_wp2
  go_ret2
  exact ⟨rfl, rfl⟩
set_option maxHeartbeats 1000000 in
theorem drRead_ok (h : DrumIs w o g mb F room left false ops) {n : Int} (hn : 1 ≤ n ∧ n ≤ 1000) {s r : List Int} (hF : F n = some (s, r)) :
    Calls Try.prog 14 #[dptr g, .int .i64 n] w fun e w' => ∃ v, e = .returned (.tuple #[v, .int .i64 0]) ∧ RowB w' w.heap.size v (s ++ r) ∧ Below w.heap.size w w' := by
  obtain ⟨fb, hm, hfs⟩ := h.ex
  have hc0 : w.cell? ⟨g, 0, none⟩ = some (.map (some mb)) := h.blk.cell 0
  have hc3 : w.cell? ⟨g, 3, none⟩ = some (.bool false) := h.blk.cell 3
  have hld := hm.look (x := n) (WalkArith.wf_i64 (by omega))
  have hl1 : (ptrs F fb n) = some (.pointer (some ⟨fb n, 0, none⟩)) := by simp [ptrs, hF]
  rw [hl1] at hld
  simp only [Option.getD_some, Option.isSome_some] at hld
  have hszr := szF_le F (n := n) (by omega) (by omega)
  rw [hF] at hszr
  simp only [szF] at hszr
  have hfit := h.fit; have hbig := h.big
  obtain ⟨hofn, vs, vr, hBf, hRs, hRr, hos, hor, hsr⟩ := hfs n (s, r) hF
  obtain ⟨Ar, cr, rfl, _⟩ := hRr.reads
  obtain ⟨As, cs, rfl, _⟩ := hRs.reads
  have hf0 : w.cell? ⟨fb n, 0, none⟩ = some (.slice As s.length cs) := hBf.cell 0
  have hf1 : w.cell? ⟨fb n, 1, none⟩ = some (.slice Ar r.length cr) := hBf.cell 1
  obtain ⟨wl, hwl⟩ : ∃ wl, w.drew.alloc (.cells #[.slice As s.length cs, .slice Ar r.length cr] 22) = wl := ⟨_, rfl⟩
  have hbl : Below w.heap.size w wl := hwl ▸ (below_drew (Below.refl _ w)).alloc (Nat.le_refl _) _
  have hBl : Blk wl w.heap.size 22 #[.slice As s.length cs, .slice Ar r.length cr] := hwl ▸ Blk.new w.drew 22 _
  have hcs := hRs.C; have hcr := hRr.C
  have hlen : s.length + r.length ≤ 4194304 := by omega
  have hC : Kd.C kBs wl (some ⟨w.heap.size, 0, none⟩) [s, r].length [s, r] := blk_bs hBl (by show 2 ≤ _; omega) fun j p hj => by
    rcases j with _ | _ | j
    · simp only [List.getElem?_cons_zero, Option.some.injEq] at hj
      subst hj
      exact ⟨As, cs, rfl, hcs.1, Kd.C_below hcs.2 hbl⟩
    · simp only [List.getElem?_cons_succ, List.getElem?_cons_zero, Option.some.injEq] at hj
      subst hj
      exact ⟨Ar, cr, rfl, hcr.1, Kd.C_below hcr.2 hbl⟩
    · simp at hj
  have hfl : [s, r].flatten = s ++ r := by simp
  have hcat := concat_any (some ⟨w.heap.size, 0, none⟩) 2 [s, r] wl hC (by rw [hfl, List.length_append]; omega)
  rw [hfl] at hcat
  have hcat : Calls Try.prog 32 #[.slice (some ⟨w.heap.size, 0, none⟩) 2 2] wl _ := hcat
  have HCAT := Lib.hid hcat; have HBL := Lib.hid hbl
  have hf0l := pw_cell_below hbl hf0; have hf1l := pw_cell_below hbl hf1
  clear h hm hfs hfit hbig hszr hofn hBf hRs hRr hos hor hsr hcs hcr hC hcat hbl hBl hfl hlen
  have d1 : decide (n < 1) = false := decide_eq_false (by omega)
  have d2 : decide (1000 < n) = false := decide_eq_false (by omega)
  go_enter Try.func14, Try.ntmps14
  go_upto_region 10 with fail
  clear d1 d2 hc0 hc3 hld
  refine wp_region_held (S := (fun W => W.cell? ⟨fb n, 0, none⟩ = some (.slice As s.length cs) ∧ W.cell? ⟨fb n, 1, none⟩ = some (.slice Ar r.length cr))) (by kernel_rfl) ?_
  simp only [List.size_toArray, List.length_cons, List.length_nil, Nat.zero_add, Nat.reduceAdd]
  have hHeld : ((fun W => W.cell? ⟨fb n, 0, none⟩ = some (.slice As s.length cs) ∧ W.cell? ⟨fb n, 1, none⟩ = some (.slice Ar r.length cr))) w.drew := ⟨hf0, hf1⟩
  refine wpAnyH_take (i := 0) (v := ?_) rfl (by kernel_rfl) (by kernel_rfl) (by kernel_rfl) (fun _ _ _ h => h) (Or.inl ⟨by rfl, ?_⟩) (by assumption) ?_
  rotate_left
  · (intro w hSw; (try dsimp only at hSw); go_split_ands; go_simp; try with_reducible rfl)
  try simp only [List.getElem_toArray, List.getElem_cons_succ, List.getElem_cons_zero, Act.put, List.setIfInBounds_toArray, List.set_cons_zero, List.set_cons_succ]
  refine wpAnyH_take (i := 1) (v := ?_) rfl (by kernel_rfl) (by kernel_rfl) (by kernel_rfl) (fun _ _ _ h => h) (Or.inl ⟨by rfl, ?_⟩) (by assumption) ?_
  rotate_left
  · (intro w hSw; (try dsimp only at hSw); go_split_ands; go_simp; try with_reducible rfl)
  try simp only [List.getElem_toArray, List.getElem_cons_succ, List.getElem_cons_zero, Act.put, List.setIfInBounds_toArray, List.set_cons_zero, List.set_cons_succ]
  refine wpAnyH_take (i := 2) (v := ?_) rfl (by kernel_rfl) (by kernel_rfl) (by kernel_rfl) (fun _ _ _ h => h) (Or.inl ⟨by rfl, ?_⟩) (by assumption) ?_
  rotate_left
  · (intro w hSw; (try dsimp only at hSw); go_split_ands; go_simp; try with_reducible rfl)
  try simp only [List.getElem_toArray, List.getElem_cons_succ, List.getElem_cons_zero, Act.put, List.setIfInBounds_toArray, List.set_cons_zero, List.set_cons_succ]
  refine wpAnyH_take (i := 3) (v := ?_) rfl (by kernel_rfl) (by kernel_rfl) (by kernel_rfl) (fun _ _ _ h => h) (Or.inl ⟨by rfl, ?_⟩) (by assumption) ?_
  rotate_left
  · (intro w hSw; (try dsimp only at hSw); go_split_ands; go_simp; try with_reducible rfl)
  try simp only [List.getElem_toArray, List.getElem_cons_succ, List.getElem_cons_zero, Act.put, List.setIfInBounds_toArray, List.set_cons_zero, List.set_cons_succ]
  refine wpAnyH_take (i := 4) (v := ?_) rfl (by kernel_rfl) (by kernel_rfl) (by kernel_rfl) (fun _ _ _ h => h) (Or.inl ⟨by rfl, ?_⟩) (by assumption) ?_
  rotate_left
  · (intro w hSw; (try dsimp only at hSw); go_split_ands; go_simp; try with_reducible rfl)
  try simp only [List.getElem_toArray, List.getElem_cons_succ, List.getElem_cons_zero, Act.put, List.setIfInBounds_toArray, List.set_cons_zero, List.set_cons_succ]
  refine wpAnyH_take (i := 5) (v := ?_) rfl (by kernel_rfl) (by kernel_rfl) (by kernel_rfl) (fun _ _ _ h => h) (Or.inl ⟨by rfl, ?_⟩) (by assumption) ?_
  rotate_left
  · (intro w hSw; (try dsimp only at hSw); go_split_ands; go_simp; try with_reducible rfl)
  try simp only [List.getElem_toArray, List.getElem_cons_succ, List.getElem_cons_zero, Act.put, List.setIfInBounds_toArray, List.set_cons_zero, List.set_cons_succ]
  refine wpAnyH_take (i := 6) (v := ?_) rfl (by kernel_rfl) (by kernel_rfl) (by kernel_rfl) (fun _ _ _ h => h) (Or.inl ⟨by rfl, ?_⟩) (by assumption) ?_
  rotate_left
  · (intro w hSw; (try dsimp only at hSw); go_split_ands; go_simp; try with_reducible rfl)
  try simp only [List.getElem_toArray, List.getElem_cons_succ, List.getElem_cons_zero, Act.put, List.setIfInBounds_toArray, List.set_cons_zero, List.set_cons_succ]
  refine wpAnyH_take (i := 7) (v := ?_) rfl (by kernel_rfl) (by kernel_rfl) (by kernel_rfl) (fun _ _ _ h => h) (Or.inl ⟨by rfl, ?_⟩) (by assumption) ?_
  rotate_left
  · (intro w hSw; (try dsimp only at hSw); go_split_ands; go_simp; try with_reducible rfl)
  try simp only [List.getElem_toArray, List.getElem_cons_succ, List.getElem_cons_zero, Act.put, List.setIfInBounds_toArray, List.set_cons_zero, List.set_cons_succ]
  refine wpAnyH_ready (rs := [8]) (by kernel_rfl) (by simp) ?_
  refine (AllReadyH.cons rfl (fun K hK => ?_) AllReadyH.nil)
  go_simp
  refine hK.out _ _ ?_ (fun hHeld => ?_)
  · exact ⟨hf0l, hf1l⟩
  clear hK K
  try simp only [List.getElem_toArray, List.getElem_cons_succ, List.getElem_cons_zero, Act.put, List.setIfInBounds_toArray, List.set_cons_zero, List.set_cons_succ]
  refine wpAnyH_ready (rs := [9]) (by kernel_rfl) (by simp) ?_
  refine (AllReadyH.cons rfl (fun K hK => ?_) AllReadyH.nil)
  go_simp
  refine HCAT.out.mono ?_
  rintro e wq ⟨v, rfl, ho, hb⟩
  refine hK.out _ _ ?_ (fun hHeld => ?_)
  · exact ⟨pw_cell_below hb hf0l, pw_cell_below hb hf1l⟩
  clear hK K
  try simp only [List.getElem_toArray, List.getElem_cons_succ, List.getElem_cons_zero, Act.put, List.setIfInBounds_toArray, List.set_cons_zero, List.set_cons_succ]
  refine wpAnyH_take (i := 10) (v := ?_) rfl (by kernel_rfl) (by kernel_rfl) (by kernel_rfl) (fun _ _ _ h => h) (Or.inl ⟨by rfl, ?_⟩) (by assumption) ?_
  rotate_left
  · (intro w hSw; (try dsimp only at hSw); go_split_ands; go_simp; try with_reducible rfl)
  try simp only [List.getElem_toArray, List.getElem_cons_succ, List.getElem_cons_zero, Act.put, List.setIfInBounds_toArray, List.set_cons_zero, List.set_cons_succ]
  refine wpAnyH_take (i := 11) (v := ?_) rfl (by kernel_rfl) (by kernel_rfl) (by kernel_rfl) (fun _ _ _ h => h) (Or.inl ⟨by rfl, ?_⟩) (by assumption) ?_
  rotate_left
  · (intro w hSw; (try dsimp only at hSw); go_split_ands; go_simp; try with_reducible rfl)
  try simp only [List.getElem_toArray, List.getElem_cons_succ, List.getElem_cons_zero, Act.put, List.setIfInBounds_toArray, List.set_cons_zero, List.set_cons_succ]
  refine wpAnyH_done (by kernel_rfl) ?_ _
  go_wp2
  go_ret2
  have hz := HBL.out.size
  exact ⟨_, rfl, own_weaken ho hz, below_then HBL.out hz hb⟩
end
end Go.Proofs.Ytnimghkkhiacfaa.P
