/- The reference's tally: pick, Nodes, Waiting, All. -/
import Derived.Test.YtmljpidhhiineaaPRefA
namespace Go.Proofs.Ytmljpidhhiineaa.P
open Go.RowKit Go.Proofs.YtmljpidhhiineaaW.PrintWords Go.Proofs.YtmljpidhhiineaaW.PrintLast
def pickP (N : List Int) (has : Bool) (al : List Int) : List Int := al.filter fun x => decide (x ∈ N) == has
theorem pickP_snoc (N : List Int) (has : Bool) (al : List Int) (x : Int) : pickP N has (al ++ [x]) = pickP N has al ++ (if (decide (x ∈ N) == has) = true then [x] else []) := by
  unfold pickP
  rw [List.filter_append]
  congr 1
  by_cases h : (decide (x ∈ N) == has) = true
  · rw [if_pos h]; simp only [List.filter_cons, List.filter_nil, h, if_true]
  · rw [if_neg h]; simp only [List.filter_cons, List.filter_nil, h, if_false, Bool.false_eq_true]
section
variable {w : World} {B g : Nat} {okl : Nat → Prop} {l : List S40} {P N : List Int}
def PickRel (W1 : World) (N : List Int) (has : Bool) (al : List Int) (vo kv : Value) (wr : World) : Prop :=
  ∃ k : Nat, kv = .int .i64 k ∧ k ≤ al.length ∧ Below W1.heap.size W1 wr ∧ Kd.N (Kd.int .i64) 3 wr W1.heap.size (fun j => W1.heap.size ≤ j) vo (pickP N has (al.take k))
set_option maxHeartbeats 4000000 in
set_option maxRecDepth 100000 in
theorem rtpick_any (h : RTal w B okl g l P N) (hP : P.length ≤ 1000000000) (hl : ∀ s ∈ l, s.f1.length < 1000000000000000) (hal : (nodesP l P).length < 1000000000) (has : Bool) :
    Calls Try.prog 42 #[.pointer (some ⟨g, 0, none⟩), .bool has] w fun e w' => ∃ A c, e = .returned (.slice A (pickP N has (nodesP l P)).length c) ∧ (pickP N has (nodesP l P)).length ≤ c ∧ Kd.C (Kd.int .i64) w' A (pickP N has (nodesP l P)).length (pickP N has (nodesP l P)) ∧ Below w.heap.size w w' := by
  obtain ⟨A, c, A1, c1, A2, c2, hc0, hc1, hc2, hCl, hlc, hCP, hPc, hCN, hNc⟩ := h.reads
  have hmk : ∀ W, Below w.heap.size w W → Below w.heap.size w W ∧ W.cell? ⟨g, 0, none⟩ = some (.slice A l.length c) ∧ W.cell? ⟨g, 1, none⟩ = some (.slice A1 P.length c1) ∧ W.cell? ⟨g, 2, none⟩ = some (.slice A2 N.length c2) :=
    fun W hb => ⟨hb, pw_cell_below hb hc0, pw_cell_below hb hc1, pw_cell_below hb hc2⟩
  have hnd : ∀ W, Below w.heap.size w W → Calls Try.prog 28 #[.slice A l.length c, .slice A1 P.length c1] W fun e w' => ∃ A3 c3, e = .returned (.slice A3 (nodesP l P).length c3) ∧ (nodesP l P).length ≤ c3 ∧ Kd.C (Kd.int .i64) w' A3 (nodesP l P).length (nodesP l P) ∧ Below w.heap.size w w' := fun W hb =>
    (rnodes_any A c l A1 c1 P W (Kd.C_below hCl hb) hlc (Kd.C_below hCP hb) hPc (by omega) hl).mono fun e w' ⟨A3, c3, he, _, h3, h4, h5⟩ => ⟨A3, c3, he, h3, h4, below_then hb hb.size h5⟩
  have HMK := Lib.hid hmk; have HND := Lib.hid hnd
  have HCN := Lib.hid hCN
  clear hmk hnd hCl hlc hCP hPc hc0 hc1 hc2 h hCN
  generalize nodesP l P = al at *
  have hd0 : Below w.heap.size w w.drew := below_drew (Below.refl _ _)
  go_enter Try.func42, Try.ntmps42
  go_upto_region 1 with fail
  refine wp_region_held (S := (fun W => Below w.heap.size w W ∧ W.cell? ⟨g, 0, none⟩ = some (.slice A l.length c) ∧ W.cell? ⟨g, 1, none⟩ = some (.slice A1 P.length c1) ∧ W.cell? ⟨g, 2, none⟩ = some (.slice A2 N.length c2))) (by kernel_rfl) ?_
  simp only [List.size_toArray, List.length_cons, List.length_nil, Nat.zero_add, Nat.reduceAdd]
  have hHeld : ((fun W => Below w.heap.size w W ∧ W.cell? ⟨g, 0, none⟩ = some (.slice A l.length c) ∧ W.cell? ⟨g, 1, none⟩ = some (.slice A1 P.length c1) ∧ W.cell? ⟨g, 2, none⟩ = some (.slice A2 N.length c2))) w.drew := HMK.out _ hd0
  refine wpAnyH_take (i := 0) (v := ?_) rfl (by kernel_rfl) (by kernel_rfl) (by kernel_rfl) (fun _ _ _ h => h) (Or.inl ⟨by rfl, ?_⟩) (by assumption) ?_
  rotate_left
  · (intro w hSw; (try dsimp only at hSw); go_split_ands; go_simp; try with_reducible rfl)
  try simp only [List.getElem_toArray, List.getElem_cons_succ, List.getElem_cons_zero, Act.put, List.setIfInBounds_toArray, List.set_cons_zero, List.set_cons_succ]
  refine wpAnyH_take (i := 1) (v := ?_) rfl (by kernel_rfl) (by kernel_rfl) (by kernel_rfl) (fun _ _ _ h => h) (Or.inl ⟨by rfl, ?_⟩) (by assumption) ?_
  rotate_left
  · (intro w hSw; (try dsimp only at hSw); go_split_ands; go_simp; try with_reducible rfl)
  try simp only [List.getElem_toArray, List.getElem_cons_succ, List.getElem_cons_zero, Act.put, List.setIfInBounds_toArray, List.set_cons_zero, List.set_cons_succ]
  refine wpAnyH_take (i := 2) (v := ?_) rfl (by kernel_rfl) (by kernel_rfl) (by kernel_rfl) (fun _ _ _ h => h) (Or.inl ⟨by rfl, ?_⟩) (by assumption) ?_
  rotate_left
  · (intro w hSw; (try dsimp only at hSw); go_split_ands; go_simp; try with_reducible rfl)
  try simp only [List.getElem_toArray, List.getElem_cons_succ, List.getElem_cons_zero, Act.put, List.setIfInBounds_toArray, List.set_cons_zero, List.set_cons_succ]
  refine wpAnyH_take (i := 3) (v := ?_) rfl (by kernel_rfl) (by kernel_rfl) (by kernel_rfl) (fun _ _ _ h => h) (Or.inl ⟨by rfl, ?_⟩) (by assumption) ?_
  rotate_left
  · (intro w hSw; (try dsimp only at hSw); go_split_ands; go_simp; try with_reducible rfl)
  try simp only [List.getElem_toArray, List.getElem_cons_succ, List.getElem_cons_zero, Act.put, List.setIfInBounds_toArray, List.set_cons_zero, List.set_cons_succ]
  refine wpAnyH_take (i := 4) (v := ?_) rfl (by kernel_rfl) (by kernel_rfl) (by kernel_rfl) (fun _ _ _ h => h) (Or.inl ⟨by rfl, ?_⟩) (by assumption) ?_
  rotate_left
  · (intro w hSw; (try dsimp only at hSw); go_split_ands; go_simp; try with_reducible rfl)
  try simp only [List.getElem_toArray, List.getElem_cons_succ, List.getElem_cons_zero, Act.put, List.setIfInBounds_toArray, List.set_cons_zero, List.set_cons_succ]
  refine wpAnyH_take (i := 5) (v := ?_) rfl (by kernel_rfl) (by kernel_rfl) (by kernel_rfl) (fun _ _ _ h => h) (Or.inl ⟨by rfl, ?_⟩) (by assumption) ?_
  rotate_left
  · (intro w hSw; (try dsimp only at hSw); go_split_ands; go_simp; try with_reducible rfl)
  try simp only [List.getElem_toArray, List.getElem_cons_succ, List.getElem_cons_zero, Act.put, List.setIfInBounds_toArray, List.set_cons_zero, List.set_cons_succ]
  refine wpAnyH_take (i := 6) (v := ?_) rfl (by kernel_rfl) (by kernel_rfl) (by kernel_rfl) (fun _ _ _ h => h) (Or.inl ⟨by rfl, ?_⟩) (by assumption) ?_
  rotate_left
  · (intro w hSw; (try dsimp only at hSw); go_split_ands; go_simp; try with_reducible rfl)
  try simp only [List.getElem_toArray, List.getElem_cons_succ, List.getElem_cons_zero, Act.put, List.setIfInBounds_toArray, List.set_cons_zero, List.set_cons_succ]
  refine wpAnyH_take (i := 7) (v := ?_) rfl (by kernel_rfl) (by kernel_rfl) (by kernel_rfl) (fun _ _ _ h => h) (Or.inl ⟨by rfl, ?_⟩) (by assumption) ?_
  rotate_left
  · (intro w hSw; (try dsimp only at hSw); go_split_ands; go_simp; try with_reducible rfl)
  try simp only [List.getElem_toArray, List.getElem_cons_succ, List.getElem_cons_zero, Act.put, List.setIfInBounds_toArray, List.set_cons_zero, List.set_cons_succ]
  refine wpAnyH_ready (rs := [8]) (by kernel_rfl) (by simp) ?_
  refine AllReadyH.cons rfl (fun K hK => ?_) AllReadyH.nil
  go_simp
  refine (HND.out _ hHeld.1).mono ?_
  rintro e w1 ⟨A3, c3, rfl, hc3, hC3, hD1⟩
  refine hK.out _ _ ?_ (fun hHeld => ?_)
  · exact HMK.out _ hD1
  clear hK K
  try simp only [List.getElem_toArray, List.getElem_cons_succ, List.getElem_cons_zero, Act.put, List.setIfInBounds_toArray, List.set_cons_zero, List.set_cons_succ]
  refine wpAnyH_take (i := 9) (v := ?_) rfl (by kernel_rfl) (by kernel_rfl) (by kernel_rfl) (fun _ _ _ h => h) (Or.inl ⟨by rfl, ?_⟩) (by assumption) ?_
  rotate_left
  · (intro w hSw; (try dsimp only at hSw); go_split_ands; go_simp; try with_reducible rfl)
  try simp only [List.getElem_toArray, List.getElem_cons_succ, List.getElem_cons_zero, Act.put, List.setIfInBounds_toArray, List.set_cons_zero, List.set_cons_succ]
  refine wpAnyH_done (by kernel_rfl) ?_ _
  have hD1 := hHeld.1
  have hm3 := hC3.2.1
  clear hHeld hd0
  have HC3 := Lib.hid hC3; clear hC3
  go_wp2
  go_loopw [6, 7] (fun vo kv wr => PickRel w1 N has al vo kv wr) (fun _ k _ => al.length - (intOf k).toNat)
  case atStart => exact ⟨0, rfl, Nat.zero_le _, Below.refl _ _, Kd.N_nil _ _ _ _ _⟩
  case round =>
    obtain ⟨k, rfl, hk, hB, hN⟩ := hrel
    have hBw := below_then hD1 hD1.size hB
    by_cases hlt : k < al.length
    · obtain ⟨ac, rfl, hck⟩ := Kd.at_int HC3.out (k : Int) (by omega) (by omega)
      replace hck := pw_cell_below hB hck
      rw [rd_nat al hlt] at hck
      simp only [Int.toNat_natCast] at hck
      have hsn := pickP_snoc N has (al.take k) al[k]
      rw [← take_snocI al hlt] at hsn
      have hpl : (pickP N has (al.take k)).length ≤ k := Nat.le_trans (List.length_filter_le _ _) (by simp; omega)
      generalize al[k] = x at *
      have HSN := Lib.hid hsn; clear hsn
      generalize pickP N has (al.take k) = ps at *
      have hin := in_any A2 c2 N x
      generalize decide (x ∈ N) = r at *
      have hinw : ∀ W, Drawn0 wr W → Calls Try.prog 25 #[.slice A2 N.length c2, .int .i64 x] W fun e w' => e = .returned (.bool r) ∧ Drawn0 wr w' := fun W hW =>
        (hin W (Kd.C_below HCN.out (below_then hBw hBw.size hW.below)) hNc).mono fun e w' h => ⟨h.1, drawn0_trans hW h.2⟩
      have HIN := Lib.hid hinw; clear hinw hin
      have hmk2 : ∀ W, Drawn0 wr W → Drawn0 wr W ∧ W.cell? ⟨g, 2, none⟩ = some (.slice A2 N.length c2) ∧ W.cell? (ac.add k) = some (.int .i64 x) := fun W h => ⟨h, (HMK.out _ (below_then hBw hBw.size h.below)).2.2.2, pw_cell_below h.below hck⟩
      have HMK2 := Lib.hid hmk2; clear hmk2
      have hdr : Drawn0 wr wr.drew := (Drawn0.refl _).step 1
      by_cases hr : r = has
      · subst hr
        go_upto_region 6 with fail
        refine wp_region_held (S := (fun W => Drawn0 wr W ∧ W.cell? ⟨g, 2, none⟩ = some (.slice A2 N.length c2) ∧ W.cell? (ac.add k) = some (.int .i64 x))) (by kernel_rfl) ?_
        simp only [List.size_toArray, List.length_cons, List.length_nil, Nat.zero_add, Nat.reduceAdd]
        have hHeld : ((fun W => Drawn0 wr W ∧ W.cell? ⟨g, 2, none⟩ = some (.slice A2 N.length c2) ∧ W.cell? (ac.add k) = some (.int .i64 x))) wr.drew := HMK2.out _ hdr
        refine wpAnyH_take (i := 0) (v := ?_) rfl (by kernel_rfl) (by kernel_rfl) (by kernel_rfl) (fun _ _ _ h => h) (Or.inl ⟨by rfl, ?_⟩) (by assumption) ?_
        rotate_left
        · (intro w hSw; (try dsimp only at hSw); go_split_ands; go_simp; try with_reducible rfl)
        try simp only [List.getElem_toArray, List.getElem_cons_succ, List.getElem_cons_zero, Act.put, List.setIfInBounds_toArray, List.set_cons_zero, List.set_cons_succ]
        refine wpAnyH_take (i := 1) (v := ?_) rfl (by kernel_rfl) (by kernel_rfl) (by kernel_rfl) (fun _ _ _ h => h) (Or.inl ⟨by rfl, ?_⟩) (by assumption) ?_
        rotate_left
        · (intro w hSw; (try dsimp only at hSw); go_split_ands; go_simp; try with_reducible rfl)
        try simp only [List.getElem_toArray, List.getElem_cons_succ, List.getElem_cons_zero, Act.put, List.setIfInBounds_toArray, List.set_cons_zero, List.set_cons_succ]
        refine wpAnyH_take (i := 2) (v := ?_) rfl (by kernel_rfl) (by kernel_rfl) (by kernel_rfl) (fun _ _ _ h => h) (Or.inl ⟨by rfl, ?_⟩) (by assumption) ?_
        rotate_left
        · (intro w hSw; (try dsimp only at hSw); go_split_ands; go_simp; try with_reducible rfl)
        try simp only [List.getElem_toArray, List.getElem_cons_succ, List.getElem_cons_zero, Act.put, List.setIfInBounds_toArray, List.set_cons_zero, List.set_cons_succ]
        refine wpAnyH_take (i := 3) (v := ?_) rfl (by kernel_rfl) (by kernel_rfl) (by kernel_rfl) (fun _ _ _ h => h) (Or.inl ⟨by rfl, ?_⟩) (by assumption) ?_
        rotate_left
        · (intro w hSw; (try dsimp only at hSw); go_split_ands; go_simp; try with_reducible rfl)
        try simp only [List.getElem_toArray, List.getElem_cons_succ, List.getElem_cons_zero, Act.put, List.setIfInBounds_toArray, List.set_cons_zero, List.set_cons_succ]
        refine wpAnyH_take (i := 4) (v := ?_) rfl (by kernel_rfl) (by kernel_rfl) (by kernel_rfl) (fun _ _ _ h => h) (Or.inl ⟨by rfl, ?_⟩) (by assumption) ?_
        rotate_left
        · (intro w hSw; (try dsimp only at hSw); go_split_ands; go_simp; try with_reducible rfl)
        try simp only [List.getElem_toArray, List.getElem_cons_succ, List.getElem_cons_zero, Act.put, List.setIfInBounds_toArray, List.set_cons_zero, List.set_cons_succ]
        refine wpAnyH_take (i := 5) (v := ?_) rfl (by kernel_rfl) (by kernel_rfl) (by kernel_rfl) (fun _ _ _ h => h) (Or.inl ⟨by rfl, ?_⟩) (by assumption) ?_
        rotate_left
        · (intro w hSw; (try dsimp only at hSw); go_split_ands; go_simp; try with_reducible rfl)
        try simp only [List.getElem_toArray, List.getElem_cons_succ, List.getElem_cons_zero, Act.put, List.setIfInBounds_toArray, List.set_cons_zero, List.set_cons_succ]
        refine wpAnyH_take (i := 6) (v := ?_) rfl (by kernel_rfl) (by kernel_rfl) (by kernel_rfl) (fun _ _ _ h => h) (Or.inl ⟨by rfl, ?_⟩) (by assumption) ?_
        rotate_left
        · (intro w hSw; (try dsimp only at hSw); go_split_ands; go_simp; try with_reducible rfl)
        try simp only [List.getElem_toArray, List.getElem_cons_succ, List.getElem_cons_zero, Act.put, List.setIfInBounds_toArray, List.set_cons_zero, List.set_cons_succ]
        refine wpAnyH_take (i := 7) (v := ?_) rfl (by kernel_rfl) (by kernel_rfl) (by kernel_rfl) (fun _ _ _ h => h) (Or.inl ⟨by rfl, ?_⟩) (by assumption) ?_
        rotate_left
        · (intro w hSw; (try dsimp only at hSw); go_split_ands; go_simp; try with_reducible rfl)
        try simp only [List.getElem_toArray, List.getElem_cons_succ, List.getElem_cons_zero, Act.put, List.setIfInBounds_toArray, List.set_cons_zero, List.set_cons_succ]
        refine wpAnyH_take (i := 9) (v := ?_) rfl (by kernel_rfl) (by kernel_rfl) (by kernel_rfl) (fun _ _ _ h => h) (Or.inl ⟨by rfl, ?_⟩) (by assumption) ?_
        rotate_left
        · (intro w hSw; (try dsimp only at hSw); go_split_ands; go_simp; try with_reducible rfl)
        try simp only [List.getElem_toArray, List.getElem_cons_succ, List.getElem_cons_zero, Act.put, List.setIfInBounds_toArray, List.set_cons_zero, List.set_cons_succ]
        refine wpAnyH_ready (rs := [8]) (by kernel_rfl) (by simp) ?_
        refine AllReadyH.cons rfl (fun K hK => ?_) AllReadyH.nil
        go_simp
        refine (HIN.out _ hHeld.1).mono ?_
        rintro e wq ⟨rfl, hDq⟩
        refine hK.out _ _ ?_ (fun hHeld => ?_)
        · exact HMK2.out _ hDq
        clear hK K
        try simp only [List.getElem_toArray, List.getElem_cons_succ, List.getElem_cons_zero, Act.put, List.setIfInBounds_toArray, List.set_cons_zero, List.set_cons_succ]
        refine wpAnyH_take (i := 10) (v := ?_) rfl (by kernel_rfl) (by kernel_rfl) (by kernel_rfl) (fun _ _ _ h => h) (Or.inl ⟨by rfl, ?_⟩) (by assumption) ?_
        rotate_left
        · (intro w hSw; (try dsimp only at hSw); go_split_ands; go_simp; try with_reducible rfl)
        try simp only [List.getElem_toArray, List.getElem_cons_succ, List.getElem_cons_zero, Act.put, List.setIfInBounds_toArray, List.set_cons_zero, List.set_cons_succ]
        refine wpAnyH_done (by kernel_rfl) ?_ _
        have hDq := hHeld.1
        have hxq := hHeld.2.2
        have hNq := Kd.N_below hN hDq.below
        obtain ⟨A5, c5, rfl⟩ := Kd.N_slice hNq
        have hbs := hNq.1
        have hwq : w1.heap.size ≤ wq.heap.size := Nat.le_trans hB.size hDq.below.size
        go_wp2_with ((with_reducible refine gate_builtin (b := .append) (xs := #[.tmp 34, .tmp 39]) rfl ?_); at_builtin; refine Kd.N_append (w0 := w1) (Kd.int .i64) w1.heap.size (by rfl) (.tmp 34) (.tmp 39) 23 3 (.int .i64 0) 8 (by rfl) Try.underlying23 info3 rfl (by decide) (by decide) (.slice A5 ps.length c5) ps x [.int .i64 x] (fun j => w1.heap.size ≤ j) (fun _ => False) (by rfl) (by rfl) (FK_int x) (fun _ hj => hj.elim) (fun j hj => by omega) hNq (hB.trans (hDq.below.mono hB.size)) hwq (by omega) ?_; intro v1 w6 hN1 hb1 hg1 hat1)
        go_roundw
        case rel =>
          refine ⟨k + 1, by go_num, by omega, hb1, ?_⟩
          rw [HSN.out, if_pos (by simp)]
          exact hN1
        case measure => simp [intOf]; omega
      · have hr2 : has = !r := by cases has <;> cases r <;> simp_all
        subst hr2
        clear hr
        go_upto_region 6 with fail
        refine wp_region_held (S := (fun W => Drawn0 wr W ∧ W.cell? ⟨g, 2, none⟩ = some (.slice A2 N.length c2) ∧ W.cell? (ac.add k) = some (.int .i64 x))) (by kernel_rfl) ?_
        simp only [List.size_toArray, List.length_cons, List.length_nil, Nat.zero_add, Nat.reduceAdd]
        have hHeld : ((fun W => Drawn0 wr W ∧ W.cell? ⟨g, 2, none⟩ = some (.slice A2 N.length c2) ∧ W.cell? (ac.add k) = some (.int .i64 x))) wr.drew := HMK2.out _ hdr
        refine wpAnyH_take (i := 0) (v := ?_) rfl (by kernel_rfl) (by kernel_rfl) (by kernel_rfl) (fun _ _ _ h => h) (Or.inl ⟨by rfl, ?_⟩) (by assumption) ?_
        rotate_left
        · (intro w hSw; (try dsimp only at hSw); go_split_ands; go_simp; try with_reducible rfl)
        try simp only [List.getElem_toArray, List.getElem_cons_succ, List.getElem_cons_zero, Act.put, List.setIfInBounds_toArray, List.set_cons_zero, List.set_cons_succ]
        refine wpAnyH_take (i := 1) (v := ?_) rfl (by kernel_rfl) (by kernel_rfl) (by kernel_rfl) (fun _ _ _ h => h) (Or.inl ⟨by rfl, ?_⟩) (by assumption) ?_
        rotate_left
        · (intro w hSw; (try dsimp only at hSw); go_split_ands; go_simp; try with_reducible rfl)
        try simp only [List.getElem_toArray, List.getElem_cons_succ, List.getElem_cons_zero, Act.put, List.setIfInBounds_toArray, List.set_cons_zero, List.set_cons_succ]
        refine wpAnyH_take (i := 2) (v := ?_) rfl (by kernel_rfl) (by kernel_rfl) (by kernel_rfl) (fun _ _ _ h => h) (Or.inl ⟨by rfl, ?_⟩) (by assumption) ?_
        rotate_left
        · (intro w hSw; (try dsimp only at hSw); go_split_ands; go_simp; try with_reducible rfl)
        try simp only [List.getElem_toArray, List.getElem_cons_succ, List.getElem_cons_zero, Act.put, List.setIfInBounds_toArray, List.set_cons_zero, List.set_cons_succ]
        refine wpAnyH_take (i := 3) (v := ?_) rfl (by kernel_rfl) (by kernel_rfl) (by kernel_rfl) (fun _ _ _ h => h) (Or.inl ⟨by rfl, ?_⟩) (by assumption) ?_
        rotate_left
        · (intro w hSw; (try dsimp only at hSw); go_split_ands; go_simp; try with_reducible rfl)
        try simp only [List.getElem_toArray, List.getElem_cons_succ, List.getElem_cons_zero, Act.put, List.setIfInBounds_toArray, List.set_cons_zero, List.set_cons_succ]
        refine wpAnyH_take (i := 4) (v := ?_) rfl (by kernel_rfl) (by kernel_rfl) (by kernel_rfl) (fun _ _ _ h => h) (Or.inl ⟨by rfl, ?_⟩) (by assumption) ?_
        rotate_left
        · (intro w hSw; (try dsimp only at hSw); go_split_ands; go_simp; try with_reducible rfl)
        try simp only [List.getElem_toArray, List.getElem_cons_succ, List.getElem_cons_zero, Act.put, List.setIfInBounds_toArray, List.set_cons_zero, List.set_cons_succ]
        refine wpAnyH_take (i := 5) (v := ?_) rfl (by kernel_rfl) (by kernel_rfl) (by kernel_rfl) (fun _ _ _ h => h) (Or.inl ⟨by rfl, ?_⟩) (by assumption) ?_
        rotate_left
        · (intro w hSw; (try dsimp only at hSw); go_split_ands; go_simp; try with_reducible rfl)
        try simp only [List.getElem_toArray, List.getElem_cons_succ, List.getElem_cons_zero, Act.put, List.setIfInBounds_toArray, List.set_cons_zero, List.set_cons_succ]
        refine wpAnyH_take (i := 6) (v := ?_) rfl (by kernel_rfl) (by kernel_rfl) (by kernel_rfl) (fun _ _ _ h => h) (Or.inl ⟨by rfl, ?_⟩) (by assumption) ?_
        rotate_left
        · (intro w hSw; (try dsimp only at hSw); go_split_ands; go_simp; try with_reducible rfl)
        try simp only [List.getElem_toArray, List.getElem_cons_succ, List.getElem_cons_zero, Act.put, List.setIfInBounds_toArray, List.set_cons_zero, List.set_cons_succ]
        refine wpAnyH_take (i := 7) (v := ?_) rfl (by kernel_rfl) (by kernel_rfl) (by kernel_rfl) (fun _ _ _ h => h) (Or.inl ⟨by rfl, ?_⟩) (by assumption) ?_
        rotate_left
        · (intro w hSw; (try dsimp only at hSw); go_split_ands; go_simp; try with_reducible rfl)
        try simp only [List.getElem_toArray, List.getElem_cons_succ, List.getElem_cons_zero, Act.put, List.setIfInBounds_toArray, List.set_cons_zero, List.set_cons_succ]
        refine wpAnyH_take (i := 9) (v := ?_) rfl (by kernel_rfl) (by kernel_rfl) (by kernel_rfl) (fun _ _ _ h => h) (Or.inl ⟨by rfl, ?_⟩) (by assumption) ?_
        rotate_left
        · (intro w hSw; (try dsimp only at hSw); go_split_ands; go_simp; try with_reducible rfl)
        try simp only [List.getElem_toArray, List.getElem_cons_succ, List.getElem_cons_zero, Act.put, List.setIfInBounds_toArray, List.set_cons_zero, List.set_cons_succ]
        refine wpAnyH_ready (rs := [8]) (by kernel_rfl) (by simp) ?_
        refine AllReadyH.cons rfl (fun K hK => ?_) AllReadyH.nil
        go_simp
        refine (HIN.out _ hHeld.1).mono ?_
        rintro e wq ⟨rfl, hDq⟩
        refine hK.out _ _ ?_ (fun hHeld => ?_)
        · exact HMK2.out _ hDq
        clear hK K
        try simp only [List.getElem_toArray, List.getElem_cons_succ, List.getElem_cons_zero, Act.put, List.setIfInBounds_toArray, List.set_cons_zero, List.set_cons_succ]
        refine wpAnyH_take (i := 10) (v := ?_) rfl (by kernel_rfl) (by kernel_rfl) (by kernel_rfl) (fun _ _ _ h => h) (Or.inl ⟨by rfl, ?_⟩) (by assumption) ?_
        rotate_left
        · (intro w hSw; (try dsimp only at hSw); go_split_ands; go_simp; try with_reducible rfl)
        try simp only [List.getElem_toArray, List.getElem_cons_succ, List.getElem_cons_zero, Act.put, List.setIfInBounds_toArray, List.set_cons_zero, List.set_cons_succ]
        refine wpAnyH_done (by kernel_rfl) ?_ _
        have hDq := hHeld.1
        go_wp2
        go_roundw
        case rel =>
          refine ⟨k + 1, by go_num, by omega, hB.trans (hDq.below.mono hB.size), ?_⟩
          rw [HSN.out, if_neg (by simp), List.append_nil]
          exact Kd.N_below hN hDq.below
        case measure => simp [intOf]; omega
    · obtain rfl : k = al.length := by omega
      rw [List.take_length] at hN
      obtain ⟨A5, c5, rfl⟩ := Kd.N_slice hN
      have e5 := Kd.N_reads' hN
      go_wp2
      go_ret
      exact ⟨A5, c5, rfl, e5.2.1, e5.2.2, hBw⟩
end
end Go.Proofs.Ytmljpidhhiineaa.P
