/- what the claim's row stands on, part 3. -/
import Derived.Test.YtgmlenpcchhmbaaGreatZs2
import Derived.Defers
import Derived.Recover
section
set_option linter.unusedVariables false
set_option linter.unusedSimpArgs false
namespace Go.Proofs.YtgmlenpcchhmbaaGreat.P
open Go.RowKit Go.Proofs.YtgmlenpcchhmbaaGreatW.PrintWords Go.Proofs.YtgmlenpcchhmbaaGreatW.PrintLast Go.Proofs.YtgmlenpcchhmbaaGreatW.PrintMore
attribute [local go_sem] max2_int min2_int max_two min_two max_three min_three max_four min_four   -- for this text's walks alone
mutual
def txn_is.j0 : Nat → Bool → Int → ByteArray → ByteArray → Int → Option (Bool)
 | 0, _, _, _, _, _ => none
 | k + 1, x12, x102000, x102001, x102002, x102003 => if x12 = true then (some false) else (if x102000 = 1 then (txn_is.j1 k x102000 (x102000 == 1) x102000 x102001 x102002 x102003) else (txn_is.j1 k x102000 (x102000 == 5) x102000 x102001 x102002 x102003))
def txn_is.j1 : Nat → Int → Bool → Int → ByteArray → ByteArray → Int → Option (Bool)
 | 0, _, _, _, _, _, _ => none
 | k + 1, x14, x15, x102000, x102001, x102002, x102003 => if x15 = true then (if x102002.toList = ([] : List UInt8) then (some (x102003 == 0)) else (some false)) else (if x14 = 3 then (txn_is.j2 k x14 (x14 == 3) x102000 x102001 x102002 x102003) else (txn_is.j2 k x14 (x14 == 4) x102000 x102001 x102002 x102003))
def txn_is.j2 : Nat → Int → Bool → Int → ByteArray → ByteArray → Int → Option (Bool)
 | 0, _, _, _, _, _, _ => none
 | k + 1, x14, x26, x102000, x102001, x102002, x102003 => if x26 = true then (some (x102002.toList == ([] : List UInt8))) else (if x14 = 2 then (if x102003 = 0 then (if x102002.toList = ([] : List UInt8) then (some true) else ((span_Key.f x102002).bind fun t104 => (if t104 = 0 then (some (Op.bytesLess x102001.toList x102002.toList)) else (some false)))) else (some false)) else (if x14 = 6 then ((span_Key.f x102002).bind fun t105 => (if t105 = 0 then (some (x102002.toList != x102001.toList)) else (some false))) else (some false)))
end
def txn_is.f (k : Nat) (a0_0 : Int) (a0_1 : ByteArray) (a0_2 : ByteArray) (a0_3 : Int) : Option (Bool) := (span_Key.f a0_1).bind fun t102 => (if t102 = 0 then ((num_Check.f a0_3).bind fun t103 => (txn_is.j0 k (t103 != 0) a0_0 a0_1 a0_2 a0_3)) else (txn_is.j0 k true a0_0 a0_1 a0_2 a0_3))
set_option maxHeartbeats 8000000 in
set_option maxRecDepth 100000 in
theorem txn_is.calls (k : Nat) (a0_0 : Int) (a0_1 : ByteArray) (a0_2 : ByteArray) (a0_3 : Int) (r : Bool) (w : World) (h : txn_is.f k a0_0 a0_1 a0_2 a0_3 = some r) :
  Calls Tryz.prog 58 #[.agg #[.int .i64 a0_0, .string a0_1, .string a0_2, .int .u64 a0_3]] w fun e w' => e = .returned (.bool r) ∧ Below w.heap.size w w' := by
 have hu63 := Tryz.underlying63
 have HB := Aside0.mk (Below.refl w.heap.size w)
 have H : ((span_Key.f a0_1).bind fun t102 => (if t102 = 0 then ((num_Check.f a0_3).bind fun t103 => (txn_is.j0 k (t103 != 0) a0_0 a0_1 a0_2 a0_3)) else (txn_is.j0 k true a0_0 a0_1 a0_2 a0_3))) = some r := h
 clear h
 have HC2 := Aside0.mk H
 clear H
 go_enter Tryz.func58, Tryz.ntmps58
 go_upto_region 1 with (first | ((with_reducible refine gate_dst (N := 1) rfl ?_); refine box_event ?hg (N := 1) ?hd (cs := #[.int .i64 a0_0, .string a0_1, .string a0_2, .int .u64 a0_3]) (t := 63) ?hr ?_; (case hd => rfl); (case hg => rfl); (case hr => first | (go_simp; done) | (go_simp; rfl)); intro gb101 hg w3 hbox hb; have n0_ := Aside0.mk (below_step bB_ hb); have n1_ := Aside0.mk (hbox); have n2_ := Aside0.mk ((by rw [hg]; exact (below_size bB_) : w.heap.size ≤ gb101)); have n3_ := Aside0.mk ((by rw [hg]; exact (below_size bB_) : w.heap.size ≤ gb101)); clear HB; have HB := n0_; have BK101 := n1_; have GW101 := n2_; have GE101 := n3_; clear n0_ n1_ n2_ n3_; clear hb hbox hg))
 (try simp only [Act.put, List.setIfInBounds_toArray, List.set_cons_zero, List.set_cons_succ])
 go_cut [12] (fun v12 wc => ∃ (kq : Nat) (x12_1 : Bool), v12 = .bool x12_1 ∧ Aside0 (txn_is.j0 kq x12_1 a0_0 a0_1 a0_2 a0_3 = some r) ∧ Aside0 (kq ≤ k) ∧ Aside0 (wc.heap[gb101]? = some (.cells #[.int .i64 a0_0, .string a0_1, .string a0_2, .int .u64 a0_3] 63 (0, 0))) ∧ Aside0 (Below w.heap.size w wc))
 case first =>
  have H := HC2.out;clear HC2
  replace H := Option.bind_eq_some_iff.mp H
  obtain ⟨t102, A40, H⟩ := H
  replace H : (if t102 = 0 then ((num_Check.f a0_3).bind fun t103 => (txn_is.j0 k (t103 != 0) a0_0 a0_1 a0_2 a0_3)) else (txn_is.j0 k true a0_0 a0_1 a0_2 a0_3)) = some r := H
  have A4 := Aside0.mk A40
  clear A40
  by_cases c5 : t102 = 0
  ·rw [if_pos c5] at H
   have c5b0 : (t102 == 0) = true := beq_iff_eq.mpr c5
   have c5b1 : (t102 != 0) = false := bne_eq_false_iff_eq.mpr c5
   clear c5
   (first | rw [c5b0] | (simp only [i64_w, i32_w]; rw [c5b0]) | skip)
   replace H := Option.bind_eq_some_iff.mp H
   obtain ⟨t103, A60, H⟩ := H
   replace H : (txn_is.j0 k (t103 != 0) a0_0 a0_1 a0_2 a0_3) = some r := H
   have A6 := Aside0.mk A60
   clear A60
   have H' := Aside0.mk H
   clear H
   have hcz7_0 : w3.cell? ⟨gb101, 0, none⟩ = some (.int .i64 a0_0) := (blk_cell BK101.out 0).trans rfl
   have hcz7_1 : w3.cell? ⟨gb101, 1, none⟩ = some (.string a0_1) := (blk_cell BK101.out 1).trans rfl
   have hcz7_2 : w3.cell? ⟨gb101, 2, none⟩ = some (.string a0_2) := (blk_cell BK101.out 2).trans rfl
   have hcz7_3 : w3.cell? ⟨gb101, 3, none⟩ = some (.int .u64 a0_3) := (blk_cell BK101.out 3).trans rfl
   have hfz7_0 := blk_frozen BK101.out 0
   have hfz7_1 := blk_frozen BK101.out 1
   have hfz7_2 := blk_frozen BK101.out 2
   have hfz7_3 := blk_frozen BK101.out 3
   go_wp2_with (first | ((with_reducible refine gate_callee (f := 103) rfl ?_); refine goesL_ (some 5) rfl rfl Tryz.func103 (by kernel_rfl) rfl #[.string a0_1] rfl (by (try simp only [List.map_toArray, List.map_cons, List.map_nil]); first | done | rfl | (simp only [List.length_drop, List.length_take]; rfl)) ?_; (with_reducible refine (span_Key.calls a0_1 t102 _ A4.out).mono ?_); rintro e w' ⟨rfl, ⟨nd, rfl⟩⟩; refine ⟨_, rfl, ?_⟩) | (go_at_call 104; (with_reducible refine (num_Check.calls a0_3 t103 _ A6.out).mono ?_); rintro e w' ⟨rfl, ⟨nd, rfl⟩⟩))
   first
   | (go_meet; case rel => exact ⟨_, ((t103 != 0)), (by first | rfl | (rw [bl_gt] <;> rfl) | (simp; done) | (simp [*]; done)), H', ⟨by first | omega | exact Nat.le_refl _⟩, ⟨by (with_reducible repeat (first | refine blk_drewN ?_ _ | refine blk_drew ?_ | refine blk_alloc ?_ _)); exact BK101.out⟩, ⟨by repeat (first | (with_reducible first | exact HB.out | apply below_alloc | apply pw_below_drewN | apply below_drew1 | refine below_set ?_ GE101.out) | exact HB.out)⟩⟩)
   | (refine Met.intro ?_; go_step; (repeat apply Exists.intro); refine ⟨?_, ?_⟩; rotate_left; (focus (simp only [c5b0]; try rfl)); exact ⟨_, ((t103 != 0)), (by first | rfl | (rw [bl_gt] <;> rfl) | (simp; done) | (simp [*]; done)), H', ⟨by first | omega | exact Nat.le_refl _⟩, ⟨by (with_reducible repeat (first | refine blk_drewN ?_ _ | refine blk_drew ?_ | refine blk_alloc ?_ _)); exact BK101.out⟩, ⟨by repeat (first | (with_reducible first | exact HB.out | apply below_alloc | apply pw_below_drewN | apply below_drew1 | refine below_set ?_ GE101.out) | exact HB.out)⟩⟩)
  ·rw [if_neg c5] at H
   have c5b0 : (t102 == 0) = false := beq_eq_false_iff_ne.mpr c5
   have c5b1 : (t102 != 0) = true := bne_iff_ne.mpr c5
   (first | rw [c5b0] | (simp only [i64_w, i32_w]; rw [c5b0]) | skip)
   have H' := Aside0.mk H
   clear H
   have hcz8_0 : w3.cell? ⟨gb101, 0, none⟩ = some (.int .i64 a0_0) := (blk_cell BK101.out 0).trans rfl
   have hcz8_1 : w3.cell? ⟨gb101, 1, none⟩ = some (.string a0_1) := (blk_cell BK101.out 1).trans rfl
   have hcz8_2 : w3.cell? ⟨gb101, 2, none⟩ = some (.string a0_2) := (blk_cell BK101.out 2).trans rfl
   have hcz8_3 : w3.cell? ⟨gb101, 3, none⟩ = some (.int .u64 a0_3) := (blk_cell BK101.out 3).trans rfl
   have hfz8_0 := blk_frozen BK101.out 0
   have hfz8_1 := blk_frozen BK101.out 1
   have hfz8_2 := blk_frozen BK101.out 2
   have hfz8_3 := blk_frozen BK101.out 3
   go_wp2_with (first | ((with_reducible refine gate_callee (f := 103) rfl ?_); refine goesL_ (some 5) rfl rfl Tryz.func103 (by kernel_rfl) rfl #[.string a0_1] rfl (by (try simp only [List.map_toArray, List.map_cons, List.map_nil]); first | done | rfl | (simp only [List.length_drop, List.length_take]; rfl)) ?_; (with_reducible refine (span_Key.calls a0_1 t102 _ A4.out).mono ?_); rintro e w' ⟨rfl, ⟨nd, rfl⟩⟩; refine ⟨_, rfl, ?_⟩))
   first
   | (go_meet; case rel => exact ⟨_, (true), (by first | rfl | (rw [bl_gt] <;> rfl) | (simp; done) | (simp [*]; done)), H', ⟨by first | omega | exact Nat.le_refl _⟩, ⟨by (with_reducible repeat (first | refine blk_drewN ?_ _ | refine blk_drew ?_ | refine blk_alloc ?_ _)); exact BK101.out⟩, ⟨by repeat (first | (with_reducible first | exact HB.out | apply below_alloc | apply pw_below_drewN | apply below_drew1 | refine below_set ?_ GE101.out) | exact HB.out)⟩⟩)
   | (refine Met.intro ?_; go_step; (repeat apply Exists.intro); refine ⟨?_, ?_⟩; rotate_left; (focus (simp only [c5b0]; try rfl)); exact ⟨_, (true), (by first | rfl | (rw [bl_gt] <;> rfl) | (simp; done) | (simp [*]; done)), H', ⟨by first | omega | exact Nat.le_refl _⟩, ⟨by (with_reducible repeat (first | refine blk_drewN ?_ _ | refine blk_drew ?_ | refine blk_alloc ?_ _)); exact BK101.out⟩, ⟨by repeat (first | (with_reducible first | exact HB.out | apply below_alloc | apply pw_below_drewN | apply below_drew1 | refine below_set ?_ GE101.out) | exact HB.out)⟩⟩)
 case rest =>
  clear HC2
  try clear c1
  try clear p2
  try clear c5
  try clear c5b0
  try clear c5b1
  try clear hcz7_0
  try clear hcz7_1
  try clear hcz7_2
  try clear hcz7_3
  try clear hcz8_0
  try clear hcz8_1
  try clear hcz8_2
  try clear hcz8_3
  try clear hfz7_0
  try clear hfz7_1
  try clear hfz7_2
  try clear hfz7_3
  try clear hfz8_0
  try clear hfz8_1
  try clear hfz8_2
  try clear hfz8_3
  obtain ⟨kq, x12_1, rfl, HA, HJ1, BK101, HB⟩ := hcut
  cases kq with
  | zero => exact absurd HA.out (by simp [txn_is.j0])
  | succ kj1 =>
   have H := HA.out;clear HA
   simp only [txn_is.j0] at H
   by_cases c9 : x12_1 = true
   ·subst c9
    have H1 : (some false) = some r := by rw [if_pos rfl] at H; exact H
    clear H;have H := H1;clear H1;obtain rfl := Option.some.inj H
    go_wp2
    go_ret
    exact ⟨by first | rfl | (rw [bl_gt] <;> rfl) | (simp [errW_none, errW_some] <;> rfl) | (simp [*, errW_none, errW_some] <;> rfl), by repeat (first | (with_reducible first | exact HB.out | apply below_alloc | apply pw_below_drewN | apply below_drew1 | refine below_set ?_ GE101.out) | exact HB.out)⟩
   ·replace c9 := Bool.eq_false_iff.mpr c9
    subst c9
    have H1 : (if a0_0 = 1 then (txn_is.j1 kj1 a0_0 (a0_0 == 1) a0_0 a0_1 a0_2 a0_3) else (txn_is.j1 kj1 a0_0 (a0_0 == 5) a0_0 a0_1 a0_2 a0_3)) = some r := by rw [if_neg (show ¬ (false = true) by decide)] at H; exact H
    clear H;have H := H1;clear H1
    have HC10 := Aside0.mk H
    clear H
    have hcz11_0 : wc.cell? ⟨gb101, 0, none⟩ = some (.int .i64 a0_0) := (blk_cell BK101.out 0).trans rfl
    have hcz11_1 : wc.cell? ⟨gb101, 1, none⟩ = some (.string a0_1) := (blk_cell BK101.out 1).trans rfl
    have hcz11_2 : wc.cell? ⟨gb101, 2, none⟩ = some (.string a0_2) := (blk_cell BK101.out 2).trans rfl
    have hcz11_3 : wc.cell? ⟨gb101, 3, none⟩ = some (.int .u64 a0_3) := (blk_cell BK101.out 3).trans rfl
    have hfz11_0 := blk_frozen BK101.out 0
    have hfz11_1 := blk_frozen BK101.out 1
    have hfz11_2 := blk_frozen BK101.out 2
    have hfz11_3 := blk_frozen BK101.out 3
    go_upto_if 15 with (fail)
    go_cut [15] (fun v15 wc => ∃ (kq : Nat) (x15_9 : Bool), v15 = .bool x15_9 ∧ Aside0 (txn_is.j1 kq a0_0 x15_9 a0_0 a0_1 a0_2 a0_3 = some r) ∧ Aside0 (kq ≤ kj1) ∧ Aside0 (wc.heap[gb101]? = some (.cells #[.int .i64 a0_0, .string a0_1, .string a0_2, .int .u64 a0_3] 63 (0, 0))) ∧ Aside0 (Below w.heap.size w wc))
    case first =>
     have H := HC10.out;clear HC10
     by_cases c12 : a0_0 = 1
     ·rw [if_pos c12] at H
      have c12b0 : (a0_0 == 1) = true := beq_iff_eq.mpr c12
      have c12b1 : (a0_0 != 1) = false := bne_eq_false_iff_eq.mpr c12
      clear c12
      (first | rw [c12b0] | (simp only [i64_w, i32_w]; rw [c12b0]) | skip)
      have H' := Aside0.mk H
      clear H
      go_wp2
      first
      | (go_meet; case rel => exact ⟨_, ((a0_0 == 1)), (by first | rfl | (rw [bl_gt] <;> rfl) | (simp; done) | (simp [*]; done)), H', ⟨by have := HJ1.out; first | omega | exact Nat.le_refl _⟩, ⟨by (with_reducible repeat (first | refine blk_drewN ?_ _ | refine blk_drew ?_ | refine blk_alloc ?_ _)); exact BK101.out⟩, ⟨by repeat (first | (with_reducible first | exact HB.out | apply below_alloc | apply pw_below_drewN | apply below_drew1 | refine below_set ?_ GE101.out) | exact HB.out)⟩⟩)
      | (refine Met.intro ?_; go_step; (repeat apply Exists.intro); refine ⟨?_, ?_⟩; rotate_left; (focus (simp only [c12b0]; try rfl)); exact ⟨_, ((a0_0 == 1)), (by first | rfl | (rw [bl_gt] <;> rfl) | (simp; done) | (simp [*]; done)), H', ⟨by have := HJ1.out; first | omega | exact Nat.le_refl _⟩, ⟨by (with_reducible repeat (first | refine blk_drewN ?_ _ | refine blk_drew ?_ | refine blk_alloc ?_ _)); exact BK101.out⟩, ⟨by repeat (first | (with_reducible first | exact HB.out | apply below_alloc | apply pw_below_drewN | apply below_drew1 | refine below_set ?_ GE101.out) | exact HB.out)⟩⟩)
     ·rw [if_neg c12] at H
      have c12b0 : (a0_0 == 1) = false := beq_eq_false_iff_ne.mpr c12
      have c12b1 : (a0_0 != 1) = true := bne_iff_ne.mpr c12
      (first | rw [c12b0] | (simp only [i64_w, i32_w]; rw [c12b0]) | skip)
      have H' := Aside0.mk H
      clear H
      go_wp2
      first
      | (go_meet; case rel => exact ⟨_, ((a0_0 == 5)), (by first | rfl | (rw [bl_gt] <;> rfl) | (simp; done) | (simp [*]; done)), H', ⟨by have := HJ1.out; first | omega | exact Nat.le_refl _⟩, ⟨by (with_reducible repeat (first | refine blk_drewN ?_ _ | refine blk_drew ?_ | refine blk_alloc ?_ _)); exact BK101.out⟩, ⟨by repeat (first | (with_reducible first | exact HB.out | apply below_alloc | apply pw_below_drewN | apply below_drew1 | refine below_set ?_ GE101.out) | exact HB.out)⟩⟩)
      | (refine Met.intro ?_; go_step; (repeat apply Exists.intro); refine ⟨?_, ?_⟩; rotate_left; (focus (simp only [c12b0]; try rfl)); exact ⟨_, ((a0_0 == 5)), (by first | rfl | (rw [bl_gt] <;> rfl) | (simp; done) | (simp [*]; done)), H', ⟨by have := HJ1.out; first | omega | exact Nat.le_refl _⟩, ⟨by (with_reducible repeat (first | refine blk_drewN ?_ _ | refine blk_drew ?_ | refine blk_alloc ?_ _)); exact BK101.out⟩, ⟨by repeat (first | (with_reducible first | exact HB.out | apply below_alloc | apply pw_below_drewN | apply below_drew1 | refine below_set ?_ GE101.out) | exact HB.out)⟩⟩)
    case rest =>
     clear HC10
     try clear c1
     try clear p2
     try clear c5
     try clear c5b0
     try clear c5b1
     try clear c9
     try clear c10
     try clear c12
     try clear c12b0
     try clear c12b1
     try clear hcz11_0
     try clear hcz11_1
     try clear hcz11_2
     try clear hcz11_3
     try clear hcz7_0
     try clear hcz7_1
     try clear hcz7_2
     try clear hcz7_3
     try clear hcz8_0
     try clear hcz8_1
     try clear hcz8_2
     try clear hcz8_3
     try clear hfz11_0
     try clear hfz11_1
     try clear hfz11_2
     try clear hfz11_3
     try clear hfz7_0
     try clear hfz7_1
     try clear hfz7_2
     try clear hfz7_3
     try clear hfz8_0
     try clear hfz8_1
     try clear hfz8_2
     try clear hfz8_3
     try clear p2
     obtain ⟨kq, x15_9, rfl, HA, HJ9, BK101, HB⟩ := hcut
     cases kq with
     | zero => exact absurd HA.out (by simp [txn_is.j1])
     | succ kj9 =>
      have H := HA.out;clear HA
      simp only [txn_is.j1] at H
      by_cases c13 : x15_9 = true
      ·subst c13
       have H1 : (if a0_2.toList = ([] : List UInt8) then (some (a0_3 == 0)) else (some false)) = some r := by rw [if_pos rfl] at H; exact H
       clear H;have H := H1;clear H1
       by_cases c14 : a0_2.toList = ([] : List UInt8)
       ·rw [if_pos c14] at H
        have c14b0 : (a0_2.toList == ([] : List UInt8)) = true := beq_iff_eq.mpr c14
        have c14b1 : (a0_2.toList != ([] : List UInt8)) = false := bne_eq_false_iff_eq.mpr c14
        clear c14;obtain rfl := Option.some.inj H
        have hcz15_0 : wc.cell? ⟨gb101, 0, none⟩ = some (.int .i64 a0_0) := (blk_cell BK101.out 0).trans rfl
        have hcz15_1 : wc.cell? ⟨gb101, 1, none⟩ = some (.string a0_1) := (blk_cell BK101.out 1).trans rfl
        have hcz15_2 : wc.cell? ⟨gb101, 2, none⟩ = some (.string a0_2) := (blk_cell BK101.out 2).trans rfl
        have hcz15_3 : wc.cell? ⟨gb101, 3, none⟩ = some (.int .u64 a0_3) := (blk_cell BK101.out 3).trans rfl
        have hfz15_0 := blk_frozen BK101.out 0
        have hfz15_1 := blk_frozen BK101.out 1
        have hfz15_2 := blk_frozen BK101.out 2
        have hfz15_3 := blk_frozen BK101.out 3
        go_wp2
        go_ret
        exact ⟨by first | rfl | (rw [bl_gt] <;> rfl) | (simp [errW_none, errW_some] <;> rfl) | (simp [*, errW_none, errW_some] <;> rfl), by repeat (first | (with_reducible first | exact HB.out | apply below_alloc | apply pw_below_drewN | apply below_drew1 | refine below_set ?_ GE101.out) | exact HB.out)⟩
       ·rw [if_neg c14] at H
        have c14b0 : (a0_2.toList == ([] : List UInt8)) = false := beq_eq_false_iff_ne.mpr c14
        have c14b1 : (a0_2.toList != ([] : List UInt8)) = true := bne_iff_ne.mpr c14
        obtain rfl := Option.some.inj H
        have hcz16_0 : wc.cell? ⟨gb101, 0, none⟩ = some (.int .i64 a0_0) := (blk_cell BK101.out 0).trans rfl
        have hcz16_1 : wc.cell? ⟨gb101, 1, none⟩ = some (.string a0_1) := (blk_cell BK101.out 1).trans rfl
        have hcz16_2 : wc.cell? ⟨gb101, 2, none⟩ = some (.string a0_2) := (blk_cell BK101.out 2).trans rfl
        have hcz16_3 : wc.cell? ⟨gb101, 3, none⟩ = some (.int .u64 a0_3) := (blk_cell BK101.out 3).trans rfl
        have hfz16_0 := blk_frozen BK101.out 0
        have hfz16_1 := blk_frozen BK101.out 1
        have hfz16_2 := blk_frozen BK101.out 2
        have hfz16_3 := blk_frozen BK101.out 3
        go_wp2
        go_ret
        exact ⟨by first | rfl | (rw [bl_gt] <;> rfl) | (simp [errW_none, errW_some] <;> rfl) | (simp [*, errW_none, errW_some] <;> rfl), by repeat (first | (with_reducible first | exact HB.out | apply below_alloc | apply pw_below_drewN | apply below_drew1 | refine below_set ?_ GE101.out) | exact HB.out)⟩
      ·replace c13 := Bool.eq_false_iff.mpr c13
       subst c13
       have H1 : (if a0_0 = 3 then (txn_is.j2 kj9 a0_0 (a0_0 == 3) a0_0 a0_1 a0_2 a0_3) else (txn_is.j2 kj9 a0_0 (a0_0 == 4) a0_0 a0_1 a0_2 a0_3)) = some r := by rw [if_neg (show ¬ (false = true) by decide)] at H; exact H
       clear H;have H := H1;clear H1
       have HC17 := Aside0.mk H
       clear H
       go_upto_if 26 with (fail)
       go_cut [26] (fun v26 wc => ∃ (kq : Nat) (x26_16 : Bool), v26 = .bool x26_16 ∧ Aside0 (txn_is.j2 kq a0_0 x26_16 a0_0 a0_1 a0_2 a0_3 = some r) ∧ Aside0 (kq ≤ kj9) ∧ Aside0 (wc.heap[gb101]? = some (.cells #[.int .i64 a0_0, .string a0_1, .string a0_2, .int .u64 a0_3] 63 (0, 0))) ∧ Aside0 (Below w.heap.size w wc))
       case first =>
        have H := HC17.out;clear HC17
        by_cases c18 : a0_0 = 3
        ·rw [if_pos c18] at H
         have c18b0 : (a0_0 == 3) = true := beq_iff_eq.mpr c18
         have c18b1 : (a0_0 != 3) = false := bne_eq_false_iff_eq.mpr c18
         clear c18
         (first | rw [c18b0] | (simp only [i64_w, i32_w]; rw [c18b0]) | skip)
         have H' := Aside0.mk H
         clear H
         go_wp2
         first
         | (go_meet; case rel => exact ⟨_, ((a0_0 == 3)), (by first | rfl | (rw [bl_gt] <;> rfl) | (simp; done) | (simp [*]; done)), H', ⟨by have := HJ1.out; have := HJ9.out; first | omega | exact Nat.le_refl _⟩, ⟨by (with_reducible repeat (first | refine blk_drewN ?_ _ | refine blk_drew ?_ | refine blk_alloc ?_ _)); exact BK101.out⟩, ⟨by repeat (first | (with_reducible first | exact HB.out | apply below_alloc | apply pw_below_drewN | apply below_drew1 | refine below_set ?_ GE101.out) | exact HB.out)⟩⟩)
         | (refine Met.intro ?_; go_step; (repeat apply Exists.intro); refine ⟨?_, ?_⟩; rotate_left; (focus (simp only [c18b0]; try rfl)); exact ⟨_, ((a0_0 == 3)), (by first | rfl | (rw [bl_gt] <;> rfl) | (simp; done) | (simp [*]; done)), H', ⟨by have := HJ1.out; have := HJ9.out; first | omega | exact Nat.le_refl _⟩, ⟨by (with_reducible repeat (first | refine blk_drewN ?_ _ | refine blk_drew ?_ | refine blk_alloc ?_ _)); exact BK101.out⟩, ⟨by repeat (first | (with_reducible first | exact HB.out | apply below_alloc | apply pw_below_drewN | apply below_drew1 | refine below_set ?_ GE101.out) | exact HB.out)⟩⟩)
        ·rw [if_neg c18] at H
         have c18b0 : (a0_0 == 3) = false := beq_eq_false_iff_ne.mpr c18
         have c18b1 : (a0_0 != 3) = true := bne_iff_ne.mpr c18
         (first | rw [c18b0] | (simp only [i64_w, i32_w]; rw [c18b0]) | skip)
         have H' := Aside0.mk H
         clear H
         go_wp2
         first
         | (go_meet; case rel => exact ⟨_, ((a0_0 == 4)), (by first | rfl | (rw [bl_gt] <;> rfl) | (simp; done) | (simp [*]; done)), H', ⟨by have := HJ1.out; have := HJ9.out; first | omega | exact Nat.le_refl _⟩, ⟨by (with_reducible repeat (first | refine blk_drewN ?_ _ | refine blk_drew ?_ | refine blk_alloc ?_ _)); exact BK101.out⟩, ⟨by repeat (first | (with_reducible first | exact HB.out | apply below_alloc | apply pw_below_drewN | apply below_drew1 | refine below_set ?_ GE101.out) | exact HB.out)⟩⟩)
         | (refine Met.intro ?_; go_step; (repeat apply Exists.intro); refine ⟨?_, ?_⟩; rotate_left; (focus (simp only [c18b0]; try rfl)); exact ⟨_, ((a0_0 == 4)), (by first | rfl | (rw [bl_gt] <;> rfl) | (simp; done) | (simp [*]; done)), H', ⟨by have := HJ1.out; have := HJ9.out; first | omega | exact Nat.le_refl _⟩, ⟨by (with_reducible repeat (first | refine blk_drewN ?_ _ | refine blk_drew ?_ | refine blk_alloc ?_ _)); exact BK101.out⟩, ⟨by repeat (first | (with_reducible first | exact HB.out | apply below_alloc | apply pw_below_drewN | apply below_drew1 | refine below_set ?_ GE101.out) | exact HB.out)⟩⟩)
       case rest =>
        clear HC17
        try clear c1
        try clear p2
        try clear c5
        try clear c5b0
        try clear c5b1
        try clear c9
        try clear c10
        try clear c12
        try clear c12b0
        try clear c12b1
        try clear c13
        try clear c14
        try clear c14b0
        try clear c14b1
        try clear c18
        try clear c18b0
        try clear c18b1
        try clear hcz11_0
        try clear hcz11_1
        try clear hcz11_2
        try clear hcz11_3
        try clear hcz15_0
        try clear hcz15_1
        try clear hcz15_2
        try clear hcz15_3
        try clear hcz16_0
        try clear hcz16_1
        try clear hcz16_2
        try clear hcz16_3
        try clear hcz7_0
        try clear hcz7_1
        try clear hcz7_2
        try clear hcz7_3
        try clear hcz8_0
        try clear hcz8_1
        try clear hcz8_2
        try clear hcz8_3
        try clear hfz11_0
        try clear hfz11_1
        try clear hfz11_2
        try clear hfz11_3
        try clear hfz15_0
        try clear hfz15_1
        try clear hfz15_2
        try clear hfz15_3
        try clear hfz16_0
        try clear hfz16_1
        try clear hfz16_2
        try clear hfz16_3
        try clear hfz7_0
        try clear hfz7_1
        try clear hfz7_2
        try clear hfz7_3
        try clear hfz8_0
        try clear hfz8_1
        try clear hfz8_2
        try clear hfz8_3
        try clear p2
        obtain ⟨kq, x26_16, rfl, HA, HJ16, BK101, HB⟩ := hcut
        cases kq with
        | zero => exact absurd HA.out (by simp [txn_is.j2])
        | succ kj16 =>
         have H := HA.out;clear HA
         simp only [txn_is.j2] at H
         by_cases c19 : x26_16 = true
         ·subst c19
          have H1 : (some (a0_2.toList == ([] : List UInt8))) = some r := by rw [if_pos rfl] at H; exact H
          clear H;have H := H1;clear H1;obtain rfl := Option.some.inj H
          have hcz20_0 : wc.cell? ⟨gb101, 0, none⟩ = some (.int .i64 a0_0) := (blk_cell BK101.out 0).trans rfl
          have hcz20_1 : wc.cell? ⟨gb101, 1, none⟩ = some (.string a0_1) := (blk_cell BK101.out 1).trans rfl
          have hcz20_2 : wc.cell? ⟨gb101, 2, none⟩ = some (.string a0_2) := (blk_cell BK101.out 2).trans rfl
          have hcz20_3 : wc.cell? ⟨gb101, 3, none⟩ = some (.int .u64 a0_3) := (blk_cell BK101.out 3).trans rfl
          have hfz20_0 := blk_frozen BK101.out 0
          have hfz20_1 := blk_frozen BK101.out 1
          have hfz20_2 := blk_frozen BK101.out 2
          have hfz20_3 := blk_frozen BK101.out 3
          go_wp2
          go_ret
          exact ⟨by first | rfl | (rw [bl_gt] <;> rfl) | (simp [errW_none, errW_some] <;> rfl) | (simp [*, errW_none, errW_some] <;> rfl), by repeat (first | (with_reducible first | exact HB.out | apply below_alloc | apply pw_below_drewN | apply below_drew1 | refine below_set ?_ GE101.out) | exact HB.out)⟩
         ·replace c19 := Bool.eq_false_iff.mpr c19
          subst c19
          have H1 : (if a0_0 = 2 then (if a0_3 = 0 then (if a0_2.toList = ([] : List UInt8) then (some true) else ((span_Key.f a0_2).bind fun t104 => (if t104 = 0 then (some (Op.bytesLess a0_1.toList a0_2.toList)) else (some false)))) else (some false)) else (if a0_0 = 6 then ((span_Key.f a0_2).bind fun t105 => (if t105 = 0 then (some (a0_2.toList != a0_1.toList)) else (some false))) else (some false))) = some r := by rw [if_neg (show ¬ (false = true) by decide)] at H; exact H
          clear H;have H := H1;clear H1
          by_cases c21 : a0_0 = 2
          ·rw [if_pos c21] at H
           have c21b0 : (a0_0 == 2) = true := beq_iff_eq.mpr c21
           have c21b1 : (a0_0 != 2) = false := bne_eq_false_iff_eq.mpr c21
           clear c21
           by_cases c22 : a0_3 = 0
           ·rw [if_pos c22] at H
            have c22b0 : (a0_3 == 0) = true := beq_iff_eq.mpr c22
            have c22b1 : (a0_3 != 0) = false := bne_eq_false_iff_eq.mpr c22
            clear c22
            by_cases c23 : a0_2.toList = ([] : List UInt8)
            ·rw [if_pos c23] at H
             have c23b0 : (a0_2.toList == ([] : List UInt8)) = true := beq_iff_eq.mpr c23
             have c23b1 : (a0_2.toList != ([] : List UInt8)) = false := bne_eq_false_iff_eq.mpr c23
             clear c23;obtain rfl := Option.some.inj H
             have hcz24_0 : wc.cell? ⟨gb101, 0, none⟩ = some (.int .i64 a0_0) := (blk_cell BK101.out 0).trans rfl
             have hcz24_1 : wc.cell? ⟨gb101, 1, none⟩ = some (.string a0_1) := (blk_cell BK101.out 1).trans rfl
             have hcz24_2 : wc.cell? ⟨gb101, 2, none⟩ = some (.string a0_2) := (blk_cell BK101.out 2).trans rfl
             have hcz24_3 : wc.cell? ⟨gb101, 3, none⟩ = some (.int .u64 a0_3) := (blk_cell BK101.out 3).trans rfl
             have hfz24_0 := blk_frozen BK101.out 0
             have hfz24_1 := blk_frozen BK101.out 1
             have hfz24_2 := blk_frozen BK101.out 2
             have hfz24_3 := blk_frozen BK101.out 3
             go_wp2
             go_ret
             exact ⟨by first | rfl | (rw [bl_gt] <;> rfl) | (simp [errW_none, errW_some] <;> rfl) | (simp [*, errW_none, errW_some] <;> rfl), by repeat (first | (with_reducible first | exact HB.out | apply below_alloc | apply pw_below_drewN | apply below_drew1 | refine below_set ?_ GE101.out) | exact HB.out)⟩
            ·rw [if_neg c23] at H
             have c23b0 : (a0_2.toList == ([] : List UInt8)) = false := beq_eq_false_iff_ne.mpr c23
             have c23b1 : (a0_2.toList != ([] : List UInt8)) = true := bne_iff_ne.mpr c23
             replace H := Option.bind_eq_some_iff.mp H
             obtain ⟨t104, A250, H⟩ := H
             replace H : (if t104 = 0 then (some (Op.bytesLess a0_1.toList a0_2.toList)) else (some false)) = some r := H
             have A25 := Aside0.mk A250
             clear A250
             by_cases c26 : t104 = 0
             ·rw [if_pos c26] at H
              have c26b0 : (t104 == 0) = true := beq_iff_eq.mpr c26
              have c26b1 : (t104 != 0) = false := bne_eq_false_iff_eq.mpr c26
              clear c26;obtain rfl := Option.some.inj H
              have hcz27_0 : wc.cell? ⟨gb101, 0, none⟩ = some (.int .i64 a0_0) := (blk_cell BK101.out 0).trans rfl
              have hcz27_1 : wc.cell? ⟨gb101, 1, none⟩ = some (.string a0_1) := (blk_cell BK101.out 1).trans rfl
              have hcz27_2 : wc.cell? ⟨gb101, 2, none⟩ = some (.string a0_2) := (blk_cell BK101.out 2).trans rfl
              have hcz27_3 : wc.cell? ⟨gb101, 3, none⟩ = some (.int .u64 a0_3) := (blk_cell BK101.out 3).trans rfl
              have hfz27_0 := blk_frozen BK101.out 0
              have hfz27_1 := blk_frozen BK101.out 1
              have hfz27_2 := blk_frozen BK101.out 2
              have hfz27_3 := blk_frozen BK101.out 3
              go_wp2_with (first | (go_at_call 103; (with_reducible refine (span_Key.calls a0_2 t104 _ A25.out).mono ?_); rintro e w' ⟨rfl, ⟨nd, rfl⟩⟩))
              go_ret
              exact ⟨by first | rfl | (rw [bl_gt] <;> rfl) | (simp [errW_none, errW_some] <;> rfl) | (simp [*, errW_none, errW_some] <;> rfl), by repeat (first | (with_reducible first | exact HB.out | apply below_alloc | apply pw_below_drewN | apply below_drew1 | refine below_set ?_ GE101.out) | exact HB.out)⟩
             ·rw [if_neg c26] at H
              have c26b0 : (t104 == 0) = false := beq_eq_false_iff_ne.mpr c26
              have c26b1 : (t104 != 0) = true := bne_iff_ne.mpr c26
              obtain rfl := Option.some.inj H
              have hcz28_0 : wc.cell? ⟨gb101, 0, none⟩ = some (.int .i64 a0_0) := (blk_cell BK101.out 0).trans rfl
              have hcz28_1 : wc.cell? ⟨gb101, 1, none⟩ = some (.string a0_1) := (blk_cell BK101.out 1).trans rfl
              have hcz28_2 : wc.cell? ⟨gb101, 2, none⟩ = some (.string a0_2) := (blk_cell BK101.out 2).trans rfl
              have hcz28_3 : wc.cell? ⟨gb101, 3, none⟩ = some (.int .u64 a0_3) := (blk_cell BK101.out 3).trans rfl
              have hfz28_0 := blk_frozen BK101.out 0
              have hfz28_1 := blk_frozen BK101.out 1
              have hfz28_2 := blk_frozen BK101.out 2
              have hfz28_3 := blk_frozen BK101.out 3
              go_wp2_with (first | (go_at_call 103; (with_reducible refine (span_Key.calls a0_2 t104 _ A25.out).mono ?_); rintro e w' ⟨rfl, ⟨nd, rfl⟩⟩))
              go_ret
              exact ⟨by first | rfl | (rw [bl_gt] <;> rfl) | (simp [errW_none, errW_some] <;> rfl) | (simp [*, errW_none, errW_some] <;> rfl), by repeat (first | (with_reducible first | exact HB.out | apply below_alloc | apply pw_below_drewN | apply below_drew1 | refine below_set ?_ GE101.out) | exact HB.out)⟩
           ·rw [if_neg c22] at H
            have c22b0 : (a0_3 == 0) = false := beq_eq_false_iff_ne.mpr c22
            have c22b1 : (a0_3 != 0) = true := bne_iff_ne.mpr c22
            obtain rfl := Option.some.inj H
            have hcz29_0 : wc.cell? ⟨gb101, 0, none⟩ = some (.int .i64 a0_0) := (blk_cell BK101.out 0).trans rfl
            have hcz29_1 : wc.cell? ⟨gb101, 1, none⟩ = some (.string a0_1) := (blk_cell BK101.out 1).trans rfl
            have hcz29_2 : wc.cell? ⟨gb101, 2, none⟩ = some (.string a0_2) := (blk_cell BK101.out 2).trans rfl
            have hcz29_3 : wc.cell? ⟨gb101, 3, none⟩ = some (.int .u64 a0_3) := (blk_cell BK101.out 3).trans rfl
            have hfz29_0 := blk_frozen BK101.out 0
            have hfz29_1 := blk_frozen BK101.out 1
            have hfz29_2 := blk_frozen BK101.out 2
            have hfz29_3 := blk_frozen BK101.out 3
            go_wp2
            go_ret
            exact ⟨by first | rfl | (rw [bl_gt] <;> rfl) | (simp [errW_none, errW_some] <;> rfl) | (simp [*, errW_none, errW_some] <;> rfl), by repeat (first | (with_reducible first | exact HB.out | apply below_alloc | apply pw_below_drewN | apply below_drew1 | refine below_set ?_ GE101.out) | exact HB.out)⟩
          ·rw [if_neg c21] at H
           have c21b0 : (a0_0 == 2) = false := beq_eq_false_iff_ne.mpr c21
           have c21b1 : (a0_0 != 2) = true := bne_iff_ne.mpr c21
           by_cases c30 : a0_0 = 6
           ·rw [if_pos c30] at H
            have c30b0 : (a0_0 == 6) = true := beq_iff_eq.mpr c30
            have c30b1 : (a0_0 != 6) = false := bne_eq_false_iff_eq.mpr c30
            clear c30
            replace H := Option.bind_eq_some_iff.mp H
            obtain ⟨t105, A310, H⟩ := H
            replace H : (if t105 = 0 then (some (a0_2.toList != a0_1.toList)) else (some false)) = some r := H
            have A31 := Aside0.mk A310
            clear A310
            by_cases c32 : t105 = 0
            ·rw [if_pos c32] at H
             have c32b0 : (t105 == 0) = true := beq_iff_eq.mpr c32
             have c32b1 : (t105 != 0) = false := bne_eq_false_iff_eq.mpr c32
             clear c32;obtain rfl := Option.some.inj H
             have hcz33_0 : wc.cell? ⟨gb101, 0, none⟩ = some (.int .i64 a0_0) := (blk_cell BK101.out 0).trans rfl
             have hcz33_1 : wc.cell? ⟨gb101, 1, none⟩ = some (.string a0_1) := (blk_cell BK101.out 1).trans rfl
             have hcz33_2 : wc.cell? ⟨gb101, 2, none⟩ = some (.string a0_2) := (blk_cell BK101.out 2).trans rfl
             have hcz33_3 : wc.cell? ⟨gb101, 3, none⟩ = some (.int .u64 a0_3) := (blk_cell BK101.out 3).trans rfl
             have hfz33_0 := blk_frozen BK101.out 0
             have hfz33_1 := blk_frozen BK101.out 1
             have hfz33_2 := blk_frozen BK101.out 2
             have hfz33_3 := blk_frozen BK101.out 3
             go_wp2_with (first | ((with_reducible refine gate_callee (f := 103) rfl ?_); refine goesL_ (some 59) rfl rfl Tryz.func103 (by kernel_rfl) rfl #[.string a0_2] rfl (by (try simp only [List.map_toArray, List.map_cons, List.map_nil]); first | done | rfl | (simp only [List.length_drop, List.length_take]; rfl)) ?_; (with_reducible refine (span_Key.calls a0_2 t105 _ A31.out).mono ?_); rintro e w' ⟨rfl, ⟨nd, rfl⟩⟩; refine ⟨_, rfl, ?_⟩))
             go_ret
             exact ⟨by first | rfl | (rw [bl_gt] <;> rfl) | (simp [errW_none, errW_some] <;> rfl) | (simp [*, errW_none, errW_some] <;> rfl), by repeat (first | (with_reducible first | exact HB.out | apply below_alloc | apply pw_below_drewN | apply below_drew1 | refine below_set ?_ GE101.out) | exact HB.out)⟩
            ·rw [if_neg c32] at H
             have c32b0 : (t105 == 0) = false := beq_eq_false_iff_ne.mpr c32
             have c32b1 : (t105 != 0) = true := bne_iff_ne.mpr c32
             obtain rfl := Option.some.inj H
             have hcz34_0 : wc.cell? ⟨gb101, 0, none⟩ = some (.int .i64 a0_0) := (blk_cell BK101.out 0).trans rfl
             have hcz34_1 : wc.cell? ⟨gb101, 1, none⟩ = some (.string a0_1) := (blk_cell BK101.out 1).trans rfl
             have hcz34_2 : wc.cell? ⟨gb101, 2, none⟩ = some (.string a0_2) := (blk_cell BK101.out 2).trans rfl
             have hcz34_3 : wc.cell? ⟨gb101, 3, none⟩ = some (.int .u64 a0_3) := (blk_cell BK101.out 3).trans rfl
             have hfz34_0 := blk_frozen BK101.out 0
             have hfz34_1 := blk_frozen BK101.out 1
             have hfz34_2 := blk_frozen BK101.out 2
             have hfz34_3 := blk_frozen BK101.out 3
             go_wp2_with (first | ((with_reducible refine gate_callee (f := 103) rfl ?_); refine goesL_ (some 59) rfl rfl Tryz.func103 (by kernel_rfl) rfl #[.string a0_2] rfl (by (try simp only [List.map_toArray, List.map_cons, List.map_nil]); first | done | rfl | (simp only [List.length_drop, List.length_take]; rfl)) ?_; (with_reducible refine (span_Key.calls a0_2 t105 _ A31.out).mono ?_); rintro e w' ⟨rfl, ⟨nd, rfl⟩⟩; refine ⟨_, rfl, ?_⟩))
             go_ret
             exact ⟨by first | rfl | (rw [bl_gt] <;> rfl) | (simp [errW_none, errW_some] <;> rfl) | (simp [*, errW_none, errW_some] <;> rfl), by repeat (first | (with_reducible first | exact HB.out | apply below_alloc | apply pw_below_drewN | apply below_drew1 | refine below_set ?_ GE101.out) | exact HB.out)⟩
           ·rw [if_neg c30] at H
            have c30b0 : (a0_0 == 6) = false := beq_eq_false_iff_ne.mpr c30
            have c30b1 : (a0_0 != 6) = true := bne_iff_ne.mpr c30
            obtain rfl := Option.some.inj H
            go_wp2
            go_ret
            exact ⟨by first | rfl | (rw [bl_gt] <;> rfl) | (simp [errW_none, errW_some] <;> rfl) | (simp [*, errW_none, errW_some] <;> rfl), by repeat (first | (with_reducible first | exact HB.out | apply below_alloc | apply pw_below_drewN | apply below_drew1 | refine below_set ?_ GE101.out) | exact HB.out)⟩
end Go.Proofs.YtgmlenpcchhmbaaGreat.P
end
section
set_option linter.unusedVariables false
set_option linter.unusedSimpArgs false
namespace Go.Proofs.YtgmlenpcchhmbaaGreat.P
def idxP {α : Type} (p : α → Bool) (xs : List α) : Int := match xs.findIdx? p with | some i => (i : Int) | none => -1
theorem idxP_hit {α : Type} {p : α → Bool} {xs : List α} {k : Nat} (hk : k < xs.length) (h : ∀ j (hj : j < xs.length), j < k → p xs[j] = false) (ht : p xs[k] = true) : idxP p xs = k := by
  unfold idxP
  have : xs.findIdx? p = some k := by
    rw [List.findIdx?_eq_some_iff_getElem]
    exact ⟨hk, ht, fun j hj => by simpa using h j (by omega) hj⟩
  rw [this]
theorem idxP_none {α : Type} {p : α → Bool} {xs : List α} (h : ∀ j (hj : j < xs.length), p xs[j] = false) : idxP p xs = -1 := by
  unfold idxP
  have : xs.findIdx? p = none := by
    rw [List.findIdx?_eq_none_iff]
    intro x hx
    obtain ⟨j, hj, rfl⟩ := List.getElem_of_mem hx
    exact h j hj
  rw [this]
structure DelInv {α : Type} (p : α → Bool) (xs ys : List α) (i j : Nat) : Prop where
  len : ys.length = xs.length
  lt : i < j
  le : j ≤ xs.length
  low : ys.take i = (xs.take j).filter (fun x => !p x)
  high : ys.drop j = xs.drop j
theorem DelInv.start {α : Type} {p : α → Bool} {xs : List α} {k : Nat} (hk : k < xs.length) (h : ∀ j (hj : j < xs.length), j < k → p xs[j] = false) (ht : p xs[k] = true) : DelInv p xs xs k (k + 1) where
  len := rfl
  lt := Nat.lt_succ_self _
  le := hk
  low := by
    rw [List.take_succ_eq_append_getElem hk, List.filter_append, List.filter_cons_of_neg (by simp [ht]), List.filter_nil, List.append_nil, List.filter_eq_self.2]
    intro x hx
    obtain ⟨j, hj, rfl⟩ := List.getElem_of_mem hx
    rw [List.length_take] at hj
    rw [List.getElem_take]
    simp [h j (by omega) (by omega)]
  high := rfl
theorem DelInv.get {α : Type} {p : α → Bool} {xs ys : List α} {i j : Nat} (h : DelInv p xs ys i j) (hj : j < xs.length) : ys[j]'(by rw [h.len]; exact hj) = xs[j] := by
  have h1 : (ys.drop j)[0]? = (xs.drop j)[0]? := by rw [h.high]
  rw [List.getElem?_drop, List.getElem?_drop, Nat.add_zero, List.getElem?_eq_getElem (by rw [h.len]; exact hj), List.getElem?_eq_getElem hj] at h1
  exact Option.some.inj h1
theorem DelInv.skip {α : Type} {p : α → Bool} {xs ys : List α} {i j : Nat} (h : DelInv p xs ys i j) (hj : j < xs.length) (hp : p xs[j] = true) : DelInv p xs ys i (j + 1) where
  len := h.len
  lt := Nat.lt_succ_of_lt h.lt
  le := hj
  low := by rw [h.low, List.take_succ_eq_append_getElem hj, List.filter_append, List.filter_cons_of_neg (by simp [hp]), List.filter_nil, List.append_nil]
  high := by rw [← List.drop_drop, h.high, List.drop_drop]
theorem DelInv.keep {α : Type} {p : α → Bool} {xs ys : List α} {i j : Nat} (h : DelInv p xs ys i j) (hj : j < xs.length) (hp : p xs[j] = false) : DelInv p xs (ys.set i xs[j]) (i + 1) (j + 1) where
  len := by rw [List.length_set]; exact h.len
  lt := Nat.succ_lt_succ h.lt
  le := hj
  low := by
    have hi : i < (ys.set i xs[j]).length := by rw [List.length_set, h.len]; have := h.lt; omega
    rw [List.take_succ_eq_append_getElem hi, List.getElem_set_self, List.take_set_of_le (Nat.le_refl _), h.low, List.take_succ_eq_append_getElem hj, List.filter_append, List.filter_cons_of_pos (by simp [hp]), List.filter_nil]
  high := by
    rw [List.drop_set_of_lt (by have := h.lt; omega), ← List.drop_drop, h.high, List.drop_drop]
theorem DelInv.done {α : Type} {p : α → Bool} {xs ys : List α} {i : Nat} (h : DelInv p xs ys i xs.length) : ys.take i = xs.filter (fun x => !p x) := by
  rw [h.low, List.take_length]
theorem DelInv.size {α : Type} {p : α → Bool} {xs ys : List α} {i : Nat} (h : DelInv p xs ys i xs.length) : (xs.filter (fun x => !p x)).length = i := by
  rw [← h.done, List.length_take, h.len]; have := h.lt; omega
end Go.Proofs.YtgmlenpcchhmbaaGreat.P
end
section
set_option linter.unusedVariables false
set_option linter.unusedSimpArgs false
namespace Go.Proofs.YtgmlenpcchhmbaaGreat.P
open Go.RowKit Go.Proofs.YtgmlenpcchhmbaaGreatW.PrintWords Go.Proofs.YtgmlenpcchhmbaaGreatW.PrintLast Go.Proofs.YtgmlenpcchhmbaaGreatW.PrintMore
theorem toList_nil (a : ByteArray) : a.toList = ([] : List UInt8) ↔ a = emptyB := by
  rw [ByteArray.toList_eq]
  constructor
  · intro h; exact ba_ext (by rw [h]; rfl)
  · intro h; rw [h]; rfl
theorem toList_inj {a b : ByteArray} : a.toList = b.toList ↔ a = b := by
  rw [ByteArray.toList_eq, ByteArray.toList_eq]
  exact ⟨ba_ext, fun h => by rw [h]⟩
theorem klt_list (a b : ByteArray) : Op.bytesLess a.toList b.toList = klt a b := by rw [ByteArray.toList_eq, ByteArray.toList_eq]; rfl
def keyT (k : ByteArray) : Bool := decide (k ≠ emptyB) && decide (k.size ≤ 16)
theorem span_Key_f (k : ByteArray) : span_Key.f k = some (if keyT k = true then 0 else 30) := by
  unfold span_Key.f keyT
  by_cases h : k = emptyB
  · rw [if_pos ((toList_nil k).2 h)]; simp [h]
  · rw [if_neg (fun e => h ((toList_nil k).1 e))]
    by_cases h2 : k.size ≤ 16
    · rw [if_neg (by omega)]; simp [h, h2]
    · rw [if_pos (by omega)]; simp [h, h2]
def isT (o : S63) : Bool :=
  keyT o.f1 && numOk o.f3 &&
    (if o.f0 = 1 ∨ o.f0 = 5 then decide (o.f2 = emptyB) && decide (o.f3 = 0)
     else if o.f0 = 3 ∨ o.f0 = 4 then decide (o.f2 = emptyB)
     else if o.f0 = 2 then decide (o.f3 = 0) && (decide (o.f2 = emptyB) || (keyT o.f2 && klt o.f1 o.f2))
     else if o.f0 = 6 then keyT o.f2 && decide (o.f2 ≠ o.f1) else false)
theorem txn_is_f (o : S63) : txn_is.f 3 o.f0 o.f1 o.f2 o.f3 = some (isT o) := by
  obtain ⟨a, k, t, n⟩ := o
  unfold txn_is.f isT num_Check.f
  simp only [span_Key_f, Option.bind_some, klt_list, toList_nil, txn_is.j0, txn_is.j1, txn_is.j2]
  cases hk : keyT k with
  | false => simp
  | true =>
    cases hn : numOk n with
    | false => simp
    | true =>
      by_cases h1 : a = 1
      · subst h1; by_cases e : t = emptyB <;> by_cases e0 : n = 0 <;> simp [e, e0]
      by_cases h5 : a = 5
      · subst h5; by_cases e : t = emptyB <;> by_cases e0 : n = 0 <;> simp [e, e0]
      by_cases h3 : a = 3
      · subst h3; by_cases e : t = emptyB <;> simp [e, toList_nil]
      by_cases h4 : a = 4
      · subst h4; by_cases e : t = emptyB <;> simp [e, toList_nil]
      by_cases h2 : a = 2
      · subst h2; by_cases e : t = emptyB <;> by_cases e0 : n = 0 <;> cases hkt : keyT t <;> simp [e, e0]
      by_cases h6 : a = 6
      · subst h6; cases hkt : keyT t <;> by_cases e : t = k <;> simp [e, toList_inj]
      simp [h1, h2, h3, h4, h5, h6]
set_option maxHeartbeats 1000000 in
theorem oidx_any (g : Nat) (p : S63 → Bool) (eg : ∀ args w, (callFunc g args).run Tryz.prog w = .ok (.enter g args) w) (A : Option Addr) (c : Nat) (xs : List S63) (w : World) (hr : Kd.C k63 w A xs.length xs)
    (hp : ∀ (W : World) (s : S63), s ∈ xs → Below w.heap.size w W → Calls Tryz.prog g #[.agg #[.int .i64 s.f0, .string s.f1, .string s.f2, .int .u64 s.f3]] W fun e w' => e = .returned (.bool (p s)) ∧ Below W.heap.size W w') :
    Calls Tryz.prog 102 #[.slice A xs.length c, .func (.func g) #[] #[]] w fun e w' => e = .returned (.int .i64 (idxP p xs)) ∧ Below w.heap.size w w' := by
  have hm := Kd.C_max hr
  have HR := Lib.hid hr; clear hr
  have HP := Lib.hid hp; clear hp
  go_enter Tryz.func102, Tryz.ntmps102
  go_wp2
  go_loopw [5, 8] (fun _ i wr => ∃ k : Nat, i = .int .i64 k ∧ k ≤ xs.length ∧ Below w.heap.size w wr ∧ RowKit.Hid (∀ j (hj : j < xs.length), j < k → p xs[j] = false)) (fun _ i _ => xs.length - (intOf i).toNat)
  case atStart => exact ⟨0, rfl, Nat.zero_le _, Below.refl _ _, Lib.hid (fun j _ h => absurd h (Nat.not_lt_zero _))⟩
  case round =>
    obtain ⟨k, rfl, hk, hB, HN⟩ := hrel
    by_cases hlt : k < xs.length
    · obtain ⟨ad, hA, x0, x1, x2, x3⟩ := at_T63 (Kd.C_below HR.out hB) (k : Int) (by omega) (by omega)
      subst hA
      have hc := HP.out wr xs[k] (List.getElem_mem hlt) hB
      have er : rd_T63 xs (k : Int) = xs[k] := by
        unfold rd_T63
        rw [Int.toNat_natCast, List.getD_eq_getElem?_getD, List.getElem?_eq_getElem hlt]
        rfl
      rw [er] at x0 x1 x2 x3
      rw [Int.toNat_natCast] at x0 x1 x2 x3
      clear er
      generalize hu : xs[k] = u at *
      have HU := Lib.hid hu; clear hu
      cases hq : p u with
      | true =>
        rw [hq] at hc
        have HQ := Lib.hid hq; clear hq
        go_wp2_with (go_at_fn g; refine hc.mono ?_; rintro e w' ⟨rfl, hb⟩)
        go_ret
        refine ⟨?_, hB.trans (hb.mono hB.size)⟩
        rw [idxP_hit hlt HN.out (by rw [HU.out]; exact HQ.out)]
        rfl
      | false =>
        rw [hq] at hc
        have HQ := Lib.hid hq; clear hq
        go_wp2_with (go_at_fn g; refine hc.mono ?_; rintro e w' ⟨rfl, hb⟩)
        go_roundw
        case rel => exact ⟨k + 1, by go_num, by omega, hB.trans (hb.mono hB.size), Lib.hid (fun j hj h => by
          by_cases e : j = k
          · subst e; rw [HU.out]; exact HQ.out
          · exact HN.out j hj (by omega))⟩
        case measure => simp [intOf]; omega
    · obtain rfl : k = xs.length := by omega
      go_wp2
      go_ret
      refine ⟨?_, hB⟩
      rw [idxP_none (fun j hj => HN.out j hj (by omega))]
      rfl
theorem idxP_any {α : Type} (p : α → Bool) (xs : List α) : decide (idxP p xs ≥ 0) = xs.any p := by
  unfold idxP
  cases h : xs.findIdx? p with
  | none =>
    rw [List.findIdx?_eq_none_iff] at h
    simp; exact h
  | some i =>
    obtain ⟨hi, hp, _⟩ := List.findIdx?_eq_some_iff_getElem.1 h
    simp
    exact ⟨_, List.getElem_mem hi, hp⟩
set_option maxHeartbeats 1000000 in
theorem ocontains_any (g : Nat) (p : S63 → Bool) (eg : ∀ args w, (callFunc g args).run Tryz.prog w = .ok (.enter g args) w) (A : Option Addr) (c : Nat) (xs : List S63) (w : World) (hr : Kd.C k63 w A xs.length xs)
    (hp : ∀ (W : World) (s : S63), s ∈ xs → Below w.heap.size w W → Calls Tryz.prog g #[.agg #[.int .i64 s.f0, .string s.f1, .string s.f2, .int .u64 s.f3]] W fun e w' => e = .returned (.bool (p s)) ∧ Below W.heap.size W w') :
    Calls Tryz.prog 56 #[.slice A xs.length c, .func (.func g) #[] #[]] w fun e w' => e = .returned (.bool (xs.any p)) ∧ Below w.heap.size w w' := by
  have HC := Lib.hid (oidx_any g p eg A c xs w hr hp)
  rw [← idxP_any]
  clear hr hp
  generalize idxP p xs = i at *
  go_enter Tryz.func56, Tryz.ntmps56
  go_wp2_with fail
  refine HC.out.mono ?_
  rintro e w1 ⟨rfl, hb⟩
  have HB := Lib.hid hb; clear hb
  go_wp2
  go_ret
  exact ⟨rfl, HB.out⟩
theorem check1_any (s : S63) (w : World) : Calls Tryz.prog 57 #[.agg #[.int .i64 s.f0, .string s.f1, .string s.f2, .int .u64 s.f3]] w fun e w' => e = .returned (.bool (!isT s)) ∧ Below w.heap.size w w' := by
  obtain ⟨w1, hw1⟩ : ∃ w1, w.alloc (.cells #[.int .i64 s.f0, .string s.f1, .string s.f2, .int .u64 s.f3] 63) = w1 := ⟨_, rfl⟩
  have hb : Below w.heap.size w w1 := hw1 ▸ (Below.refl _ _).alloc (Nat.le_refl _) _
  have hT : Blk w1 w.heap.size 63 #[.int .i64 s.f0, .string s.f1, .string s.f2, .int .u64 s.f3] := hw1 ▸ Blk.new w 63 _
  have t0 : w1.cell? ⟨w.heap.size, 0, none⟩ = some (.int .i64 s.f0) := hT.cell 0
  have t1 : w1.cell? ⟨w.heap.size, 1, none⟩ = some (.string s.f1) := hT.cell 1
  have t2 : w1.cell? ⟨w.heap.size, 2, none⟩ = some (.string s.f2) := hT.cell 2
  have t3 : w1.cell? ⟨w.heap.size, 3, none⟩ = some (.int .u64 s.f3) := hT.cell 3
  have HC := Lib.hid (txn_is.calls 3 s.f0 s.f1 s.f2 s.f3 _ w1 (txn_is_f s))
  have HB := Lib.hid hb; clear hb hT
  generalize isT s = b at *
  go_enter Tryz.func57, Tryz.ntmps57
  go_wp2_with fail
  refine HC.out.mono ?_
  rintro e w2 ⟨rfl, hb2⟩
  have HB2 := Lib.hid (HB.out.trans (hb2.mono HB.out.size)); clear hb2
  go_wp2
  go_ret
  exact ⟨rfl, HB2.out⟩
def checkT (l : List S63) : Int := if 8 < l.length then 6 else if l.length = 0 ∨ l.any (fun o => !isT o) = true then 80 else 0
def txn_Check.f (l : List S63) : Option Int := some (checkT l)
set_option maxHeartbeats 1000000 in
theorem txn_Check.calls (A0 : Option Addr) (c0 : Nat) (l0 : List S63) (r : Int) (w : World) (hr0 : Kd.C k63 w A0 l0.length l0) (_hc0 : l0.length ≤ c0) (h : txn_Check.f l0 = some r) :
    Calls Tryz.prog 18 #[.slice A0 l0.length c0] w fun e w' => e = .returned (.int .i64 r) ∧ Below w.heap.size w w' := by
  injection h with h
  subst h
  have eg : ∀ args w, (callFunc 57 args).run Tryz.prog w = .ok (.enter 57 args) w := enters_of Tryz.func57 (by kernel_rfl) rfl
  have HC := Lib.hid (ocontains_any 57 (fun o => !isT o) eg A0 c0 l0 w hr0 (fun W s _ _ => check1_any s W))
  have hm := Kd.C_max hr0
  unfold checkT
  clear hr0
  generalize l0.any (fun o => !isT o) = b at *
  by_cases h8 : 8 < l0.length
  · rw [if_pos h8]
    go_enter Tryz.func18, Tryz.ntmps18
    go_wp2
    go_ret
    exact ⟨rfl, Below.refl _ _⟩
  · rw [if_neg h8]
    by_cases h0 : l0.length = 0
    · rw [if_pos (.inl h0)]
      have d : ((l0.length : Int) == 0) = true := by simp [h0]
      clear h0
      go_enter Tryz.func18, Tryz.ntmps18
      go_wp2
      go_ret
      exact ⟨rfl, Below.refl _ _⟩
    · have d : ((l0.length : Int) == 0) = false := beq_eq_false_iff_ne.2 (by omega)
      have hb : (if l0.length = 0 ∨ b = true then (80 : Int) else 0) = if b = true then 80 else 0 := by simp [h0]
      rw [hb]
      clear hb
      cases b with
      | true =>
        go_enter Tryz.func18, Tryz.ntmps18
        go_wp2_with fail
        refine HC.out.mono ?_
        rintro e w1 ⟨rfl, hb⟩
        have HB := Lib.hid hb; clear hb
        go_wp2
        go_ret
        exact ⟨rfl, HB.out⟩
      | false =>
        go_enter Tryz.func18, Tryz.ntmps18
        go_wp2_with fail
        refine HC.out.mono ?_
        rintro e w1 ⟨rfl, hb⟩
        have HB := Lib.hid hb; clear hb
        go_wp2
        go_ret
        exact ⟨rfl, HB.out⟩
end Go.Proofs.YtgmlenpcchhmbaaGreat.P
end
section
set_option linter.unusedVariables false
set_option linter.unusedSimpArgs false
namespace Go.Proofs.YtgmlenpcchhmbaaGreat.P
open Go.RowKit Go.Shelf Go.Proofs.YtgmlenpcchhmbaaGreatW.PrintWords Go.Proofs.YtgmlenpcchhmbaaGreatW.PrintLast Go.Proofs.YtgmlenpcchhmbaaGreatW.PrintMore
set_option maxHeartbeats 1000000 in
theorem idxSp_any (g : Nat) (fst lb : Array Value) (p : S71 → Bool) (eg : ∀ args w, (callFunc g args).run Tryz.prog w = .ok (.enter g args) w) (base blk cap : Nat) (xs : List (S71)) (w : World)
    (hown : RowSp w base (.slice (some ⟨blk, 0, none⟩) xs.length cap) xs) (hm : xs.length ≤ cap ∧ cap ≤ 9223372036854775807)
    (hp : ∀ (W : World) (s : S71), s ∈ xs → Below w.heap.size w W → Calls Tryz.prog g (fst ++ #[.agg #[.string s.f0, .string s.f1]] ++ lb) W fun e w' => e = .returned (.bool (p s)) ∧ Below W.heap.size W w') :
    Calls Tryz.prog 155 #[.slice (some ⟨blk, 0, none⟩) xs.length cap, .func (.func g) fst lb] w fun e w' => e = .returned (.int .i64 (idxP p xs)) ∧ Below w.heap.size w w' := by
  obtain ⟨hm1, hm2⟩ := hm
  have HR := Lib.hid hown; clear hown
  have HP := Lib.hid hp; clear hp
  go_enter Tryz.func155, Tryz.ntmps155
  go_wp2
  go_loopw [5, 8] (fun _ i wr => ∃ k : Nat, i = .int .i64 k ∧ k ≤ xs.length ∧ Below w.heap.size w wr ∧ RowKit.Hid (∀ j (hj : j < xs.length), j < k → p xs[j] = false)) (fun _ i _ => xs.length - (intOf i).toNat)
  case atStart => exact ⟨0, rfl, Nat.zero_le _, Below.refl _ _, Lib.hid (fun j _ h => absurd h (Nat.not_lt_zero _))⟩
  case round =>
    obtain ⟨k, rfl, hk, hB, HN⟩ := hrel
    by_cases hlt : k < xs.length
    · obtain ⟨x0, x1, _, _⟩ := RowSp.at_ (pw_own_below HR.out hB) k xs[k] (List.getElem?_eq_getElem hlt)
      have hc := HP.out wr xs[k] (List.getElem_mem hlt) hB
      generalize hu : xs[k] = u at *
      have HU := Lib.hid hu; clear hu
      cases hq : p u with
      | true =>
        rw [hq] at hc
        have HQ := Lib.hid hq; clear hq
        go_wp2_with (go_at_fn g; refine hc.mono ?_; rintro e w' ⟨rfl, hb⟩)
        go_ret
        refine ⟨?_, hB.trans (hb.mono hB.size)⟩
        rw [idxP_hit hlt HN.out (by rw [HU.out]; exact HQ.out)]
        rfl
      | false =>
        rw [hq] at hc
        have HQ := Lib.hid hq; clear hq
        go_wp2_with (go_at_fn g; refine hc.mono ?_; rintro e w' ⟨rfl, hb⟩)
        go_roundw
        case rel => exact ⟨k + 1, by go_num, by omega, hB.trans (hb.mono hB.size), Lib.hid (fun j hj h => by
          by_cases e : j = k
          · subst e; rw [HU.out]; exact HQ.out
          · exact HN.out j hj (by omega))⟩
        case measure => simp [intOf]; omega
    · obtain rfl : k = xs.length := by omega
      go_wp2
      go_ret
      refine ⟨?_, hB⟩
      rw [idxP_none (fun j hj => HN.out j hj (by omega))]
      rfl
set_option maxHeartbeats 4000000 in
set_option maxRecDepth 100000 in
theorem delSp_any (g : Nat) (fst lb : Array Value) (p : S71 → Bool) (eg : ∀ args w, (callFunc g args).run Tryz.prog w = .ok (.enter g args) w) (base blk cap : Nat) (xs : List (S71)) (w : World)
    (hown : RowSp w base (.slice (some ⟨blk, 0, none⟩) xs.length cap) xs)
    (hp : ∀ (W : World) (s : S71), s ∈ xs → Upd w W (· = blk) → Calls Tryz.prog g (fst ++ #[.agg #[.string s.f0, .string s.f1]] ++ lb) W fun e w' => e = .returned (.bool (p s)) ∧ Below W.heap.size W w') :
    Calls Tryz.prog 131 #[.slice (some ⟨blk, 0, none⟩) xs.length cap, .func (.func g) fst lb] w fun e w' =>
      e = .returned (.slice (some ⟨blk, 0, none⟩) (xs.filter fun x => !p x).length cap) ∧ RowSp w' base (.slice (some ⟨blk, 0, none⟩) (xs.filter fun x => !p x).length cap) (xs.filter fun x => !p x) ∧ Upd w w' (· = blk) := by
  have hcap : xs.length ≤ cap ∧ cap ≤ 9223372036854775807 := by
    rcases hown.2 with ⟨h, _⟩ | ⟨g', cap', cur, h, _, _, h1, h2, _⟩
    · cases h
    · injection h with _ _ h
      subst h
      exact ⟨h1, by simpa [maxLen] using h2⟩
  have hidx := idxSp_any g fst lb p eg base blk cap xs w hown hcap (fun W x hx hb => hp W x hx (Upd.of_below hb _))
  obtain ⟨hcap1, hcap2⟩ := hcap
  have HO := Lib.hid hown
  have HP := Lib.hid hp; clear hp
  by_cases hall : ∀ j (hj : j < xs.length), p xs[j] = false
  · rw [idxP_none hall] at hidx
    have hf : (xs.filter fun x => !p x) = xs := List.filter_eq_self.2 (fun x hx => by
      obtain ⟨j, hj, rfl⟩ := List.getElem_of_mem hx
      simp [hall j hj])
    rw [hf]
    clear hf hall hown
    go_enter Tryz.func131, Tryz.ntmps131
    go_wp2_with (go_at_call 155; refine hidx.mono ?_; rintro e w' ⟨rfl, hb⟩)
    go_ret
    exact ⟨rfl, pw_own_below HO.out hb, Upd.of_below hb _⟩
  · obtain ⟨k, hk, ht, hlow⟩ : ∃ k, ∃ hk : k < xs.length, p xs[k] = true ∧ ∀ j (hj : j < xs.length), j < k → p xs[j] = false := by
      cases hf : xs.findIdx? p with
      | none =>
        rw [List.findIdx?_eq_none_iff] at hf
        exact absurd (fun j hj => hf _ (List.getElem_mem hj)) hall
      | some k =>
        rw [List.findIdx?_eq_some_iff_getElem] at hf
        obtain ⟨hk, ht, h⟩ := hf
        exact ⟨k, hk, ht, fun j _ hj => by simpa using h j hj⟩
    rw [idxP_hit hk hlow ht] at hidx
    have HI := Lib.hid (DelInv.start hk hlow ht)
    clear hall hlow ht hown
    have hne : ((k : Int) == -1) = false := beq_eq_false_iff_ne.2 (by omega)
    go_enter Tryz.func131, Tryz.ntmps131
    go_wp2_with (go_at_call 155; refine hidx.mono ?_; rintro e w' ⟨rfl, hb⟩)
    go_loopw [5, 6, 7] (fun si sj _ wr => ∃ (i j : Nat) (ys : List (S71)), si = .int .i64 i ∧ sj = .int .i64 j ∧ i < j ∧ j ≤ xs.length ∧ RowKit.Hid (DelInv p xs ys i j) ∧ RowKit.Hid (RowSp wr base (.slice (some ⟨blk, 0, none⟩) xs.length cap) ys ∧ Upd w wr (· = blk))) (fun _ j _ _ => xs.length - (intOf j).toNat)
    case atStart => exact ⟨k, k + 1, xs, rfl, by go_num, by omega, by omega, HI, Lib.hid ⟨pw_own_below HO.out hb, Upd.of_below hb _⟩⟩
    case round =>
      obtain ⟨i, j, ys, rfl, rfl, hij, hj, HD, HS⟩ := hrel
      have hyl := HD.out.len
      by_cases hlt : j < xs.length
      · have hget := HD.out.get hlt
        obtain ⟨x0, x1, _, _⟩ := RowSp.at_ HS.out.1 j xs[j] (by rw [List.getElem?_eq_getElem (by omega), hget])
        obtain ⟨z', hz'⟩ : ∃ z', ys[i]? = some z' := ⟨_, List.getElem?_eq_getElem (by omega)⟩
        obtain ⟨c0, c1, q0, q1⟩ := RowSp.at_ HS.out.1 i z' hz'
        have hblk : blk < wr.heap.size := (World.ownsRow.lt HS.out.1 blk rfl).2
        have hc := fun W (h : Below wr.heap.size wr W) => HP.out W xs[j] (List.getElem_mem hlt) (HS.out.2.then_below h)
        have hx : RowKit.Hid (∀ q, p xs[j] = q → DelInv p xs (if q then ys else ys.set i xs[j]) (if q then i else i + 1) (j + 1)) := Lib.hid (fun q hq => by
          cases q with
          | true => exact HD.out.skip hlt hq
          | false => exact HD.out.keep hlt hq)
        clear hget hyl hz'
        generalize xs[j] = s at *
        obtain ⟨q, hq⟩ : ∃ q, p s = q := ⟨_, rfl⟩
        rw [hq] at hc
        have HC := Lib.hid hc; clear hc
        have HQ := Lib.hid hq; clear hq
        cases q with
        | true =>
          have HSK := Lib.hid (hx.out true HQ.out)
          go_wp2_with (go_at_fn g; refine (HC.out _ ((Below.refl _ _).alloc (Nat.le_refl _) _)).mono ?_; rintro e w2 ⟨rfl, hb2⟩)
          go_roundw
          case rel =>
            have hbw : Below wr.heap.size wr w2 := ((Below.refl _ _).alloc (Nat.le_refl _) _).trans (hb2.mono (by simp))
            exact ⟨i, j + 1, ys, rfl, by go_num, by omega, by omega, HSK, Lib.hid ⟨pw_own_below HS.out.1 hbw, HS.out.2.then_below hbw⟩⟩
          case measure => simp [intOf]; omega
        | false =>
          have HSK := Lib.hid (hx.out false HQ.out)
          have hcells := fun w2 (hb2 : Below (wr.alloc (.cells #[.string s.f0, .string s.f1] 71)).heap.size (wr.alloc (.cells #[.string s.f0, .string s.f1] 71)) w2) => (show Below wr.heap.size wr w2 ∧ w2.cell? ⟨wr.heap.size, 0, none⟩ = some (.string s.f0) ∧ w2.cell? ⟨wr.heap.size, 1, none⟩ = some (.string s.f1) from by
            have hn := Blk.new wr 71 #[.string s.f0, .string s.f1]
            exact ⟨((Below.refl _ _).alloc (Nat.le_refl _) _).trans (hb2.mono (by simp)), (hn.below hb2 (by simp)).cell 0, (hn.below hb2 (by simp)).cell 1⟩)
          have HCE := Lib.hid hcells
          clear hcells
          go_wp2_with (go_at_fn g; refine (HC.out _ ((Below.refl _ _).alloc (Nat.le_refl _) _)).mono ?_; rintro e w2 ⟨rfl, hb2⟩; obtain ⟨hbw, n0, n1⟩ := HCE.out w2 hb2; have c0' := pw_cell_below hbw c0; have c1' := pw_cell_below hbw c1; have q0' := (hbw.frozen (p := ⟨blk, i * 2, none⟩) hblk).trans q0; have q1' := (hbw.frozen (p := ⟨blk, i * 2 + 1, none⟩) hblk).trans q1)
          go_roundw
          case rel => exact ⟨i + 1, j + 1, ys.set i s, by go_num, by go_num, by omega, by omega, HSK, Lib.hid ⟨RowSp.store (pw_own_below HS.out.1 hbw) i s, ((HS.out.2.then_below hbw).setCell (.inl rfl) _).setCell (.inl rfl) _⟩⟩
          case measure => simp [intOf]; omega
      · obtain rfl : j = xs.length := by omega
        have hsz := HD.out.size
        have hdn := Lib.hid HD.out.done
        obtain ⟨vs, hcl⟩ : ∃ vs, ∀ ty, (Builtin.clear_ #[40] ty #[.slice (some ⟨blk, i * 2, none⟩) (xs.length - i) (cap - i)]).run Tryz.prog wr = .ok (.tuple #[]) (wr.setCells blk (i * 2) vs) := ⟨_, fun ty =>
          run_clear2 wr _ _ ty _ (.string ⟨#[]⟩) (.string ⟨#[]⟩) Tryz.underlying40 Tryz.zeroValue71 rfl rfl rfl blk (i * 2) _ _ (by omega) (fun t ht => by
            have h := World.ownsRow.cellAt (n := xs.length) (by have h := HS.out.1; unfold RowSp at h; rw [hyl] at h; exact h) (i * 2 + t) (by omega)
            rw [h, List.getElem?_eq_getElem (by rw [enc2_len, List.length_map]; omega)]; rfl) (fun t ht => World.ownsRow.frozenAt (n := xs.length) (by have h := HS.out.1; unfold RowSp at h; rw [hyl] at h; exact h) _)⟩
        have HSZ := Lib.hid hsz
        clear hsz
        go_wp2
        go_ret
        obtain ⟨zs, hz, ht⟩ := own_setCells vs (i * 2) wr _ (by have h := HS.out.1; unfold RowSp at h; rw [hyl] at h; exact h)
        have h3 := own_take hz (m := i) (by omega)
        rw [ht, enc2_take, ← List.map_take, hdn.out] at h3
        rw [HSZ.out]
        refine ⟨rfl, ?_, HS.out.2.setCells (.inl rfl) vs (i * 2)⟩
        unfold RowSp
        rw [HSZ.out]
        exact h3
theorem delSp_nil (g : Nat) (fst lb : Array Value) (eg : ∀ args w, (callFunc g args).run Tryz.prog w = .ok (.enter g args) w) (w : World) :
    Calls Tryz.prog 131 #[.slice none 0 0, .func (.func g) fst lb] w fun e w' => e = .returned (.slice none 0 0) ∧ Below w.heap.size w w' := by
  have hidx : Calls Tryz.prog 155 #[.slice none 0 0, .func (.func g) fst lb] w fun e w' => e = .returned (.int .i64 (-1)) ∧ Below w.heap.size w w' := by
    go_enter Tryz.func155, Tryz.ntmps155
    go_wp2
    refine wp_loop_rounds 1 ?_
    rw [rounds_succ]
    go_wp2
    go_ret
    exact ⟨rfl, Below.refl _ _⟩
  go_enter Tryz.func131, Tryz.ntmps131
  go_wp2_with (go_at_call 155; refine hidx.mono ?_; rintro e w' ⟨rfl, hb⟩)
  go_ret
  exact ⟨rfl, hb⟩
theorem delSp_own (g : Nat) (fst lb : Array Value) (p : S71 → Bool) (eg : ∀ args w, (callFunc g args).run Tryz.prog w = .ok (.enter g args) w) (base : Nat) (v : Value) (xs : List (S71)) (w w0 : World)
    (hown : RowSp w base v xs) (hb : Below base w0 w) (hbs : base ≤ w.heap.size)
    (hp : ∀ (W : World) (s : S71), s ∈ xs → Below base w0 W → Calls Tryz.prog g (fst ++ #[.agg #[.string s.f0, .string s.f1]] ++ lb) W fun e w' => e = .returned (.bool (p s)) ∧ Below W.heap.size W w') :
    Calls Tryz.prog 131 #[v, .func (.func g) fst lb] w fun e w' => ∃ v', e = .returned v' ∧ RowSp w' base v' (xs.filter fun x => !p x) ∧ Below base w0 w' ∧ Upd w w' (fun k => v.ownBlock = some k) ∧ v'.ownBlock = v.ownBlock := by
  have hg := hown
  rcases hg.2 with ⟨rfl, h0⟩ | ⟨blk, cap, cur, rfl, hbb, hgb, _⟩
  · obtain rfl : xs = [] := List.eq_nil_of_length_eq_zero h0
    exact (delSp_nil g fst lb eg w).mono fun e w' ⟨he, h⟩ => ⟨_, he, own_nil _ _ _ _, hb.trans (h.mono hbs), Upd.of_below h _, rfl⟩
  · have hU : ∀ W, Upd w W (· = blk) → Below base w0 W := fun W h => hb.trans (h.below hbs (fun k hk e => by omega))
    exact (delSp_any g fst lb p eg base blk cap xs w hown (fun W x hx h => hp W x hx (hU W h))).mono fun e w' ⟨he, ho, h⟩ => ⟨_, he, ho, hU w' h, h.mono fun k _ e => by simp [Value.ownBlock, e], rfl⟩
end Go.Proofs.YtgmlenpcchhmbaaGreat.P
end
section
set_option linter.unusedVariables false
set_option linter.unusedSimpArgs false
namespace Go.Proofs.YtgmlenpcchhmbaaGreat.P
open Go.RowKit Go.Proofs.YtgmlenpcchhmbaaGreatW.PrintWords Go.Proofs.YtgmlenpcchhmbaaGreatW.PrintLast Go.Proofs.YtgmlenpcchhmbaaGreatW.PrintMore
attribute [local go_sem] max2_int min2_int max_two min_two max_three min_three max_four min_four   -- for this text's walks alone
def folkmootref07_nan.f (a0 : Int) : Option (Bool) := some (decide ((Go.bits .andNot .u64 a0 9223372036854775808) > 9218868437227405312))
set_option maxHeartbeats 8000000 in
set_option maxRecDepth 100000 in
theorem folkmootref07_nan.calls (a0 : Int) (r : Bool) (w : World) (h : folkmootref07_nan.f a0 = some r) :
  Calls Tryz.prog 120 #[.int .u64 a0] w fun e w' => e = .returned (.bool r) ∧ Drawn0 w w' := by
 have H : (some (decide ((Go.bits .andNot .u64 a0 9223372036854775808) > 9218868437227405312))) = some r := h
 clear h;obtain rfl := Option.some.inj H
 go_enter Tryz.func120, Tryz.ntmps120
 go_wp2
 go_ret
 exact ⟨by first | rfl | (simp; done) | (simp [*]; done), by repeat (first | exact Drawn0.refl _ | apply Drawn0.step)⟩
end Go.Proofs.YtgmlenpcchhmbaaGreat.P
end
section
set_option linter.unusedVariables false
set_option linter.unusedSimpArgs false
namespace Go.Proofs.YtgmlenpcchhmbaaGreat.P
open Go.RowKit Go.Proofs.YtgmlenpcchhmbaaGreatW.PrintWords Go.Proofs.YtgmlenpcchhmbaaGreatW.PrintLast Go.Proofs.YtgmlenpcchhmbaaGreatW.PrintMore
attribute [local go_sem] max2_int min2_int max_two min_two max_three min_three max_four min_four   -- for this text's walks alone
def folkmootref07_Right.f (a0 : Int) : Option (Int) := (folkmootref07_nan.f a0).bind fun t114 => (if t114 = true then (some 9221120237041090561) else (some a0))
set_option maxHeartbeats 8000000 in
set_option maxRecDepth 100000 in
theorem folkmootref07_Right.calls (a0 : Int) (r : Int) (w : World) (h : folkmootref07_Right.f a0 = some r) :
  Calls Tryz.prog 105 #[.int .u64 a0] w fun e w' => e = .returned (.int .u64 r) ∧ Drawn0 w w' := by
 have H : ((folkmootref07_nan.f a0).bind fun t114 => (if t114 = true then (some 9221120237041090561) else (some a0))) = some r := h
 clear h
 replace H := Option.bind_eq_some_iff.mp H
 obtain ⟨t114, A20, H⟩ := H
 replace H : (if t114 = true then (some 9221120237041090561) else (some a0)) = some r := H
 have A2 := Aside0.mk A20
 clear A20
 by_cases c3 : t114 = true
 ·subst c3
  have H1 : (some 9221120237041090561) = some r := by rw [if_pos rfl] at H; exact H
  clear H;have H := H1;clear H1;obtain rfl := Option.some.inj H
  go_enter Tryz.func105, Tryz.ntmps105
  go_wp2_with (first | ((with_reducible refine gate_callee (f := 120) rfl ?_); refine goesL_ (some 4) rfl rfl Tryz.func120 (by kernel_rfl) rfl #[.int .u64 a0] rfl (by (try simp only [List.map_toArray, List.map_cons, List.map_nil]); first | done | rfl | (simp only [List.length_drop, List.length_take]; rfl)) ?_; (with_reducible refine (folkmootref07_nan.calls a0 true _ A2.out).mono ?_); rintro e w' ⟨rfl, ⟨nd, rfl⟩⟩; refine ⟨_, rfl, ?_⟩))
  go_ret
  exact ⟨by first | rfl | (simp; done) | (simp [*]; done), by repeat (first | exact Drawn0.refl _ | apply Drawn0.step)⟩
 ·replace c3 := Bool.eq_false_iff.mpr c3
  subst c3
  have H1 : (some a0) = some r := by rw [if_neg (show ¬ (false = true) by decide)] at H; exact H
  clear H;have H := H1;clear H1;obtain rfl := Option.some.inj H
  go_enter Tryz.func105, Tryz.ntmps105
  go_wp2_with (first | ((with_reducible refine gate_callee (f := 120) rfl ?_); refine goesL_ (some 4) rfl rfl Tryz.func120 (by kernel_rfl) rfl #[.int .u64 a0] rfl (by (try simp only [List.map_toArray, List.map_cons, List.map_nil]); first | done | rfl | (simp only [List.length_drop, List.length_take]; rfl)) ?_; (with_reducible refine (folkmootref07_nan.calls a0 false _ A2.out).mono ?_); rintro e w' ⟨rfl, ⟨nd, rfl⟩⟩; refine ⟨_, rfl, ?_⟩))
  go_ret
  exact ⟨by first | rfl | (simp; done) | (simp [*]; done), by repeat (first | exact Drawn0.refl _ | apply Drawn0.step)⟩
end Go.Proofs.YtgmlenpcchhmbaaGreat.P
end
section
set_option linter.unusedVariables false
set_option linter.unusedSimpArgs false
namespace Go.Proofs.YtgmlenpcchhmbaaGreat.P
open Go.RowKit Go.Proofs.YtgmlenpcchhmbaaGreatW.PrintWords Go.Proofs.YtgmlenpcchhmbaaGreatW.PrintLast Go.Proofs.YtgmlenpcchhmbaaGreatW.PrintMore
def rOfN (n : Int) : Int := (floatOfInt .f64 n : Nat)
def folkmootref07_Of.f (a0 : Int) : Option Int := some (rOfN a0)
set_option maxRecDepth 100000 in
theorem folkmootref07_Of.calls (a0 : Int) (r : Int) (w : World) (h : folkmootref07_Of.f a0 = some r) : Calls Tryz.prog 36 #[.int .i64 a0] w fun e w' => e = .returned (.int .u64 r) ∧ Drawn0 w w' := by
  injection h with h
  subst h
  have hb := fb_run (floatOfInt .f64 a0)
  unfold rOfN
  have hc : ∀ w, (convert 2 129 (.int .i64 a0)).run Tryz.prog w = .ok (.float .f64 (floatOfInt .f64 a0)) w := fun w => run_convert_int_float w _ _ .i64 .f64 a0 (by kernel_rfl) (by kernel_rfl)
  generalize floatOfInt .f64 a0 = q at *
  go_enter Tryz.func36, Tryz.ntmps36
  go_wp2
  go_ret
  exact ⟨rfl, Drawn0.refl _⟩
theorem andNot_sign (n : Nat) (h : n < 18446744073709551616) : bits .andNot .u64 (n : Int) 9223372036854775808 = ((n % 9223372036854775808 : Nat) : Int) := by
  have hw : ∀ n : Int, 0 ≤ n → n < 2 ^ 64 → IntKind.u64.wrap n = n := fun n h0 h1 => Go.IntWalk.u64_in n (by omega)
  have hx : ∀ x : BitVec 64, (x &&& ~~~(9223372036854775808#64)).toNat = x.toNat % 9223372036854775808 := by
    intro x
    have : (x &&& ~~~(9223372036854775808#64)) = x &&& 9223372036854775807#64 := by rfl
    rw [this, BitVec.toNat_and]
    show x.toNat &&& 9223372036854775807 = _
    exact Nat.and_two_pow_sub_one_eq_mod x.toNat 63
  simp only [bits]
  show IntKind.u64.wrap (((BitVec.ofInt 64 (n : Int)) &&& ~~~(BitVec.ofInt 64 9223372036854775808)).toNat : Int) = _
  have e2 : BitVec.ofInt 64 9223372036854775808 = 9223372036854775808#64 := by rfl
  rw [e2, hx, BitVec.ofInt_natCast, BitVec.toNat_ofNat, Nat.mod_eq_of_lt h]
  exact hw _ (by omega) (by omega)
theorem nan_read (n : Nat) : (Ieee.double.read n).isNaN = decide (n % 9223372036854775808 > 9218868437227405312) := by
  have e1 : Ieee.double.signWeight = 9223372036854775808 := by decide
  have e2 : Ieee.double.binade = 4503599627370496 := by decide
  have e3 : Ieee.double.infRung = 9218868437227405312 := by decide
  unfold Ieee.Format.read
  simp only [e1, e2, e3]
  by_cases h1 : n % 9223372036854775808 < 4503599627370496
  · rw [if_pos h1, decide_eq_false (by omega)]; rfl
  · rw [if_neg h1]
    by_cases h2 : n % 9223372036854775808 < 9218868437227405312
    · rw [if_pos h2, decide_eq_false (by omega)]; rfl
    · rw [if_neg h2]
      by_cases h3 : n % 9223372036854775808 = 9218868437227405312
      · rw [if_pos h3, decide_eq_false (by omega)]; rfl
      · rw [if_neg h3, decide_eq_true (by omega)]; rfl
theorem rNan_f {n : Int} (h0 : 0 ≤ n) (h1 : n < 18446744073709551616) : folkmootref07_nan.f n = some (nanN n) := by
  obtain ⟨m, rfl⟩ := Int.eq_ofNat_of_zero_le h0
  unfold folkmootref07_nan.f nanN
  rw [andNot_sign m (by omega), Int.toNat_natCast, nan_read]
  congr 1
  exact decide_eq_decide.2 (by omega)
theorem rRight_f {n : Int} (h0 : 0 ≤ n) (h1 : n < 18446744073709551616) : folkmootref07_Right.f n = some (rightN n) := by
  unfold folkmootref07_Right.f rightN
  rw [rNan_f h0 h1, Option.bind_some]
  split <;> rfl
def u64ok (n : Int) : Prop := 0 ≤ n ∧ n < 18446744073709551616
instance (n : Int) : Decidable (u64ok n) := inferInstanceAs (Decidable (_ ∧ _))
end Go.Proofs.YtgmlenpcchhmbaaGreat.P
end
section
set_option linter.unusedVariables false
set_option linter.unusedSimpArgs false
namespace Go.Proofs.YtgmlenpcchhmbaaGreat.P
def Ev {α : Type} (F : Nat → Option α) (r : α) : Prop := ∃ K, ∀ k, K ≤ k → F k = some r
section
variable {α β : Type}
theorem Ev.of (F : Nat → Option α) {r : α} (h : ∀ k, F k = some r) : Ev F r := ⟨0, fun k _ => h k⟩
theorem Ev.some (r : α) : Ev (fun _ => Option.some r) r := ⟨0, fun _ _ => rfl⟩
theorem Ev.succ {F : Nat → Option α} {r : α} (h : Ev (fun k => F (k + 1)) r) : Ev F r := by
  obtain ⟨K, h⟩ := h
  refine ⟨K + 1, fun k hk => ?_⟩
  obtain ⟨j, rfl⟩ : ∃ j, k = j + 1 := ⟨k - 1, by omega⟩
  exact h j (by omega)
theorem Ev.bind {F : Nat → Option α} {G : Nat → α → Option β} {r : α} {s : β} (h : Ev F r) (g : Ev (fun k => G k r) s) : Ev (fun k => (F k).bind (G k)) s := by
  obtain ⟨K, h⟩ := h
  obtain ⟨L, g⟩ := g
  refine ⟨max K L, fun k hk => ?_⟩
  show (F k).bind (G k) = _
  rw [h k (by omega)]
  exact g k (by omega)
theorem Ev.bind1 {x : Option α} {G : Nat → α → Option β} {r : α} {s : β} (h : x = Option.some r) (g : Ev (fun k => G k r) s) : Ev (fun k => x.bind (G k)) s := by
  subst h; exact g
theorem Ev.cond {c : Prop} [Decidable c] {F G : Nat → Option α} {r : α} (h1 : c → Ev F r) (h2 : ¬ c → Ev G r) : Ev (fun k => if c then F k else G k) r := by
  by_cases h : c
  · simp only [if_pos h]; exact h1 h
  · simp only [if_neg h]; exact h2 h
theorem Ev.yes {c : Prop} [Decidable c] {F G : Nat → Option α} {r : α} (h : c) (h1 : Ev F r) : Ev (fun k => if c then F k else G k) r := Ev.cond (fun _ => h1) (fun n => absurd h n)
theorem Ev.no {c : Prop} [Decidable c] {F G : Nat → Option α} {r : α} (h : ¬ c) (h1 : Ev G r) : Ev (fun k => if c then F k else G k) r := Ev.cond (fun y => absurd y h) (fun _ => h1)
theorem Ev.get {F : Nat → Option α} {r : α} (h : Ev F r) : ∃ k, F k = Option.some r := by obtain ⟨K, h⟩ := h; exact ⟨K, h K (Nat.le_refl _)⟩
theorem Ev.eq {F : Nat → Option α} {r s : α} (h : Ev F r) (e : r = s) : Ev F s := e ▸ h
end
theorem w64_succ {n : Nat} (h : n < 9223372036854775807) : Go.RowKit.wrap64 ((n : Int) + 1) = ((n + 1 : Nat) : Int) := by unfold Go.RowKit.wrap64; omega
end Go.Proofs.YtgmlenpcchhmbaaGreat.P
end
section
set_option linter.unusedVariables false
set_option linter.unusedSimpArgs false
namespace Go.Proofs.YtgmlenpcchhmbaaGreat.P
open Go.RowKit Go.Proofs.YtgmlenpcchhmbaaGreatW.PrintWords Go.Proofs.YtgmlenpcchhmbaaGreatW.PrintLast Go.Proofs.YtgmlenpcchhmbaaGreatW.PrintMore
attribute [local go_sem] max2_int min2_int max_two min_two max_three min_three max_four min_four   -- for this text's walks alone
def folkmootref03_Key.f (a0 : ByteArray) : Option (Bool) := if (a0.size : Int) ≥ 1 then (some (decide ((a0.size : Int) ≤ 16))) else (some false)
set_option maxHeartbeats 8000000 in
set_option maxRecDepth 100000 in
theorem folkmootref03_Key.calls (a0 : ByteArray) (r : Bool) (w : World) (h : folkmootref03_Key.f a0 = some r) :
  Calls Tryz.prog 37 #[.string a0] w fun e w' => e = .returned (.bool r) ∧ Drawn0 w w' := by
 have H : (if (a0.size : Int) ≥ 1 then (some (decide ((a0.size : Int) ≤ 16))) else (some false)) = some r := h
 clear h
 by_cases c2 : (a0.size : Int) ≥ 1
 ·rw [if_pos c2] at H
  have c2b0 : decide (1 ≤ (a0.size : Int)) = true := decide_eq_true c2
  have c2b1 : decide (1 ≤ a0.size) = true := decide_eq_true (by omega)
  clear c2;obtain rfl := Option.some.inj H
  go_enter Tryz.func37, Tryz.ntmps37
  go_wp2
  go_ret
  exact ⟨by first | rfl | (simp; done) | (simp [*]; done), by repeat (first | exact Drawn0.refl _ | apply Drawn0.step)⟩
 ·rw [if_neg c2] at H
  have c2b0 : decide (1 ≤ (a0.size : Int)) = false := decide_eq_false c2
  have c2b1 : decide (1 ≤ a0.size) = false := decide_eq_false (by omega)
  clear c2;obtain rfl := Option.some.inj H
  go_enter Tryz.func37, Tryz.ntmps37
  go_wp2
  go_ret
  exact ⟨by first | rfl | (simp; done) | (simp [*]; done), by repeat (first | exact Drawn0.refl _ | apply Drawn0.step)⟩
end Go.Proofs.YtgmlenpcchhmbaaGreat.P
end
section
set_option linter.unusedVariables false
set_option linter.unusedSimpArgs false
namespace Go.Proofs.YtgmlenpcchhmbaaGreat.P
open Go.RowKit Go.Proofs.YtgmlenpcchhmbaaGreatW.PrintWords Go.Proofs.YtgmlenpcchhmbaaGreatW.PrintLast Go.Proofs.YtgmlenpcchhmbaaGreatW.PrintMore
attribute [local go_sem] max2_int min2_int max_two min_two max_three min_three max_four min_four   -- for this text's walks alone
def folkmootref07_Is.f (a0 : Int) : Option (Bool) := (folkmootref07_Right.f a0).bind fun t115 => (some (t115 == a0))
set_option maxHeartbeats 8000000 in
set_option maxRecDepth 100000 in
theorem folkmootref07_Is.calls (a0 : Int) (r : Bool) (w : World) (h : folkmootref07_Is.f a0 = some r) :
  Calls Tryz.prog 59 #[.int .u64 a0] w fun e w' => e = .returned (.bool r) ∧ Drawn0 w w' := by
 have H : ((folkmootref07_Right.f a0).bind fun t115 => (some (t115 == a0))) = some r := h
 clear h
 replace H := Option.bind_eq_some_iff.mp H
 obtain ⟨t115, A20, H⟩ := H
 replace H : (some (t115 == a0)) = some r := H
 have A2 := Aside0.mk A20
 clear A20;obtain rfl := Option.some.inj H
 go_enter Tryz.func59, Tryz.ntmps59
 go_wp2_with (first | ((with_reducible refine gate_callee (f := 105) rfl ?_); refine goesL_ (some 4) rfl rfl Tryz.func105 (by kernel_rfl) rfl #[.int .u64 a0] rfl (by (try simp only [List.map_toArray, List.map_cons, List.map_nil]); first | done | rfl | (simp only [List.length_drop, List.length_take]; rfl)) ?_; (with_reducible refine (folkmootref07_Right.calls a0 t115 _ A2.out).mono ?_); rintro e w' ⟨rfl, ⟨nd, rfl⟩⟩; refine ⟨_, rfl, ?_⟩))
 go_ret
 exact ⟨by first | rfl | (simp; done) | (simp [*]; done), by repeat (first | exact Drawn0.refl _ | apply Drawn0.step)⟩
end Go.Proofs.YtgmlenpcchhmbaaGreat.P
end
section
set_option linter.unusedVariables false
set_option linter.unusedSimpArgs false
namespace Go.Proofs.YtgmlenpcchhmbaaGreat.P
open Go.RowKit Go.Proofs.YtgmlenpcchhmbaaGreatW.PrintWords Go.Proofs.YtgmlenpcchhmbaaGreatW.PrintLast Go.Proofs.YtgmlenpcchhmbaaGreatW.PrintMore
attribute [local go_sem] max2_int min2_int max_two min_two max_three min_three max_four min_four   -- for this text's walks alone
end Go.Proofs.YtgmlenpcchhmbaaGreat.P
end
section
set_option linter.unusedVariables false
set_option linter.unusedSimpArgs false
namespace Go.Proofs.YtgmlenpcchhmbaaGreat.P
open Go.RowKit Go.Proofs.YtgmlenpcchhmbaaGreatW.PrintWords Go.Proofs.YtgmlenpcchhmbaaGreatW.PrintLast Go.Proofs.YtgmlenpcchhmbaaGreatW.PrintMore
attribute [local go_sem] max2_int min2_int max_two min_two max_three min_three max_four min_four   -- for this text's walks alone
theorem eqA61 (d : Nat) (w : World) (x0 y0 : ByteArray) (x1 y1 : Int) :
  (Op.equalIn (d + 2) 61 (.agg #[.string x0, .int .u64 x1]) (.agg #[.string y0, .int .u64 y1])).run Tryz.prog w = .ok (x0.toList == y0.toList && (x1 == y1)) w := by
 refine eqA_of Tryz.underlying61 (by kernel_rfl) ?_;refine eqf_cons (by rfl) (by go_simp; rfl) (by go_simp; rfl) (by go_simp) ?_
 exact eqf_last (by rfl) (by go_simp; rfl) (by go_simp; rfl) (by go_simp)
end Go.Proofs.YtgmlenpcchhmbaaGreat.P
end
section
set_option linter.unusedVariables false
set_option linter.unusedSimpArgs false
namespace Go.Proofs.YtgmlenpcchhmbaaGreat.P
open Go.RowKit Go.Proofs.YtgmlenpcchhmbaaGreatW.PrintWords Go.Proofs.YtgmlenpcchhmbaaGreatW.PrintLast Go.Proofs.YtgmlenpcchhmbaaGreatW.PrintMore
attribute [local go_sem] max2_int min2_int max_two min_two max_three min_three max_four min_four   -- for this text's walks alone
attribute [local go_sem high] eqA61
def folkmootref08_Pairs.l0 : Nat → List (S61) → List (S61) → Int → Option (Bool)
 | 0, _, _, _ => none
 | k + 1, x0, x1, x5 => if x5 < (x0.length : Int) then (if 0 ≤ x5 then (if x5 < (x1.length : Int) then (if (!((((rd_T61 x0 x5).f0).toList) == (((rd_T61 x1 x5).f0).toList)) || (!(((rd_T61 x0 x5).f1) == ((rd_T61 x1 x5).f1)))) = true then (some false) else (folkmootref08_Pairs.l0 k x0 x1 (wrap64 (x5 + 1)))) else (none)) else (none)) else (some true)
def folkmootref08_Pairs.f (k : Nat) (l0 : List (S61)) (l1 : List (S61)) : Option (Bool) := if (l0.length : Int) = (l1.length : Int) then (folkmootref08_Pairs.l0 k l0 l1 0) else (some false)
set_option maxHeartbeats 8000000 in
set_option maxRecDepth 100000 in
theorem folkmootref08_Pairs.calls (k : Nat) (A0 : Option Addr) (c0 : Nat) (l0 : List (S61)) (A1 : Option Addr) (c1 : Nat) (l1 : List (S61)) (r : Bool) (w : World) (hr0 : Kd.C k61 w A0 l0.length l0) (hc0 : l0.length ≤ c0) (hr1 : Kd.C k61 w A1 l1.length l1) (hc1 : l1.length ≤ c1) (h : folkmootref08_Pairs.f k l0 l1 = some r) :
  Calls Tryz.prog 31 #[.slice A0 l0.length c0, .slice A1 l1.length c1] w fun e w' => e = .returned (.bool r) ∧ Drawn0 w w' := by
 have hu61 := Tryz.underlying61
 have HR0 := Aside0.mk hr0
 have HC0 := Aside0.mk hc0
 clear hr0 hc0
 have HR1 := Aside0.mk hr1
 have HC1 := Aside0.mk hc1
 clear hr1 hc1
 have H : (if (l0.length : Int) = (l1.length : Int) then (folkmootref08_Pairs.l0 k l0 l1 0) else (some false)) = some r := h
 clear h
 by_cases c3 : (l0.length : Int) = (l1.length : Int)
 ·rw [if_pos c3] at H
  have c3b0 : ((l0.length : Int) == (l1.length : Int)) = true := beq_iff_eq.mpr c3
  have c3b1 : ((l0.length : Int) != (l1.length : Int)) = false := bne_eq_false_iff_eq.mpr c3
  have c3b2 : (l0.length == l1.length) = true := by first | simpa using c3 | (simp at c3 ⊢; omega)
  clear c3
  have H' := Aside0.mk H
  clear H
  go_enter Tryz.func31, Tryz.ntmps31
  go_wp2
  repeat (go_quiet (fail); try go_wp2)
  go_loopg [5] k (fun kq v5 w' => ∃ (x5_1 : Int), v5 = .int .i64 x5_1 ∧ Aside0 (folkmootref08_Pairs.l0 kq l0 l1 x5_1 = some r) ∧ Aside0 (kq ≤ k) ∧ Drawn0 w w')
  case atStart => exact ⟨(0), (by first | rfl | (rw [bl_gt] <;> rfl) | (simp; done) | (simp [*]; done)), H', ⟨Nat.le_refl _⟩, by repeat (first | exact Drawn0.refl _ | apply Drawn0.step)⟩
  case round =>
   clear H'
   try clear c1
   try clear p2
   try clear c3
   try clear c3b0
   try clear c3b1
   try clear c3b2
   obtain ⟨x5_1, rfl, HA, HK1, ⟨m1, rfl⟩⟩ := hrel
   cases gk with
   | zero => exact absurd HA.out (by simp [folkmootref08_Pairs.l0])
   | succ k1 =>
    have H := HA.out;clear HA
    simp only [folkmootref08_Pairs.l0] at H
    by_cases c4 : x5_1 < (l0.length : Int)
    ·rw [if_pos c4] at H
     have c4b0 : decide (x5_1 < (l0.length : Int)) = true := decide_eq_true c4
     clear c4
     by_cases c5 : 0 ≤ x5_1
     ·rw [if_pos c5] at H
      have c5b0 : decide (0 ≤ x5_1) = true := decide_eq_true c5
      clear c5
      by_cases c6 : x5_1 < (l1.length : Int)
      ·rw [if_pos c6] at H
       have c6b0 : decide (x5_1 < (l1.length : Int)) = true := decide_eq_true c6
       clear c6
       by_cases c7 : (!((((rd_T61 l0 x5_1).f0).toList) == (((rd_T61 l1 x5_1).f0).toList)) || (!(((rd_T61 l0 x5_1).f1) == ((rd_T61 l1 x5_1).f1)))) = true
       ·rw [if_pos c7] at H
        have c7b0 : (!((((rd_T61 l0 x5_1).f0).toList) == (((rd_T61 l1 x5_1).f0).toList)) || (!(((rd_T61 l0 x5_1).f1) == ((rd_T61 l1 x5_1).f1)))) = true := c7
        clear c7;obtain rfl := Option.some.inj H
        have p122 : 0 ≤ (x5_1 : Int) := of_decide_eq_true (by first | (with_reducible assumption) | assumption)
        have q122 : x5_1 < (l0.length : Int) := of_decide_eq_true (by first | (with_reducible assumption) | assumption)
        obtain ⟨ad122, e122, hx122_0, hx122_1⟩ := at_T61 HR0.out x5_1 p122 q122
        cases e122
        replace p122 := eq_true p122
        replace q122 := eq_true q122
        have p123 : 0 ≤ (x5_1 : Int) := of_decide_eq_true (by first | (with_reducible assumption) | assumption)
        have q123 : x5_1 < (l1.length : Int) := of_decide_eq_true (by first | (with_reducible assumption) | assumption)
        obtain ⟨ad123, e123, hx123_0, hx123_1⟩ := at_T61 HR1.out x5_1 p123 q123
        cases e123
        replace p123 := eq_true p123
        replace q123 := eq_true q123
        go_wp2
        repeat (go_quiet (fail); try go_wp2)
        go_ret
        exact ⟨by first | rfl | (simp; done) | (simp [*]; done), by repeat (first | exact Drawn0.refl _ | apply Drawn0.step)⟩
       ·rw [if_neg c7] at H
        have c7b0 : (!((((rd_T61 l0 x5_1).f0).toList) == (((rd_T61 l1 x5_1).f0).toList)) || (!(((rd_T61 l0 x5_1).f1) == ((rd_T61 l1 x5_1).f1)))) = false := by simpa using c7
        clear c7
        have H' := Aside0.mk H
        clear H
        have p122 : 0 ≤ (x5_1 : Int) := of_decide_eq_true (by first | (with_reducible assumption) | assumption)
        have q122 : x5_1 < (l0.length : Int) := of_decide_eq_true (by first | (with_reducible assumption) | assumption)
        obtain ⟨ad122, e122, hx122_0, hx122_1⟩ := at_T61 HR0.out x5_1 p122 q122
        cases e122
        replace p122 := eq_true p122
        replace q122 := eq_true q122
        have p123 : 0 ≤ (x5_1 : Int) := of_decide_eq_true (by first | (with_reducible assumption) | assumption)
        have q123 : x5_1 < (l1.length : Int) := of_decide_eq_true (by first | (with_reducible assumption) | assumption)
        obtain ⟨ad123, e123, hx123_0, hx123_1⟩ := at_T61 HR1.out x5_1 p123 q123
        cases e123
        replace p123 := eq_true p123
        replace q123 := eq_true q123
        go_wp2
        repeat (go_quiet (fail); try go_wp2)
        go_roundg k1
        case measure => have := HK1.out; omega
        case rel => exact ⟨(wrap64 (x5_1 + 1)), (by first | rfl | (rw [bl_gt] <;> rfl) | (simp; done) | (simp [*]; done)), H', ⟨by have := HK1.out; omega⟩, by repeat (first | exact Drawn0.refl _ | apply Drawn0.step)⟩
      ·rw [if_neg c6] at H
       exact absurd H (by simp)
     ·rw [if_neg c5] at H
      exact absurd H (by simp)
    ·rw [if_neg c4] at H
     have c4b0 : decide (x5_1 < (l0.length : Int)) = false := decide_eq_false c4
     clear c4;obtain rfl := Option.some.inj H
     go_wp2
     repeat (go_quiet (fail); try go_wp2)
     go_ret
     exact ⟨by first | rfl | (simp; done) | (simp [*]; done), by repeat (first | exact Drawn0.refl _ | apply Drawn0.step)⟩
 ·rw [if_neg c3] at H
  have c3b0 : ((l0.length : Int) == (l1.length : Int)) = false := beq_eq_false_iff_ne.mpr c3
  have c3b1 : ((l0.length : Int) != (l1.length : Int)) = true := bne_iff_ne.mpr c3
  have c3b2 : (l0.length == l1.length) = false := by first | simpa using c3 | (simp at c3 ⊢; omega)
  obtain rfl := Option.some.inj H
  go_enter Tryz.func31, Tryz.ntmps31
  go_wp2
  repeat (go_quiet (fail); try go_wp2)
  go_ret
  exact ⟨by first | rfl | (simp; done) | (simp [*]; done), by repeat (first | exact Drawn0.refl _ | apply Drawn0.step)⟩
end Go.Proofs.YtgmlenpcchhmbaaGreat.P
end
section
set_option linter.unusedVariables false
set_option linter.unusedSimpArgs false
namespace Go.Proofs.YtgmlenpcchhmbaaGreat.P
open Go.RowKit Go.Proofs.YtgmlenpcchhmbaaGreatW.PrintWords Go.Proofs.YtgmlenpcchhmbaaGreatW.PrintLast Go.Proofs.YtgmlenpcchhmbaaGreatW.PrintMore
attribute [local go_sem] max2_int min2_int max_two min_two max_three min_three max_four min_four   -- for this text's walks alone
mutual
def folkmootlaw08_small.j1 : Nat → List (S63) → List (S61) → Int → Option (Bool)
 | 0, _, _, _ => none
 | k + 1, x0, x1, x5 => folkmootlaw08_small.l1 k x0 x1 x5 0
def folkmootlaw08_small.l1 : Nat → List (S63) → List (S61) → Int → Int → Option (Bool)
 | 0, _, _, _, _ => none
 | k + 1, x0, x1, x5, x7 => if x7 < (x1.length : Int) then (if x7 ≤ 60 then (if 0 ≤ x7 then (folkmootlaw08_small.l1 k x0 x1 (wrap64 (x5 + (((rd_T61 x1 x7).f0).size : Int))) (wrap64 (x7 + 1))) else (none)) else (if (x0.length : Int) ≤ 60 then (if (x1.length : Int) ≤ 60 then (some (decide (x5 ≤ 6000))) else (some false)) else (some false))) else (if (x0.length : Int) ≤ 60 then (if (x1.length : Int) ≤ 60 then (some (decide (x5 ≤ 6000))) else (some false)) else (some false))
def folkmootlaw08_small.l0 : Nat → List (S63) → List (S61) → Int → Int → Option (Bool)
 | 0, _, _, _, _ => none
 | k + 1, x0, x1, x5, x6 => if x6 < (x0.length : Int) then (if x6 ≤ 60 then (if 0 ≤ x6 then (folkmootlaw08_small.l0 k x0 x1 (wrap64 ((wrap64 (x5 + (((rd_T63 x0 x6).f1).size : Int))) + (((rd_T63 x0 x6).f2).size : Int))) (wrap64 (x6 + 1))) else (none)) else (folkmootlaw08_small.j1 k x0 x1 x5)) else (folkmootlaw08_small.j1 k x0 x1 x5)
end
def folkmootlaw08_small.f (k : Nat) (l0 : List (S63)) (l1 : List (S61)) : Option (Bool) := folkmootlaw08_small.l0 k l0 l1 0 0
set_option maxHeartbeats 8000000 in
set_option maxRecDepth 100000 in
theorem folkmootlaw08_small.calls (k : Nat) (A0 : Option Addr) (c0 : Nat) (l0 : List (S63)) (A1 : Option Addr) (c1 : Nat) (l1 : List (S61)) (r : Bool) (w : World) (hr0 : Kd.C k63 w A0 l0.length l0) (hc0 : l0.length ≤ c0) (hr1 : Kd.C k61 w A1 l1.length l1) (hc1 : l1.length ≤ c1) (h : folkmootlaw08_small.f k l0 l1 = some r) :
  Calls Tryz.prog 13 #[.slice A0 l0.length c0, .slice A1 l1.length c1] w fun e w' => e = .returned (.bool r) ∧ Drawn0 w w' := by
 have HR0 := Aside0.mk hr0
 have HC0 := Aside0.mk hc0
 clear hr0 hc0
 have HR1 := Aside0.mk hr1
 have HC1 := Aside0.mk hc1
 clear hr1 hc1
 have H : (folkmootlaw08_small.l0 k l0 l1 0 0) = some r := h
 clear h
 have HC3 := Aside0.mk H
 clear H
 go_enter Tryz.func13, Tryz.ntmps13
 go_upto_block 0 with (fail)
 repeat (go_quiet (fail); go_upto_block 0 with (fail))
 go_cut [5] (fun v5 wc => ∃ (kq : Nat) (x5_2 : Int), v5 = .int .i64 x5_2 ∧ Aside0 (folkmootlaw08_small.j1 kq l0 l1 x5_2 = some r) ∧ Aside0 (kq ≤ k) ∧ Drawn0 w wc)
 case first =>
  have H := HC3.out;clear HC3
  have H' := Aside0.mk H
  clear H
  go_wp2
  repeat (go_quiet (fail); try go_wp2)
  go_loopg [5, 6] k (fun kq v5 v6 w' => ∃ (x5_1 : Int) (x6_1 : Int), v5 = .int .i64 x5_1 ∧ v6 = .int .i64 x6_1 ∧ Aside0 (folkmootlaw08_small.l0 kq l0 l1 x5_1 x6_1 = some r) ∧ Aside0 (kq ≤ k) ∧ Drawn0 w w')
  case atStart => exact ⟨(0), (0), (by first | rfl | (rw [bl_gt] <;> rfl) | (simp; done) | (simp [*]; done)), (by first | rfl | (rw [bl_gt] <;> rfl) | (simp; done) | (simp [*]; done)), H', ⟨Nat.le_refl _⟩, by repeat (first | exact Drawn0.refl _ | apply Drawn0.step)⟩
  case round =>
   clear H'
   try clear c1
   try clear p2
   obtain ⟨x5_1, x6_1, rfl, rfl, HA, HK1, ⟨m1, rfl⟩⟩ := hrel
   cases gk with
   | zero => exact absurd HA.out (by simp [folkmootlaw08_small.l0])
   | succ k1 =>
    have H := HA.out;clear HA
    simp only [folkmootlaw08_small.l0] at H
    by_cases c4 : x6_1 < (l0.length : Int)
    ·rw [if_pos c4] at H
     have c4b0 : decide (x6_1 < (l0.length : Int)) = true := decide_eq_true c4
     clear c4
     (first | rw [c4b0] | (simp only [i64_w, i32_w]; rw [c4b0]) | skip)
     by_cases c5 : x6_1 ≤ 60
     ·rw [if_pos c5] at H
      have c5b0 : decide (x6_1 ≤ 60) = true := decide_eq_true c5
      clear c5
      by_cases c6 : 0 ≤ x6_1
      ·rw [if_pos c6] at H
       have c6b0 : decide (0 ≤ x6_1) = true := decide_eq_true c6
       clear c6
       have H' := Aside0.mk H
       clear H
       have p111 : 0 ≤ (x6_1 : Int) := of_decide_eq_true (by first | (with_reducible assumption) | assumption)
       have q111 : x6_1 < (l0.length : Int) := of_decide_eq_true (by first | (with_reducible assumption) | assumption)
       obtain ⟨ad111, e111, hx111_0, hx111_1, hx111_2, hx111_3⟩ := at_T63 HR0.out x6_1 p111 q111
       cases e111
       replace p111 := eq_true p111
       replace q111 := eq_true q111
       have p112 : 0 ≤ (x6_1 : Int) := of_decide_eq_true (by first | (with_reducible assumption) | assumption)
       have q112 : x6_1 < (l0.length : Int) := of_decide_eq_true (by first | (with_reducible assumption) | assumption)
       obtain ⟨ad112, e112, hx112_0, hx112_1, hx112_2, hx112_3⟩ := at_T63 HR0.out x6_1 p112 q112
       obtain rfl : ad111 = ad112 := (by injection e112)
       replace p112 := eq_true p112
       replace q112 := eq_true q112
       go_wp2
       repeat (go_quiet (fail); try go_wp2)
       go_roundg k1
       case measure => have := HK1.out; omega
       case rel => exact ⟨(wrap64 ((wrap64 (x5_1 + (((rd_T63 l0 x6_1).f1).size : Int))) + (((rd_T63 l0 x6_1).f2).size : Int))), (wrap64 (x6_1 + 1)), (by first | rfl | (rw [bl_gt] <;> rfl) | (simp; done) | (simp [*]; done)), (by first | rfl | (rw [bl_gt] <;> rfl) | (simp; done) | (simp [*]; done)), H', ⟨by have := HK1.out; omega⟩, by repeat (first | exact Drawn0.refl _ | apply Drawn0.step)⟩
      ·rw [if_neg c6] at H
       exact absurd H (by simp)
     ·rw [if_neg c5] at H
      have c5b0 : decide (x6_1 ≤ 60) = false := decide_eq_false c5
      clear c5
      have H' := Aside0.mk H
      clear H
      go_wp2
      repeat (go_quiet (fail); try go_wp2)
      go_meet
      case rel => exact ⟨_, (x5_1), (by first | rfl | (rw [bl_gt] <;> rfl) | (simp; done) | (simp [*]; done)), H', ⟨by have := HK1.out; first | omega | exact Nat.le_refl _⟩, by repeat (first | exact Drawn0.refl _ | apply Drawn0.step)⟩
    ·rw [if_neg c4] at H
     have c4b0 : decide (x6_1 < (l0.length : Int)) = false := decide_eq_false c4
     clear c4
     (first | rw [c4b0] | (simp only [i64_w, i32_w]; rw [c4b0]) | skip)
     have H' := Aside0.mk H
     clear H
     go_wp2
     repeat (go_quiet (fail); try go_wp2)
     go_meet
     case rel => exact ⟨_, (x5_1), (by first | rfl | (rw [bl_gt] <;> rfl) | (simp; done) | (simp [*]; done)), H', ⟨by have := HK1.out; first | omega | exact Nat.le_refl _⟩, by repeat (first | exact Drawn0.refl _ | apply Drawn0.step)⟩
 case rest =>
  clear HC3
  try clear c1
  try clear p1
  try clear q1
  try clear hx1
  try clear p2
  try clear c4
  try clear c4b0
  try clear c5
  try clear c5b0
  try clear c6
  try clear c6b0
  try clear p6
  try clear hx111_0
  try clear hx111_1
  try clear hx111_2
  try clear hx111_3
  try clear hx112_0
  try clear hx112_1
  try clear hx112_2
  try clear hx112_3
  try clear p111
  try clear p112
  try clear p2
  try clear q111
  try clear q112
  obtain ⟨kq, x5_2, rfl, HA, HJ2, ⟨mc2, rfl⟩⟩ := hcut
  cases kq with
  | zero => exact absurd HA.out (by simp [folkmootlaw08_small.j1])
  | succ kj2 =>
   have H := HA.out;clear HA
   simp only [folkmootlaw08_small.j1] at H
   have H' := Aside0.mk H
   clear H
   go_wp2
   repeat (go_quiet (fail); try go_wp2)
   go_loopg [5, 7] kj2 (fun kq v5 v7 w' => ∃ (x5_2 : Int) (x7_2 : Int), v5 = .int .i64 x5_2 ∧ v7 = .int .i64 x7_2 ∧ Aside0 (folkmootlaw08_small.l1 kq l0 l1 x5_2 x7_2 = some r) ∧ Aside0 (kq ≤ kj2) ∧ Drawn0 w w')
   case atStart => exact ⟨(x5_2), (0), (by first | rfl | (rw [bl_gt] <;> rfl) | (simp; done) | (simp [*]; done)), (by first | rfl | (rw [bl_gt] <;> rfl) | (simp; done) | (simp [*]; done)), H', ⟨Nat.le_refl _⟩, by repeat (first | exact Drawn0.refl _ | apply Drawn0.step)⟩
   case round =>
    clear H'
    try clear c1
    try clear p1
    try clear q1
    try clear hx1
    try clear c2
    try clear p2
    try clear c4
    try clear c4b0
    try clear c5
    try clear c5b0
    try clear c6
    try clear c6b0
    try clear p6
    try clear hx111_0
    try clear hx111_1
    try clear hx111_2
    try clear hx111_3
    try clear hx112_0
    try clear hx112_1
    try clear hx112_2
    try clear hx112_3
    try clear p1
    try clear p111
    try clear p112
    try clear p2
    try clear p6
    try clear q1
    try clear q111
    try clear q112
    obtain ⟨x5_2, x7_2, rfl, rfl, HA, HK2, ⟨m2, rfl⟩⟩ := hrel
    cases gk with
    | zero => exact absurd HA.out (by simp [folkmootlaw08_small.l1])
    | succ k2 =>
     have H := HA.out;clear HA
     simp only [folkmootlaw08_small.l1] at H
     by_cases c7 : x7_2 < (l1.length : Int)
     ·rw [if_pos c7] at H
      have c7b0 : decide (x7_2 < (l1.length : Int)) = true := decide_eq_true c7
      clear c7
      by_cases c8 : x7_2 ≤ 60
      ·rw [if_pos c8] at H
       have c8b0 : decide (x7_2 ≤ 60) = true := decide_eq_true c8
       clear c8
       by_cases c9 : 0 ≤ x7_2
       ·rw [if_pos c9] at H
        have c9b0 : decide (0 ≤ x7_2) = true := decide_eq_true c9
        clear c9
        have H' := Aside0.mk H
        clear H
        have p113 : 0 ≤ (x7_2 : Int) := of_decide_eq_true (by first | (with_reducible assumption) | assumption)
        have q113 : x7_2 < (l1.length : Int) := of_decide_eq_true (by first | (with_reducible assumption) | assumption)
        obtain ⟨ad113, e113, hx113_0, hx113_1⟩ := at_T61 HR1.out x7_2 p113 q113
        cases e113
        replace p113 := eq_true p113
        replace q113 := eq_true q113
        go_wp2
        repeat (go_quiet (fail); try go_wp2)
        go_roundg k2
        case measure => have := HJ2.out; have := HK2.out; omega
        case rel => exact ⟨(wrap64 (x5_2 + (((rd_T61 l1 x7_2).f0).size : Int))), (wrap64 (x7_2 + 1)), (by first | rfl | (rw [bl_gt] <;> rfl) | (simp; done) | (simp [*]; done)), (by first | rfl | (rw [bl_gt] <;> rfl) | (simp; done) | (simp [*]; done)), H', ⟨by have := HJ2.out; have := HK2.out; omega⟩, by repeat (first | exact Drawn0.refl _ | apply Drawn0.step)⟩
       ·rw [if_neg c9] at H
        exact absurd H (by simp)
      ·rw [if_neg c8] at H
       have c8b0 : decide (x7_2 ≤ 60) = false := decide_eq_false c8
       clear c8
       by_cases c10 : (l0.length : Int) ≤ 60
       ·rw [if_pos c10] at H
        have c10b0 : decide ((l0.length : Int) ≤ 60) = true := decide_eq_true c10
        have c10b1 : decide (l0.length ≤ 60) = true := decide_eq_true (by omega)
        clear c10
        by_cases c11 : (l1.length : Int) ≤ 60
        ·rw [if_pos c11] at H
         have c11b0 : decide ((l1.length : Int) ≤ 60) = true := decide_eq_true c11
         have c11b1 : decide (l1.length ≤ 60) = true := decide_eq_true (by omega)
         clear c11;obtain rfl := Option.some.inj H
         go_wp2
         repeat (go_quiet (fail); try go_wp2)
         go_ret
         exact ⟨by first | rfl | (simp; done) | (simp [*]; done), by repeat (first | exact Drawn0.refl _ | apply Drawn0.step)⟩
        ·rw [if_neg c11] at H
         have c11b0 : decide ((l1.length : Int) ≤ 60) = false := decide_eq_false c11
         have c11b1 : decide (l1.length ≤ 60) = false := decide_eq_false (by omega)
         clear c11;obtain rfl := Option.some.inj H
         go_wp2
         repeat (go_quiet (fail); try go_wp2)
         go_ret
         exact ⟨by first | rfl | (simp; done) | (simp [*]; done), by repeat (first | exact Drawn0.refl _ | apply Drawn0.step)⟩
       ·rw [if_neg c10] at H
        have c10b0 : decide ((l0.length : Int) ≤ 60) = false := decide_eq_false c10
        have c10b1 : decide (l0.length ≤ 60) = false := decide_eq_false (by omega)
        clear c10;obtain rfl := Option.some.inj H
        go_wp2
        repeat (go_quiet (fail); try go_wp2)
        go_ret
        exact ⟨by first | rfl | (simp; done) | (simp [*]; done), by repeat (first | exact Drawn0.refl _ | apply Drawn0.step)⟩
     ·rw [if_neg c7] at H
      have c7b0 : decide (x7_2 < (l1.length : Int)) = false := decide_eq_false c7
      clear c7
      by_cases c12 : (l0.length : Int) ≤ 60
      ·rw [if_pos c12] at H
       have c12b0 : decide ((l0.length : Int) ≤ 60) = true := decide_eq_true c12
       have c12b1 : decide (l0.length ≤ 60) = true := decide_eq_true (by omega)
       clear c12
       by_cases c13 : (l1.length : Int) ≤ 60
       ·rw [if_pos c13] at H
        have c13b0 : decide ((l1.length : Int) ≤ 60) = true := decide_eq_true c13
        have c13b1 : decide (l1.length ≤ 60) = true := decide_eq_true (by omega)
        clear c13;obtain rfl := Option.some.inj H
        go_wp2
        repeat (go_quiet (fail); try go_wp2)
        go_ret
        exact ⟨by first | rfl | (simp; done) | (simp [*]; done), by repeat (first | exact Drawn0.refl _ | apply Drawn0.step)⟩
       ·rw [if_neg c13] at H
        have c13b0 : decide ((l1.length : Int) ≤ 60) = false := decide_eq_false c13
        have c13b1 : decide (l1.length ≤ 60) = false := decide_eq_false (by omega)
        clear c13;obtain rfl := Option.some.inj H
        go_wp2
        repeat (go_quiet (fail); try go_wp2)
        go_ret
        exact ⟨by first | rfl | (simp; done) | (simp [*]; done), by repeat (first | exact Drawn0.refl _ | apply Drawn0.step)⟩
      ·rw [if_neg c12] at H
       have c12b0 : decide ((l0.length : Int) ≤ 60) = false := decide_eq_false c12
       have c12b1 : decide (l0.length ≤ 60) = false := decide_eq_false (by omega)
       clear c12;obtain rfl := Option.some.inj H
       go_wp2
       repeat (go_quiet (fail); try go_wp2)
       go_ret
       exact ⟨by first | rfl | (simp; done) | (simp [*]; done), by repeat (first | exact Drawn0.refl _ | apply Drawn0.step)⟩
end Go.Proofs.YtgmlenpcchhmbaaGreat.P
end
section
set_option linter.unusedVariables false
set_option linter.unusedSimpArgs false
namespace Go.Proofs.YtgmlenpcchhmbaaGreat.P
open Go.RowKit Go.Proofs.YtgmlenpcchhmbaaGreatW.PrintWords Go.Proofs.YtgmlenpcchhmbaaGreatW.PrintLast
theorem small_end (l : List S63) (d : List S61) (n : Int) : ∃ b, (if (l.length : Int) ≤ 60 then (if (d.length : Int) ≤ 60 then (some (decide (n ≤ 6000))) else (some false)) else (some false)) = some b ∧ (b = true → l.length ≤ 60 ∧ d.length ≤ 60) := by
  by_cases h1 : (l.length : Int) ≤ 60
  · by_cases h2 : (d.length : Int) ≤ 60
    · exact ⟨_, by rw [if_pos h1, if_pos h2], fun _ => ⟨by omega, by omega⟩⟩
    · exact ⟨false, by rw [if_pos h1, if_neg h2], fun h => by cases h⟩
  · exact ⟨false, by rw [if_neg h1], fun h => by cases h⟩
theorem small_l1 (l : List S63) (d : List S61) : ∀ (m i : Nat) (n : Int), i + m = 61 → ∃ b, Ev (fun k => folkmootlaw08_small.l1 k l d n (i : Int)) b ∧ (b = true → l.length ≤ 60 ∧ d.length ≤ 60)
  | 0, i, n, h => by
    obtain ⟨b, e, hb⟩ := small_end l d n
    refine ⟨b, Ev.succ ?_, hb⟩
    simp only [folkmootlaw08_small.l1]
    exact Ev.cond (fun _ => Ev.no (by omega) (Ev.of _ fun _ => e)) (fun _ => Ev.of _ fun _ => e)
  | m + 1, i, n, h => by
    by_cases hl : (i : Int) < (d.length : Int)
    · obtain ⟨b, e, hb⟩ := small_l1 l d m (i + 1) (wrap64 (n + (((rd_T61 d (i : Int)).f0).size : Int))) (by omega)
      refine ⟨b, Ev.succ ?_, hb⟩
      simp only [folkmootlaw08_small.l1]
      rw [w64_succ (by omega)]
      exact Ev.yes hl (Ev.yes (by omega) (Ev.yes (by omega) e))
    · obtain ⟨b, e, hb⟩ := small_end l d n
      refine ⟨b, Ev.succ ?_, hb⟩
      simp only [folkmootlaw08_small.l1]
      exact Ev.no hl (Ev.of _ fun _ => e)
theorem small_j1 (l : List S63) (d : List S61) (n : Int) : ∃ b, Ev (fun k => folkmootlaw08_small.j1 k l d n) b ∧ (b = true → l.length ≤ 60 ∧ d.length ≤ 60) := by
  obtain ⟨b, e, hb⟩ := small_l1 l d 61 0 n rfl
  refine ⟨b, Ev.succ ?_, hb⟩
  simp only [folkmootlaw08_small.j1]
  exact e
theorem small_l0 (l : List S63) (d : List S61) : ∀ (m i : Nat) (n : Int), i + m = 61 → ∃ b, Ev (fun k => folkmootlaw08_small.l0 k l d n (i : Int)) b ∧ (b = true → l.length ≤ 60 ∧ d.length ≤ 60)
  | 0, i, n, h => by
    obtain ⟨b, e, hb⟩ := small_j1 l d n
    refine ⟨b, Ev.succ ?_, hb⟩
    simp only [folkmootlaw08_small.l0]
    exact Ev.cond (fun _ => Ev.no (by omega) e) (fun _ => e)
  | m + 1, i, n, h => by
    by_cases hl : (i : Int) < (l.length : Int)
    · obtain ⟨b, e, hb⟩ := small_l0 l d m (i + 1) (wrap64 ((wrap64 (n + (((rd_T63 l (i : Int)).f1).size : Int))) + (((rd_T63 l (i : Int)).f2).size : Int))) (by omega)
      refine ⟨b, Ev.succ ?_, hb⟩
      simp only [folkmootlaw08_small.l0]
      rw [w64_succ (by omega)]
      exact Ev.yes hl (Ev.yes (by omega) (Ev.yes (by omega) e))
    · obtain ⟨b, e, hb⟩ := small_j1 l d n
      refine ⟨b, Ev.succ ?_, hb⟩
      simp only [folkmootlaw08_small.l0]
      exact Ev.no hl e
theorem ev_small (l : List S63) (d : List S61) : ∃ b, Ev (fun k => folkmootlaw08_small.f k l d) b ∧ (b = true → l.length ≤ 60 ∧ d.length ≤ 60) := small_l0 l d 61 0 0 rfl
def pairT (p : S61) : Prop := 1 ≤ p.f0.size ∧ p.f0.size ≤ 16 ∧ rightN p.f1 = p.f1
def dataT (d : List S61) : Prop := SortK (d.map toA) ∧ ∀ p ∈ d, pairT p
end Go.Proofs.YtgmlenpcchhmbaaGreat.P
end
section
set_option linter.unusedVariables false
set_option linter.unusedSimpArgs false
namespace Go.Proofs.YtgmlenpcchhmbaaGreat.P
open Go.RowKit Go.Shelf Go.Proofs.YtgmlenpcchhmbaaGreatW.PrintWords Go.Proofs.YtgmlenpcchhmbaaGreatW.PrintLast Go.Proofs.YtgmlenpcchhmbaaGreatW.PrintMore
set_option maxHeartbeats 1000000 in
theorem idxPr_any (g : Nat) (fst lb : Array Value) (p : S61 → Bool) (eg : ∀ args w, (callFunc g args).run Tryz.prog w = .ok (.enter g args) w) (base blk cap : Nat) (xs : List (S61)) (w : World)
    (hown : RowPr w base (.slice (some ⟨blk, 0, none⟩) xs.length cap) xs) (hm : xs.length ≤ cap ∧ cap ≤ 9223372036854775807)
    (hp : ∀ (W : World) (s : S61), s ∈ xs → Below w.heap.size w W → Calls Tryz.prog g (fst ++ #[.agg #[.string s.f0, .int .u64 s.f1]] ++ lb) W fun e w' => e = .returned (.bool (p s)) ∧ Below W.heap.size W w') :
    Calls Tryz.prog 125 #[.slice (some ⟨blk, 0, none⟩) xs.length cap, .func (.func g) fst lb] w fun e w' => e = .returned (.int .i64 (idxP p xs)) ∧ Below w.heap.size w w' := by
  obtain ⟨hm1, hm2⟩ := hm
  have HR := Lib.hid hown; clear hown
  have HP := Lib.hid hp; clear hp
  go_enter Tryz.func125, Tryz.ntmps125
  go_wp2
  go_loopw [5, 8] (fun _ i wr => ∃ k : Nat, i = .int .i64 k ∧ k ≤ xs.length ∧ Below w.heap.size w wr ∧ RowKit.Hid (∀ j (hj : j < xs.length), j < k → p xs[j] = false)) (fun _ i _ => xs.length - (intOf i).toNat)
  case atStart => exact ⟨0, rfl, Nat.zero_le _, Below.refl _ _, Lib.hid (fun j _ h => absurd h (Nat.not_lt_zero _))⟩
  case round =>
    obtain ⟨k, rfl, hk, hB, HN⟩ := hrel
    by_cases hlt : k < xs.length
    · obtain ⟨x0, x1, _, _⟩ := RowPr.at_ (pw_own_below HR.out hB) k xs[k] (List.getElem?_eq_getElem hlt)
      have hc := HP.out wr xs[k] (List.getElem_mem hlt) hB
      generalize hu : xs[k] = u at *
      have HU := Lib.hid hu; clear hu
      cases hq : p u with
      | true =>
        rw [hq] at hc
        have HQ := Lib.hid hq; clear hq
        go_wp2_with (go_at_fn g; refine hc.mono ?_; rintro e w' ⟨rfl, hb⟩)
        go_ret
        refine ⟨?_, hB.trans (hb.mono hB.size)⟩
        rw [idxP_hit hlt HN.out (by rw [HU.out]; exact HQ.out)]
        rfl
      | false =>
        rw [hq] at hc
        have HQ := Lib.hid hq; clear hq
        go_wp2_with (go_at_fn g; refine hc.mono ?_; rintro e w' ⟨rfl, hb⟩)
        go_roundw
        case rel => exact ⟨k + 1, by go_num, by omega, hB.trans (hb.mono hB.size), Lib.hid (fun j hj h => by
          by_cases e : j = k
          · subst e; rw [HU.out]; exact HQ.out
          · exact HN.out j hj (by omega))⟩
        case measure => simp [intOf]; omega
    · obtain rfl : k = xs.length := by omega
      go_wp2
      go_ret
      refine ⟨?_, hB⟩
      rw [idxP_none (fun j hj => HN.out j hj (by omega))]
      rfl
set_option maxHeartbeats 4000000 in
set_option maxRecDepth 100000 in
theorem delPr_any (g : Nat) (fst lb : Array Value) (p : S61 → Bool) (eg : ∀ args w, (callFunc g args).run Tryz.prog w = .ok (.enter g args) w) (base blk cap : Nat) (xs : List (S61)) (w : World)
    (hown : RowPr w base (.slice (some ⟨blk, 0, none⟩) xs.length cap) xs)
    (hp : ∀ (W : World) (s : S61), s ∈ xs → Upd w W (· = blk) → Calls Tryz.prog g (fst ++ #[.agg #[.string s.f0, .int .u64 s.f1]] ++ lb) W fun e w' => e = .returned (.bool (p s)) ∧ Below W.heap.size W w') :
    Calls Tryz.prog 82 #[.slice (some ⟨blk, 0, none⟩) xs.length cap, .func (.func g) fst lb] w fun e w' =>
      e = .returned (.slice (some ⟨blk, 0, none⟩) (xs.filter fun x => !p x).length cap) ∧ RowPr w' base (.slice (some ⟨blk, 0, none⟩) (xs.filter fun x => !p x).length cap) (xs.filter fun x => !p x) ∧ Upd w w' (· = blk) := by
  have hcap : xs.length ≤ cap ∧ cap ≤ 9223372036854775807 := by
    rcases hown.2 with ⟨h, _⟩ | ⟨g', cap', cur, h, _, _, h1, h2, _⟩
    · cases h
    · injection h with _ _ h
      subst h
      exact ⟨h1, by simpa [maxLen] using h2⟩
  have hidx := idxPr_any g fst lb p eg base blk cap xs w hown hcap (fun W x hx hb => hp W x hx (Upd.of_below hb _))
  obtain ⟨hcap1, hcap2⟩ := hcap
  have HO := Lib.hid hown
  have HP := Lib.hid hp; clear hp
  by_cases hall : ∀ j (hj : j < xs.length), p xs[j] = false
  · rw [idxP_none hall] at hidx
    have hf : (xs.filter fun x => !p x) = xs := List.filter_eq_self.2 (fun x hx => by
      obtain ⟨j, hj, rfl⟩ := List.getElem_of_mem hx
      simp [hall j hj])
    rw [hf]
    clear hf hall hown
    go_enter Tryz.func82, Tryz.ntmps82
    go_wp2_with (go_at_call 125; refine hidx.mono ?_; rintro e w' ⟨rfl, hb⟩)
    go_ret
    exact ⟨rfl, pw_own_below HO.out hb, Upd.of_below hb _⟩
  · obtain ⟨k, hk, ht, hlow⟩ : ∃ k, ∃ hk : k < xs.length, p xs[k] = true ∧ ∀ j (hj : j < xs.length), j < k → p xs[j] = false := by
      cases hf : xs.findIdx? p with
      | none =>
        rw [List.findIdx?_eq_none_iff] at hf
        exact absurd (fun j hj => hf _ (List.getElem_mem hj)) hall
      | some k =>
        rw [List.findIdx?_eq_some_iff_getElem] at hf
        obtain ⟨hk, ht, h⟩ := hf
        exact ⟨k, hk, ht, fun j _ hj => by simpa using h j hj⟩
    rw [idxP_hit hk hlow ht] at hidx
    have HI := Lib.hid (DelInv.start hk hlow ht)
    clear hall hlow ht hown
    have hne : ((k : Int) == -1) = false := beq_eq_false_iff_ne.2 (by omega)
    go_enter Tryz.func82, Tryz.ntmps82
    go_wp2_with (go_at_call 125; refine hidx.mono ?_; rintro e w' ⟨rfl, hb⟩)
    go_loopw [5, 6, 7] (fun si sj _ wr => ∃ (i j : Nat) (ys : List (S61)), si = .int .i64 i ∧ sj = .int .i64 j ∧ i < j ∧ j ≤ xs.length ∧ RowKit.Hid (DelInv p xs ys i j) ∧ RowKit.Hid (RowPr wr base (.slice (some ⟨blk, 0, none⟩) xs.length cap) ys ∧ Upd w wr (· = blk))) (fun _ j _ _ => xs.length - (intOf j).toNat)
    case atStart => exact ⟨k, k + 1, xs, rfl, by go_num, by omega, by omega, HI, Lib.hid ⟨pw_own_below HO.out hb, Upd.of_below hb _⟩⟩
    case round =>
      obtain ⟨i, j, ys, rfl, rfl, hij, hj, HD, HS⟩ := hrel
      have hyl := HD.out.len
      by_cases hlt : j < xs.length
      · have hget := HD.out.get hlt
        obtain ⟨x0, x1, _, _⟩ := RowPr.at_ HS.out.1 j xs[j] (by rw [List.getElem?_eq_getElem (by omega), hget])
        obtain ⟨z', hz'⟩ : ∃ z', ys[i]? = some z' := ⟨_, List.getElem?_eq_getElem (by omega)⟩
        obtain ⟨c0, c1, q0, q1⟩ := RowPr.at_ HS.out.1 i z' hz'
        have hblk : blk < wr.heap.size := (World.ownsRow.lt HS.out.1 blk rfl).2
        have hc := fun W (h : Below wr.heap.size wr W) => HP.out W xs[j] (List.getElem_mem hlt) (HS.out.2.then_below h)
        have hx : RowKit.Hid (∀ q, p xs[j] = q → DelInv p xs (if q then ys else ys.set i xs[j]) (if q then i else i + 1) (j + 1)) := Lib.hid (fun q hq => by
          cases q with
          | true => exact HD.out.skip hlt hq
          | false => exact HD.out.keep hlt hq)
        clear hget hyl hz'
        generalize xs[j] = s at *
        obtain ⟨q, hq⟩ : ∃ q, p s = q := ⟨_, rfl⟩
        rw [hq] at hc
        have HC := Lib.hid hc; clear hc
        have HQ := Lib.hid hq; clear hq
        cases q with
        | true =>
          have HSK := Lib.hid (hx.out true HQ.out)
          go_wp2_with (go_at_fn g; refine (HC.out _ ((Below.refl _ _).alloc (Nat.le_refl _) _)).mono ?_; rintro e w2 ⟨rfl, hb2⟩)
          go_roundw
          case rel =>
            have hbw : Below wr.heap.size wr w2 := ((Below.refl _ _).alloc (Nat.le_refl _) _).trans (hb2.mono (by simp))
            exact ⟨i, j + 1, ys, rfl, by go_num, by omega, by omega, HSK, Lib.hid ⟨pw_own_below HS.out.1 hbw, HS.out.2.then_below hbw⟩⟩
          case measure => simp [intOf]; omega
        | false =>
          have HSK := Lib.hid (hx.out false HQ.out)
          have hcells := fun w2 (hb2 : Below (wr.alloc (.cells #[.string s.f0, .int .u64 s.f1] 61)).heap.size (wr.alloc (.cells #[.string s.f0, .int .u64 s.f1] 61)) w2) => (show Below wr.heap.size wr w2 ∧ w2.cell? ⟨wr.heap.size, 0, none⟩ = some (.string s.f0) ∧ w2.cell? ⟨wr.heap.size, 1, none⟩ = some (.int .u64 s.f1) from by
            have hn := Blk.new wr 61 #[.string s.f0, .int .u64 s.f1]
            exact ⟨((Below.refl _ _).alloc (Nat.le_refl _) _).trans (hb2.mono (by simp)), (hn.below hb2 (by simp)).cell 0, (hn.below hb2 (by simp)).cell 1⟩)
          have HCE := Lib.hid hcells
          clear hcells
          go_wp2_with (go_at_fn g; refine (HC.out _ ((Below.refl _ _).alloc (Nat.le_refl _) _)).mono ?_; rintro e w2 ⟨rfl, hb2⟩; obtain ⟨hbw, n0, n1⟩ := HCE.out w2 hb2; have c0' := pw_cell_below hbw c0; have c1' := pw_cell_below hbw c1; have q0' := (hbw.frozen (p := ⟨blk, i * 2, none⟩) hblk).trans q0; have q1' := (hbw.frozen (p := ⟨blk, i * 2 + 1, none⟩) hblk).trans q1)
          go_roundw
          case rel => exact ⟨i + 1, j + 1, ys.set i s, by go_num, by go_num, by omega, by omega, HSK, Lib.hid ⟨RowPr.store (pw_own_below HS.out.1 hbw) i s, ((HS.out.2.then_below hbw).setCell (.inl rfl) _).setCell (.inl rfl) _⟩⟩
          case measure => simp [intOf]; omega
      · obtain rfl : j = xs.length := by omega
        have hsz := HD.out.size
        have hdn := Lib.hid HD.out.done
        obtain ⟨vs, hcl⟩ : ∃ vs, ∀ ty, (Builtin.clear_ #[39] ty #[.slice (some ⟨blk, i * 2, none⟩) (xs.length - i) (cap - i)]).run Tryz.prog wr = .ok (.tuple #[]) (wr.setCells blk (i * 2) vs) := ⟨_, fun ty =>
          run_clear2 wr _ _ ty _ (.string ⟨#[]⟩) (.int .u64 0) Tryz.underlying39 Tryz.zeroValue61 rfl rfl rfl blk (i * 2) _ _ (by omega) (fun t ht => by
            have h := World.ownsRow.cellAt (n := xs.length) (by have h := HS.out.1; unfold RowPr at h; rw [hyl] at h; exact h) (i * 2 + t) (by omega)
            rw [h, List.getElem?_eq_getElem (by rw [enc2_len, List.length_map]; omega)]; rfl) (fun t ht => World.ownsRow.frozenAt (n := xs.length) (by have h := HS.out.1; unfold RowPr at h; rw [hyl] at h; exact h) _)⟩
        have HSZ := Lib.hid hsz
        clear hsz
        go_wp2
        go_ret
        obtain ⟨zs, hz, ht⟩ := own_setCells vs (i * 2) wr _ (by have h := HS.out.1; unfold RowPr at h; rw [hyl] at h; exact h)
        have h3 := own_take hz (m := i) (by omega)
        rw [ht, enc2_take, ← List.map_take, hdn.out] at h3
        rw [HSZ.out]
        refine ⟨rfl, ?_, HS.out.2.setCells (.inl rfl) vs (i * 2)⟩
        unfold RowPr
        rw [HSZ.out]
        exact h3
theorem delPr_nil (g : Nat) (fst lb : Array Value) (eg : ∀ args w, (callFunc g args).run Tryz.prog w = .ok (.enter g args) w) (w : World) :
    Calls Tryz.prog 82 #[.slice none 0 0, .func (.func g) fst lb] w fun e w' => e = .returned (.slice none 0 0) ∧ Below w.heap.size w w' := by
  have hidx : Calls Tryz.prog 125 #[.slice none 0 0, .func (.func g) fst lb] w fun e w' => e = .returned (.int .i64 (-1)) ∧ Below w.heap.size w w' := by
    go_enter Tryz.func125, Tryz.ntmps125
    go_wp2
    refine wp_loop_rounds 1 ?_
    rw [rounds_succ]
    go_wp2
    go_ret
    exact ⟨rfl, Below.refl _ _⟩
  go_enter Tryz.func82, Tryz.ntmps82
  go_wp2_with (go_at_call 125; refine hidx.mono ?_; rintro e w' ⟨rfl, hb⟩)
  go_ret
  exact ⟨rfl, hb⟩
theorem delPr_own (g : Nat) (fst lb : Array Value) (p : S61 → Bool) (eg : ∀ args w, (callFunc g args).run Tryz.prog w = .ok (.enter g args) w) (base : Nat) (v : Value) (xs : List (S61)) (w w0 : World)
    (hown : RowPr w base v xs) (hb : Below base w0 w) (hbs : base ≤ w.heap.size)
    (hp : ∀ (W : World) (s : S61), s ∈ xs → Below base w0 W → Calls Tryz.prog g (fst ++ #[.agg #[.string s.f0, .int .u64 s.f1]] ++ lb) W fun e w' => e = .returned (.bool (p s)) ∧ Below W.heap.size W w') :
    Calls Tryz.prog 82 #[v, .func (.func g) fst lb] w fun e w' => ∃ v', e = .returned v' ∧ RowPr w' base v' (xs.filter fun x => !p x) ∧ Below base w0 w' ∧ Upd w w' (fun k => v.ownBlock = some k) ∧ v'.ownBlock = v.ownBlock := by
  have hg := hown
  rcases hg.2 with ⟨rfl, h0⟩ | ⟨blk, cap, cur, rfl, hbb, hgb, _⟩
  · obtain rfl : xs = [] := List.eq_nil_of_length_eq_zero h0
    exact (delPr_nil g fst lb eg w).mono fun e w' ⟨he, h⟩ => ⟨_, he, own_nil _ _ _ _, hb.trans (h.mono hbs), Upd.of_below h _, rfl⟩
  · have hU : ∀ W, Upd w W (· = blk) → Below base w0 W := fun W h => hb.trans (h.below hbs (fun k hk e => by omega))
    exact (delPr_any g fst lb p eg base blk cap xs w hown (fun W x hx h => hp W x hx (hU W h))).mono fun e w' ⟨he, ho, h⟩ => ⟨_, he, ho, hU w' h, h.mono fun k _ e => by simp [Value.ownBlock, e], rfl⟩
end Go.Proofs.YtgmlenpcchhmbaaGreat.P
end
section
set_option linter.unusedVariables false
set_option linter.unusedSimpArgs false
namespace Go.Proofs.YtgmlenpcchhmbaaGreat.P
open Go.RowKit Go.Proofs.YtgmlenpcchhmbaaGreatW.PrintWords Go.Proofs.YtgmlenpcchhmbaaGreatW.PrintLast Go.Proofs.YtgmlenpcchhmbaaGreatW.PrintMore
theorem C_blkI {W : World} {b : Nat} {t : TypeId} (xs : List Int) (h : Blk W b t (xs.map (Value.int .i64)).toArray) (hm : xs.length ≤ 1000) : Kd.C (Kd.int .i64) W (some ⟨b, 0, none⟩) xs.length xs := by
  refine ⟨rfl, by omega, fun _ => ⟨_, rfl, fun j p hj => ⟨[.int .i64 p], rfl, rfl, fun i u hu => ?_⟩⟩⟩
  rcases i with _ | i
  · simp only [List.getElem?_cons_zero, Option.some.injEq] at hu
    subst hu
    have := h.cell j
    rw [show (⟨b, 0, none⟩ : Addr).add (j * (Kd.int .i64).sz + 0) = ⟨b, j, none⟩ by rw [show (Kd.int .i64).sz = 1 from rfl, Nat.mul_one, Nat.add_zero, add_plain]]
    rw [this]
    simp [hj]
  · simp at hu
theorem C_blkS {W : World} {b : Nat} {t : TypeId} (xs : List ByteArray) (h : Blk W b t (xs.map Value.string).toArray) (hm : xs.length ≤ 1000) : Kd.C Kd.string W (some ⟨b, 0, none⟩) xs.length xs := by
  refine ⟨rfl, by omega, fun _ => ⟨_, rfl, fun j p hj => ⟨[.string p], rfl, rfl, fun i u hu => ?_⟩⟩⟩
  rcases i with _ | i
  · simp only [List.getElem?_cons_zero, Option.some.injEq] at hu
    subst hu
    have := h.cell j
    rw [show (⟨b, 0, none⟩ : Addr).add (j * Kd.string.sz + 0) = ⟨b, j, none⟩ by rw [show Kd.string.sz = 1 from rfl, Nat.mul_one, Nat.add_zero, add_plain]]
    rw [this]
    simp [hj]
  · simp at hu
theorem RowB.lower {w : World} {b b' : Nat} {v : Value} {xs : List Int} (h : RowB w b v xs) (hb : b' ≤ b) : RowB w b' v xs :=
  ⟨h.1, h.2.imp id fun ⟨g, cap, cur, h1, h2, h3⟩ => ⟨g, cap, cur, h1, Nat.le_trans hb h2, h3⟩⟩
theorem C_atO {w : World} {A : Option Addr} {n : Nat} {xs : List S63} (h : Kd.C k63 w A n xs) (k : Nat) (hk : k < xs.length) : ∃ ad, A = some ad ∧ w.cell? (ad.add (k * 4)) = some (.int .i64 xs[k].f0) ∧ w.cell? ⟨(ad.add (k * 4)).block, (ad.add (k * 4)).off + 1, none⟩ = some (.string xs[k].f1) ∧ w.cell? ⟨(ad.add (k * 4)).block, (ad.add (k * 4)).off + 2, none⟩ = some (.string xs[k].f2) ∧ w.cell? ⟨(ad.add (k * 4)).block, (ad.add (k * 4)).off + 3, none⟩ = some (.int .u64 xs[k].f3) := by
  obtain ⟨ad, hA, x0, x1, x2, x3⟩ := at_T63 h (k : Int) (by omega) (by have := h.1; omega)
  have er : rd_T63 xs (k : Int) = xs[k] := by
    unfold rd_T63
    rw [Int.toNat_natCast, List.getD_eq_getElem?_getD, List.getElem?_eq_getElem hk]
    rfl
  rw [er, Int.toNat_natCast] at x0 x1 x2 x3
  exact ⟨ad, hA, x0, x1, x2, x3⟩
end Go.Proofs.YtgmlenpcchhmbaaGreat.P
end
section
set_option linter.unusedVariables false
set_option linter.unusedSimpArgs false
namespace Go.Proofs.YtgmlenpcchhmbaaGreat.P
open Go.RowKit Go.Proofs.YtgmlenpcchhmbaaGreatW.PrintWords Go.Proofs.YtgmlenpcchhmbaaGreatW.PrintLast Go.Proofs.YtgmlenpcchhmbaaGreatW.PrintMore
structure EyeIs (w : World) (g ab : Nat) (xs : List Int) (bl : Bool) : Prop where
  ne : ab ≠ g ∨ xs = []
  old : ab < w.heap.size
  ex : ∃ A c, Blk w g 137 #[.slice A xs.length c, .bool bl] ∧ xs.length ≤ c ∧ Kd.F (Kd.int .u8) w (· = ab) A xs.length xs
theorem F_zero {w : World} {ok : Nat → Prop} (A : Option Addr) : Kd.F (Kd.int .u8) w ok A 0 [] := fun _ _ => ⟨rfl, by decide, fun h => absurd h (by decide)⟩
theorem rep23 : Array.replicate 23 undef = #[undef, undef, undef, undef, undef, undef, undef, undef, undef, undef, undef, undef, undef, undef, undef, undef, undef, undef, undef, undef, undef, undef, undef] := rfl
theorem sight_assert (w : World) : (Instr.typeAssert (.iface 170 (.agg #[])) 20 170 true).run Tryz.prog w = .ok (.tuple #[.agg #[], .bool true]) w := by kernel_rfl
structure Caught (w w' : World) (g bx : Nat) (was : Value) (z : Value) (tX : TypeId) : Prop where
  upd : Upd w w' (fun k => k = g ∨ k = bx)
  eye : Blk w' g 137 #[was, .bool true]
  res : Blk w' bx tX #[z]
section
variable {w w' : World} {g ab : Nat} {xs : List Int} {bl : Bool}
theorem EyeIs.upd {S : Nat → Prop} (h : EyeIs w g ab xs bl) (hu : Upd w w' S) (hg : ¬ S g) (ha : ¬ S ab) : EyeIs w' g ab xs bl := by
  obtain ⟨A, c, hB, hc, hF⟩ := h.ex
  exact ⟨h.ne, Nat.lt_of_lt_of_le h.old hu.size, A, c, hB.upd hu hg, hc, Kd.F_step hF (fun k hk hlt => hu.block k hlt (hk ▸ ha))⟩
theorem EyeIs.below (h : EyeIs w g ab xs bl) (hb : Below w.heap.size w w') : EyeIs w' g ab xs bl := h.upd (Upd.of_below hb (fun _ => False)) (fun h => h) (fun h => h)
theorem EyeIs.lt (h : EyeIs w g ab xs bl) : g < w.heap.size := by obtain ⟨A, c, hB, _⟩ := h.ex; exact hB.lt
def sightP : List PanicEntry := [{ v := .iface 170 (.agg #[]), recovered := false }]
theorem must_true (w : World) : Calls Tryz.prog 98 #[.bool true] w fun e w' => e = .returned (.tuple #[]) ∧ w' = w := by
  go_enter Tryz.func98, Tryz.ntmps98
  go_wp2
  (try simp only [Exit.inBlock, Exit.then]); refine bodyPost_end (results_none rfl _ _ _) rfl ?_
  exact ⟨rfl, rfl⟩
theorem must_false (w : World) : Calls Tryz.prog 98 #[.bool false] w fun e w' => e = .panicked sightP ∧ w' = w := by
  go_enter Tryz.func98, Tryz.ntmps98
  go_wp2
  exact ⟨rfl, rfl, rfl⟩
theorem C_of_int {W : World} {A : Option Addr} {n : Nat} {xs : List Int} (h : ReadsInt W .u8 A n xs) : Kd.C (Kd.int .u8) W A n xs := Kd.C_of_reads (d := (0 : Int)) (readsInt_of.1 h)
theorem reads_F {A : Option Addr} {n : Nat} {ys : List Int} {ok : Nat → Prop} (h : Kd.F (Kd.int .u8) w ok A n ys) : ReadsInt w .u8 A n ys := readsInt_of.2 (Kd.reads_of_C (d := (0 : Int)) (Kd.F_now h))
theorem F_reads {A A' : Option Addr} {n n' : Nat} {ys ys' : List Int} {ok : Nat → Prop} (h : Kd.F (Kd.int .u8) w ok A n ys) (hi : ∀ W, ReadsInt W .u8 A n ys → ReadsInt W .u8 A' n' ys') : Kd.F (Kd.int .u8) w ok A' n' ys' :=
  Kd.F_imp h (fun W hC => C_of_int (hi W (readsInt_of.2 (Kd.reads_of_C (d := (0 : Int)) hC))))
theorem take_done {A : Option Addr} {n c n2 c2 : Nat} (hB : Blk w g 137 #[.slice A xs.length c, .bool bl]) (hne : ab ≠ g ∨ xs = []) (hold : ab < w.heap.size) (hF : Kd.F (Kd.int .u8) w (· = ab) A xs.length xs) (hn : n ≤ xs.length) (hc : xs.length ≤ c) (h2 : n2 = xs.length - n) (hc2 : c2 = c - n) {A2 : Option Addr} (hA2 : A2 = if c = n then A else A.map (·.add n)) :
    Kd.F (Kd.int .u8) (w.setCell ⟨g, 0, none⟩ (.slice A2 n2 c2)) (· = ab) A n (xs.take n) ∧ EyeIs (w.setCell ⟨g, 0, none⟩ (.slice A2 n2 c2)) g ab (xs.drop n) bl ∧ Upd w (w.setCell ⟨g, 0, none⟩ (.slice A2 n2 c2)) (· = g) := by
  have hu : Upd w (w.setCell ⟨g, 0, none⟩ (.slice A2 n2 c2)) (· = g) := (Upd.refl w (· = g)).setCell (p := ⟨g, 0, none⟩) (.inl rfl) _
  have hF' : Kd.F (Kd.int .u8) (w.setCell ⟨g, 0, none⟩ (.slice A2 n2 c2)) (· = ab) A xs.length xs := by
    rcases hne with hne | rfl
    · exact Kd.F_step hF (fun k hk hlt => hu.block k hlt (fun e => hne (hk ▸ e)))
    · exact F_zero A
  have hl : n2 = (xs.drop n).length := by rw [List.length_drop]; exact h2
  refine ⟨F_reads hF' (fun W h => h.take_ n hn), ⟨hne.imp id (fun h => by rw [h, List.drop_nil]), Nat.lt_of_lt_of_le hold hu.size, A2, c2, ?_, by rw [← hl]; omega, ?_⟩, hu⟩
  · have := hB.set_ 0 (.slice A2 n2 c2)
    rw [hl] at this ⊢
    exact this
  · rw [← hl, hA2, h2]
    rw [hA2, h2] at hF'
    exact F_reads hF' (fun W h => h.drop_ n hn hc)
theorem take_short (h : EyeIs w g ab xs bl) (n : Int) (hn : (xs.length : Int) < n) : Calls Tryz.prog 99 #[ptr g, .int .i64 n] w fun e w' => e = .panicked sightP ∧ w' = w := by
  obtain ⟨A, c, hB, hc, hF⟩ := h.ex
  have hc0 : w.cell? ⟨g, 0, none⟩ = some (.slice A xs.length c) := hB.cell 0
  have d1 : decide (n ≤ (xs.length : Int)) = false := decide_eq_false (by omega)
  clear h hB hF
  go_enter Tryz.func99, Tryz.ntmps99
  go_wp2_with fail
  refine (must_false w).mono ?_
  rintro e w1 ⟨rfl, rfl⟩
  go_wp2_with fail
  exact ⟨rfl, rfl, rfl⟩
theorem take_ok (h : EyeIs w g ab xs bl) (n : Nat) (hn : n ≤ xs.length) : Calls Tryz.prog 99 #[ptr g, .int .i64 (n : Int)] w fun e w' => ∃ A1 c1, e = .returned (.slice A1 n c1) ∧ n ≤ c1 ∧ Kd.F (Kd.int .u8) w' (· = ab) A1 n (xs.take n) ∧ EyeIs w' g ab (xs.drop n) bl ∧ Upd w w' (· = g) := by
  obtain ⟨A, c, hB, hc, hF⟩ := h.ex
  have hne := h.ne; have hold := h.old
  have hm := (reads_F hF).2.1
  have hc0 : w.cell? ⟨g, 0, none⟩ = some (.slice A xs.length c) := hB.cell 0
  have hfz := hB.frozen 0
  have d1 : decide ((n : Int) ≤ (xs.length : Int)) = true := decide_eq_true (by omega)
  have hnc : n ≤ c := by omega
  have hu : ∀ v : Value, Upd w (w.setCell ⟨g, 0, none⟩ v) (· = g) := fun v => (Upd.refl w (· = g)).setCell (p := ⟨g, 0, none⟩) (.inl rfl) v
  have HB := Lib.hid hB; have HF := Lib.hid hF; have HU := Lib.hid hu; have HNE := Lib.hid hne; have HC := Lib.hid hc; have HOL := Lib.hid hold
  clear h hB hF hu hne hold
  go_enter Tryz.func99, Tryz.ntmps99
  go_wp2_with fail
  refine (must_true w).mono ?_
  rintro e w1 ⟨rfl, rfl⟩
  by_cases hcn : c = n
  · have hD := take_done (n := n) (n2 := 0) (c2 := 0) HB.out HNE.out HOL.out HF.out hn HC.out (by omega) (by omega) (A2 := A) (by rw [if_pos hcn])
    have HD := Lib.hid hD; clear hD
    subst hcn
    go_wp2
    go_ret
    exact ⟨A, c, rfl, Nat.le_refl _, HD.out⟩
  · have hD := take_done (n := n) (n2 := xs.length - n) (c2 := c - n) HB.out HNE.out HOL.out HF.out hn HC.out rfl rfl (A2 := A.map (·.add n)) (by rw [if_neg hcn])
    have HD := Lib.hid hD; clear hD
    go_wp2
    go_ret
    exact ⟨A, c, rfl, hnc, HD.out⟩
def numOf (xs : List Int) (many : Nat) : Nat := leNum (xs.take many)
theorem number_short (h : EyeIs w g ab xs bl) (n : Nat) (hn : xs.length < n) : Calls Tryz.prog 95 #[ptr g, .int .i64 (n : Int)] w fun e w' => e = .panicked sightP ∧ w' = w := by
  have ht := take_short h (n : Int) (by omega)
  have HT := Lib.hid ht
  clear h ht
  go_enter Tryz.func95, Tryz.ntmps95
  go_wp2_with fail
  refine HT.out.mono ?_
  rintro e w1 ⟨rfl, rfl⟩
  go_wp2_with fail
  exact ⟨rfl, rfl, rfl⟩
def NumA (w1 : World) (ys : List Int) (nv kv : Value) (wr : World) : Prop := ∃ k : Nat, kv = .int .i64 k ∧ k ≤ ys.length ∧ nv = .int .u64 (leNum (ys.take k) : Nat) ∧ wr = w1
theorem number_ok (h : EyeIs w g ab xs bl) (hx : bytesOk xs) (n : Nat) (hn : n ≤ xs.length) (h8 : n ≤ 8) : Calls Tryz.prog 95 #[ptr g, .int .i64 (n : Int)] w fun e w' => e = .returned (.int .u64 (numOf xs n : Nat)) ∧ EyeIs w' g ab (xs.drop n) bl ∧ Upd w w' (· = g) := by
  have ht := take_ok h n hn
  have HT := Lib.hid ht
  clear h ht
  go_enter Tryz.func95, Tryz.ntmps95
  go_wp2_with fail
  refine HT.out.mono ?_
  rintro e w1 ⟨A1, c1, rfl, hc1, hF1, hE1, hu1⟩
  have HR := Lib.hid (reads_F hF1)
  have HE := Lib.hid (And.intro hE1 hu1)
  have hyl : (xs.take n).length = n := by rw [List.length_take]; omega
  have hyb : bytesOk (xs.take n) := fun x hx' => hx x (List.mem_of_mem_take hx')
  obtain ⟨ys, hys⟩ : ∃ ys, xs.take n = ys := ⟨_, rfl⟩
  rw [hys] at HR hyl hyb
  have HYB := Lib.hid hyb
  have HYS := Lib.hid (show numOf xs n = leNum ys by unfold numOf; rw [hys])
  clear hF1 hE1 hu1 hx hys hyb HT;subst hyl
  go_wp2
  go_loopw [4, 5, 6, 11] (fun nv _ _ kv wr => NumA w1 ys nv kv wr) (fun _ _ _ k _ => ys.length - (intOf k).toNat)
  case atStart => exact ⟨0, rfl, Nat.zero_le _, rfl, rfl⟩
  case round =>
    obtain ⟨k, rfl, hk, rfl, hw⟩ := hrel
    replace hw := hw.symm
    subst hw
    by_cases hlt : k < ys.length
    · obtain ⟨ad, hA, hcell⟩ := HR.out.at_ (k : Int) (by omega) (by omega)
      subst hA
      rw [rd_nat ys hlt] at hcell
      simp only [Int.toNat_natCast] at hcell
      have hb := HYB.out ys[k] (List.getElem_mem hlt)
      obtain ⟨b, hbe⟩ : ∃ b : Nat, ys[k] = b := ⟨ys[k].toNat, by omega⟩
      have hsn := leNum_snoc (ys.take k) ys[k]
      rw [← List.take_succ_eq_append_getElem hlt, List.length_take, Nat.min_eq_left (by omega), hbe, Int.toNat_natCast] at hsn
      have hlt2 := leNum_lt (ys.take k) (fun x hx => HYB.out x (List.mem_of_mem_take hx))
      rw [List.length_take, Nat.min_eq_left (by omega)] at hlt2
      have hj := or_join (k := k) (acc := leNum (ys.take k)) (b := b) (by omega) hlt2 (by omega)
      rw [hbe] at hcell
      have HJ := Lib.hid hj; have HSN := Lib.hid hsn
      clear hb hbe hsn hlt2 hj
      go_wp2
      go_roundw
      case rel => exact ⟨k + 1, by go_num, by omega, by rw [HSN.out, HJ.out], rfl⟩
      case measure => simp [intOf]; omega
    · obtain rfl : k = ys.length := by omega
      rw [List.take_length]
      go_wp2
      go_ret
      refine ⟨?_, HE.out⟩
      rw [HYS.out]
      rfl
end
end Go.Proofs.YtgmlenpcchhmbaaGreat.P
end
section
set_option linter.unusedVariables false
set_option linter.unusedSimpArgs false
namespace Go.Proofs.YtgmlenpcchhmbaaGreat.P
open Go.RowKit Go.Proofs.YtgmlenpcchhmbaaGreatW.PrintWords Go.Proofs.YtgmlenpcchhmbaaGreatW.PrintLast Go.Proofs.YtgmlenpcchhmbaaGreatW.PrintMore
section
variable {w : World} {g ab : Nat} {xs xs' : List Int} {A : Option Addr} {n c : Nat} {x : Int} {v0 : Value} {older : List PanicEntry}
theorem seeI_blind (h : EyeIs w g ab xs true) (f : Fn) (fi ca : Array Value) : Calls Tryz.prog 93 #[ptr g, .func f fi ca] w fun e w' => e = .returned (.int .i64 0) ∧ Below w.heap.size w w' := by
  obtain ⟨A, c, hB, hc, hF⟩ := h.ex
  have hc1 : w.cell? ⟨g, 1, none⟩ = some (.bool true) := hB.cell 1
  obtain ⟨w1, hw1⟩ : ∃ w1, (w.alloc (.cells #[ptr g] 80)).alloc (.cells #[.int .i64 0] 2) = w1 := ⟨_, rfl⟩
  have hb1 : Below w.heap.size w w1 := hw1 ▸ ((Below.refl _ _).alloc (Nat.le_refl _) _).alloc (by simp) _
  have h0 : w1.cell? ⟨w.heap.size, 0, none⟩ = some (ptr g) := hw1 ▸ ((Blk.new w 80 #[ptr g]).alloc _).cell 0
  have hx : Blk w1 (w.heap.size + 1) 2 #[.int .i64 0] := by
    have := Blk.new (w.alloc (.cells #[ptr g] 80)) 2 #[.int .i64 0]
    rw [hw1] at this
    simpa using this
  have hx0 : w1.cell? ⟨w.heap.size + 1, 0, none⟩ = some (.int .i64 0) := hx.cell 0
  have hxz := hx.frozen 0
  have hc1' := pw_cell_below hb1 hc1
  have HX := Lib.hid hx
  clear h hB hF hx
  go_enter_defers Tryz.func93, Tryz.ntmps93
  go_wp2
  have hxs : (w1.setCell ⟨w.heap.size + 1, 0, none⟩ (.int .i64 0)).cell? ⟨w.heap.size + 1, 0, none⟩ = some (.int .i64 0) := (HX.out.set_ 0 (.int .i64 0)).cell 0
  simp [bodyPostD, Leaves, results, Tryz.results93, go_sem, hxs]
  exact hb1.setCell (p := ⟨w.heap.size + 1, 0, none⟩) (Nat.le_succ _) _
theorem seeI1_idle (bw bx be : Nat) (w : World) : CallsD Tryz.prog 138 #[ptr bw, ptr bx, ptr be] .returning w fun e u' w' => e = .returned (.tuple #[]) ∧ u' = .returning ∧ w' = w := by
  refine callsD_of_wpS Tryz.func138 rfl fun c₀ cs hu => ?_
  apply wpS_seq
  apply wpS_region
  simp [wpOpsS, go_sem, recoverD, hu, Tryz.ntmps138, Exit.thenS]
  apply wpS_seq
  apply wpS_region
  simp [wpOpsS, go_sem, Exit.thenS]
  refine wpS_cond (t := false) (by simp [Act.eval, Array.replicate]) ?_;simp only [Bool.false_eq_true, if_false];refine wpS_of_wp (wp_skip ?_)
  cases c₀
  simp_all [bodyPostS, results, Tryz.results138]
set_option maxRecDepth 100000 in
theorem seeI1_catch (bw bx be : Nat) (w : World) (hw : w.cell? ⟨bw, 0, none⟩ = some (.slice A n c)) (hx : Blk w bx 2 #[.int .i64 x]) (he : w.cell? ⟨be, 0, none⟩ = some (ptr g)) (hg : Blk w g 137 #[v0, .bool false]) :
    CallsD Tryz.prog 138 #[ptr bw, ptr bx, ptr be] (.panicking ({ v := .iface 170 (.agg #[]), recovered := false } :: older)) w fun e u' w' => e = .returned (.tuple #[]) ∧ u' = .panicking ({ v := .iface 170 (.agg #[]), recovered := true } :: older) ∧ Caught w w' g bx (.slice A n c) (.int .i64 0) 2 := by
  have hgx : g ≠ bx := hg.ne_ hx (by decide)
  refine callsD_of_wpS Tryz.func138 rfl fun c₀ cs hu => ?_
  apply wpS_seq
  apply wpS_region
  simp [wpOpsS, go_sem, recoverD, hu, Tryz.ntmps138, Exit.thenS, rep23]
  apply wpS_seq
  apply wpS_region
  simp [wpOpsS, go_sem, Exit.thenS]
  refine wpS_cond (t := true) (by simp [Act.eval, Array.replicate]) ?_;simp only [if_true];refine wpS_of_wp ?_
  obtain ⟨w1, hw1⟩ : ∃ w1, w.alloc (.cells #[] 170) = w1 := ⟨_, rfl⟩
  have hb1 : Below w.heap.size w w1 := hw1 ▸ (Below.refl _ _).alloc (Nat.le_refl _) _
  have hw' := pw_cell_below hb1 hw
  have he' := pw_cell_below hb1 he
  have hx1 := hx.below hb1 hx.lt
  have hg1 := hg.below hb1 hg.lt
  obtain ⟨w2, hw2⟩ : ∃ w2, w1.setCell ⟨bx, 0, none⟩ (.int .i64 0) = w2 := ⟨_, rfl⟩
  have hu2 : Upd w1 w2 (· = bx) := hw2 ▸ (Upd.refl w1 (· = bx)).setCell (p := ⟨bx, 0, none⟩) (.inl rfl) _
  have hx2 : Blk w2 bx 2 #[.int .i64 0] := hw2 ▸ hx1.set_ 0 (.int .i64 0)
  have hg2 := hg1.upd hu2 hgx
  obtain ⟨w3, hw3⟩ : ∃ w3, w2.setCell ⟨g, 0, none⟩ (.slice A n c) = w3 := ⟨_, rfl⟩
  have hu3 : Upd w2 w3 (· = g) := hw3 ▸ (Upd.refl w2 (· = g)).setCell (p := ⟨g, 0, none⟩) (.inl rfl) _
  have hg3 : Blk w3 g 137 #[.slice A n c, .bool false] := hw3 ▸ hg2.set_ 0 (.slice A n c)
  obtain ⟨w4, hw4⟩ : ∃ w4, w3.setCell ⟨g, 1, none⟩ (.bool true) = w4 := ⟨_, rfl⟩
  have hu4 : Upd w3 w4 (· = g) := hw4 ▸ (Upd.refl w3 (· = g)).setCell (p := ⟨g, 1, none⟩) (.inl rfl) _
  have hg4 : Blk w4 g 137 #[.slice A n c, .bool true] := hw4 ▸ hg3.set_ 1 (.bool true)
  have hx4 := (hx2.upd hu3 hgx.symm).upd hu4 hgx.symm
  have hC : Caught w w4 g bx (.slice A n c) (.int .i64 0) 2 := ⟨(((Upd.of_below hb1 _).trans (hu2.mono fun _ _ h => .inr h)).trans (hu3.mono fun _ _ h => .inl h)).trans (hu4.mono fun _ _ h => .inl h), hg4, hx4⟩
  have HC := Lib.hid hC
  have hxc : w1.cell? ⟨bx, 0, none⟩ = some (.int .i64 x) := hx1.cell 0
  have hxz := hx1.frozen 0
  have hgc : w2.cell? ⟨g, 0, none⟩ = some v0 := hg2.cell 0
  have hgz := hg2.frozen 0
  have hgc3 : w3.cell? ⟨g, 1, none⟩ = some (.bool false) := hg3.cell 1
  have hgz3 := hg3.frozen 1
  have HU := Lib.hid hu
  clear hu hx hg hb1 hw he hx1 hg1 hu2 hx2 hg2 hu3 hg3 hu4 hg4 hx4 hC hgx;have hta := sight_assert
  go_wp2_with fail
  have hu := HU.out
  cases c₀
  simp_all [bodyPostS, results, Tryz.results138]
  exact HC.out
set_option maxRecDepth 100000 in
theorem seeI_ok (h : EyeIs w g ab xs false) (gf : Nat) (caps : Array Value) (eg : ∀ args w, (callFunc gf args).run Tryz.prog w = .ok (.enter gf args) w) (v : Int)
    (hf : ∀ W, EyeIs W g ab xs false → Below w.heap.size w W → Calls Tryz.prog gf caps W fun e w' => e = .returned (.int .i64 v) ∧ EyeIs w' g ab xs' false ∧ Upd W w' (· = g)) :
    Calls Tryz.prog 93 #[ptr g, .func (.func gf) #[] caps] w fun e w' => e = .returned (.int .i64 v) ∧ EyeIs w' g ab xs' false ∧ Upd w w' (· = g) := by
  obtain ⟨A, c, hB, hc, hF⟩ := h.ex
  obtain ⟨w1, hw1⟩ : ∃ w1, (w.alloc (.cells #[ptr g] 80)).alloc (.cells #[.int .i64 0] 2) = w1 := ⟨_, rfl⟩
  have hb1 : Below w.heap.size w w1 := hw1 ▸ ((Below.refl _ _).alloc (Nat.le_refl _) _).alloc (by simp) _
  have h0 : w1.cell? ⟨w.heap.size, 0, none⟩ = some (ptr g) := hw1 ▸ ((Blk.new w 80 #[ptr g]).alloc _).cell 0
  have hx : Blk w1 (w.heap.size + 1) 2 #[.int .i64 0] := by
    have := Blk.new (w.alloc (.cells #[ptr g] 80)) 2 #[.int .i64 0]
    rw [hw1] at this
    simpa using this
  have hB1 := hB.below hb1 hB.lt
  have hc0 : w1.cell? ⟨g, 0, none⟩ = some (.slice A xs.length c) := hB1.cell 0
  have hc1 : w1.cell? ⟨g, 1, none⟩ = some (.bool false) := hB1.cell 1
  obtain ⟨w2, hw2⟩ : ∃ w2, w1.alloc (.cells #[.slice A xs.length c] 23) = w2 := ⟨_, rfl⟩
  have hb2 : Below w.heap.size w w2 := hw2 ▸ hb1.alloc hb1.size _
  have hx2 : Blk w2 (w.heap.size + 1) 2 #[.int .i64 0] := hw2 ▸ hx.alloc _
  have hcl := hf w2 (h.below hb2) hb2
  have hlt := h.lt
  have HCL := Lib.hid hcl; have HX := Lib.hid (And.intro hx2 (And.intro hb2 (And.intro h.old hlt)))
  have hmf : ∀ (fn : Fn) (first cap : Array Value) (w : World), (Instr.makeFunc fn first cap).run Tryz.prog w = .ok (.func fn first cap) w := fun _ _ _ _ => rfl
  clear hB hF hf hx hB1 hcl hx2 hb2 hlt h
  go_enter_defers Tryz.func93, Tryz.ntmps93
  go_wp2_with fail
  refine HCL.out.mono ?_
  rintro e w3 ⟨rfl, hE3, hu3⟩
  have hX3 := HX.out.1.upd hu3 (fun e => by have := HX.out.2.2.2; omega)
  have hx3c : w3.cell? ⟨w.heap.size + 1, 0, none⟩ = some (.int .i64 0) := hX3.cell 0
  have hx3z := hX3.frozen 0
  obtain ⟨w4, hw4⟩ : ∃ w4, w3.setCell ⟨w.heap.size + 1, 0, none⟩ (.int .i64 v) = w4 := ⟨_, rfl⟩
  have hX4 : Blk w4 (w.heap.size + 1) 2 #[.int .i64 v] := hw4 ▸ hX3.set_ 0 (.int .i64 v)
  have hu4 : Upd w3 w4 (· = w.heap.size + 1) := hw4 ▸ (Upd.refl w3 (· = w.heap.size + 1)).setCell (p := ⟨w.heap.size + 1, 0, none⟩) (.inl rfl) _
  have HE := Lib.hid (And.intro hE3 (And.intro hu3 (And.intro hX4 hu4)))
  clear hE3 hu3 hX3 hX4 hu4 HCL
  go_wp2_with fail
  refine leaves_cons (f := 138) (args := #[ptr w1.heap.size, ptr (w.heap.size + 1), ptr w.heap.size]) (by simp) (by simp [go_sem]) ?_;refine (seeI1_idle _ _ _ _).mono ?_
  rintro e u' w'' ⟨rfl, rfl, rfl⟩
  obtain ⟨hE3, hu3, hX4, hu4⟩ := HE.out
  obtain ⟨_, hb2, hold, hlt⟩ := HX.out
  have hxs := hX4.cell 0
  simp at hxs
  have hE4 := hE3.upd hu4 (fun e => by omega) (fun e => by omega)
  simp [Leaves, settle, results, Tryz.results93, go_sem, hxs]
  refine ⟨hE4, ?_⟩
  have hU : Upd w3 w'' (fun k => k = w.heap.size + 1) := hu4
  refine ⟨(hu4.os.trans hu3.os).trans hb2.os, (hu4.tape.trans hu3.tape).trans hb2.tape, (hu4.output.trans hu3.output).trans hb2.output, Nat.le_trans hb2.size (Nat.le_trans hu3.size hu4.size), fun k hk hn => ?_⟩
  have h1 := hb2.block k hk
  have h2 := hu3.block k (Nat.lt_of_lt_of_le hk hb2.size) hn
  have h3 := hu4.block k (Nat.lt_of_lt_of_le hk (Nat.le_trans hb2.size hu3.size)) (by omega)
  exact h3.trans (h2.trans h1)
set_option maxRecDepth 100000 in
theorem seeI_bad (h : EyeIs w g ab xs false) (gf : Nat) (caps : Array Value) (eg : ∀ args w, (callFunc gf args).run Tryz.prog w = .ok (.enter gf args) w)
    (hf : ∀ W, EyeIs W g ab xs false → Below w.heap.size w W → Calls Tryz.prog gf caps W fun e w' => e = .panicked sightP ∧ (∃ v0, Blk w' g 137 #[v0, .bool false]) ∧ Upd W w' (· = g)) :
    Calls Tryz.prog 93 #[ptr g, .func (.func gf) #[] caps] w fun e w' => e = .returned (.int .i64 0) ∧ EyeIs w' g ab xs true ∧ Upd w w' (· = g) := by
  obtain ⟨A, c, hB, hc, hF⟩ := h.ex
  obtain ⟨w1, hw1⟩ : ∃ w1, (w.alloc (.cells #[ptr g] 80)).alloc (.cells #[.int .i64 0] 2) = w1 := ⟨_, rfl⟩
  have hb1 : Below w.heap.size w w1 := hw1 ▸ ((Below.refl _ _).alloc (Nat.le_refl _) _).alloc (by simp) _
  have h0B : Blk w1 w.heap.size 80 #[ptr g] := hw1 ▸ ((Blk.new w 80 #[ptr g]).alloc _)
  have h0 : w1.cell? ⟨w.heap.size, 0, none⟩ = some (ptr g) := h0B.cell 0
  have hx : Blk w1 (w.heap.size + 1) 2 #[.int .i64 0] := by
    have := Blk.new (w.alloc (.cells #[ptr g] 80)) 2 #[.int .i64 0]
    rw [hw1] at this
    simpa using this
  have hs1 : w1.heap.size = w.heap.size + 2 := by rw [← hw1]; simp
  have hB1 := hB.below hb1 hB.lt
  have hc0 : w1.cell? ⟨g, 0, none⟩ = some (.slice A xs.length c) := hB1.cell 0
  have hc1 : w1.cell? ⟨g, 1, none⟩ = some (.bool false) := hB1.cell 1
  obtain ⟨w2, hw2⟩ : ∃ w2, w1.alloc (.cells #[.slice A xs.length c] 23) = w2 := ⟨_, rfl⟩
  have hb2 : Below w.heap.size w w2 := hw2 ▸ hb1.alloc hb1.size _
  have hx2 : Blk w2 (w.heap.size + 1) 2 #[.int .i64 0] := hw2 ▸ hx.alloc _
  have h02 : Blk w2 w.heap.size 80 #[ptr g] := hw2 ▸ h0B.alloc _
  have hw22 : Blk w2 w1.heap.size 23 #[.slice A xs.length c] := hw2 ▸ Blk.new w1 23 _
  have hcl := hf w2 (h.below hb2) hb2
  have hlt := h.lt
  have HCL := Lib.hid hcl; have HX := Lib.hid (And.intro hx2 (And.intro hb2 (And.intro h (And.intro hlt (And.intro h02 (And.intro hw22 hs1))))))
  have hmf : ∀ (fn : Fn) (first cap : Array Value) (w : World), (Instr.makeFunc fn first cap).run Tryz.prog w = .ok (.func fn first cap) w := fun _ _ _ _ => rfl
  have HFC := Lib.hid (And.intro hF hc)
  clear hB hF hf hx hB1 hcl hx2 hb2 hlt h h0B h02 hw22 hs1 hc
  go_enter_defers Tryz.func93, Tryz.ntmps93
  go_wp2_with fail
  refine HCL.out.mono ?_
  rintro e w3 ⟨rfl, ⟨v0, hE3⟩, hu3⟩
  have HE := Lib.hid (And.intro hE3 hu3)
  clear hE3 hu3 HCL
  go_wp2_with fail
  obtain ⟨hE3, hu3⟩ := HE.out
  obtain ⟨hx2, hb2, h, hlt, h02, hw22, hs1⟩ := HX.out
  have hx3 := hx2.upd hu3 (fun e => by omega)
  have h03 := h02.upd hu3 (fun e => by omega)
  have hw3 := hw22.upd hu3 (fun e => by omega)
  refine leaves_cons (f := 138) (args := #[ptr w1.heap.size, ptr (w.heap.size + 1), ptr w.heap.size]) (by simp) (by simp [go_sem]) ?_;refine (seeI1_catch w1.heap.size (w.heap.size + 1) w.heap.size w3 (hw3.cell 0) hx3 (h03.cell 0) hE3).mono ?_
  rintro e u' w4 ⟨rfl, rfl, hC⟩
  have hxs := hC.res.cell 0
  simp at hxs
  simp [Leaves, settle, results, Tryz.results93, go_sem, hxs]
  have hU : Upd w w4 (· = g) := by
    have hu4 := hC.upd
    refine ⟨(hu4.os.trans hu3.os).trans hb2.os, (hu4.tape.trans hu3.tape).trans hb2.tape, (hu4.output.trans hu3.output).trans hb2.output, Nat.le_trans hb2.size (Nat.le_trans hu3.size hu4.size), fun k hk hn => ?_⟩
    have h1 := hb2.block k hk
    have h2 := hu3.block k (Nat.lt_of_lt_of_le hk hb2.size) hn
    have h3 := hu4.block k (Nat.lt_of_lt_of_le hk (Nat.le_trans hb2.size hu3.size)) (by rintro (e | e) <;> omega)
    exact h3.trans (h2.trans h1)
  refine ⟨⟨h.ne, Nat.lt_of_lt_of_le h.old hU.size, A, c, hC.eye, HFC.out.2, ?_⟩, hU⟩
  rcases h.ne with hne | hnil
  · exact Kd.F_step HFC.out.1 (fun k hk hlt => hU.block k hlt (fun e => hne (hk ▸ e)))
  · rw [hnil]; exact F_zero A
end
end Go.Proofs.YtgmlenpcchhmbaaGreat.P
end
section
set_option linter.unusedVariables false
set_option linter.unusedSimpArgs false
namespace Go.Proofs.YtgmlenpcchhmbaaGreat.P
open Go.RowKit Go.Proofs.YtgmlenpcchhmbaaGreatW.PrintWords Go.Proofs.YtgmlenpcchhmbaaGreatW.PrintLast Go.Proofs.YtgmlenpcchhmbaaGreatW.PrintMore
abbrev Sight := List Int × Bool
def sInt (s : Sight) : Int × Sight := if s.2 = true ∨ s.1.length < 8 then (0, (s.1, true)) else (i64 (numOf s.1 8), (s.1.drop 8, false))
theorem sInt_bad {s : Sight} (h : s.2 = true ∨ s.1.length < 8) : sInt s = (0, (s.1, true)) := if_pos h
theorem sInt_ok {xs : List Int} (h : 8 ≤ xs.length) : sInt (xs, false) = (i64 (numOf xs 8), (xs.drop 8, false)) := if_neg (by simp; omega)
theorem bytesOk_drop {xs : List Int} (h : bytesOk xs) (n : Nat) : bytesOk (xs.drop n) := fun x hx => h x (List.mem_of_mem_drop hx)
theorem bytesOk_take {xs : List Int} (h : bytesOk xs) (n : Nat) : bytesOk (xs.take n) := fun x hx => h x (List.mem_of_mem_take hx)
theorem numOf_lt {xs : List Int} (h : bytesOk xs) (n : Nat) : numOf xs n < 256 ^ n := by
  unfold numOf
  refine Nat.lt_of_lt_of_le (leNum_lt _ (bytesOk_take h n)) (Nat.pow_le_pow_right (by decide) ?_)
  rw [List.length_take]; omega
theorem i64_wrap {n : Nat} (h : n < 18446744073709551616) : IntKind.i64.wrap (n : Int) = i64 n := by
  rw [Go.IntWalk.i64_left]
  unfold i64 wrap64
  split <;> omega
section
variable {w : World} {g ab be : Nat} {xs : List Int}
theorem int1_bad (h : EyeIs w g ab xs false) (he : w.cell? ⟨be, 0, none⟩ = some (ptr g)) (hl : xs.length < 8) : Calls Tryz.prog 94 #[ptr be] w fun e w' => e = .panicked sightP ∧ (∃ v0, Blk w' g 137 #[v0, .bool false]) ∧ Upd w w' (· = g) := by
  have hn := number_short h 8 hl
  obtain ⟨A, c, hB, _, _⟩ := h.ex
  have HN := Lib.hid hn; have HB := Lib.hid hB
  clear h hn hB
  go_enter Tryz.func94, Tryz.ntmps94
  go_wp2_with fail
  refine HN.out.mono ?_
  rintro e w1 ⟨rfl, rfl⟩
  go_wp2_with fail
  exact ⟨rfl, rfl, ⟨_, HB.out⟩, Upd.refl _ _⟩
theorem int1_ok (h : EyeIs w g ab xs false) (hx : bytesOk xs) (he : w.cell? ⟨be, 0, none⟩ = some (ptr g)) (hl : 8 ≤ xs.length) : Calls Tryz.prog 94 #[ptr be] w fun e w' => e = .returned (.int .i64 (i64 (numOf xs 8))) ∧ EyeIs w' g ab (xs.drop 8) false ∧ Upd w w' (· = g) := by
  have hn := number_ok h hx 8 hl (by omega)
  have hi := i64_wrap (n := numOf xs 8) (numOf_lt hx 8)
  generalize numOf xs 8 = m at *
  have HN := Lib.hid hn
  clear h hn hx
  go_enter Tryz.func94, Tryz.ntmps94
  go_wp2_with fail
  refine HN.out.mono ?_
  rintro e w1 ⟨rfl, hE, hu⟩
  go_wp2_with fail
  go_ret
  exact ⟨rfl, hE, hu⟩
theorem entersI : ∀ args w, (callFunc 94 args).run Tryz.prog w = .ok (.enter 94 args) w := enters_of Tryz.func94 (by kernel_rfl) rfl
theorem flInt_any (s : Sight) (h : EyeIs w g ab s.1 s.2) (hx : bytesOk s.1) : Calls Tryz.prog 49 #[ptr g] w fun e w' => e = .returned (.int .i64 (sInt s).1) ∧ EyeIs w' g ab (sInt s).2.1 (sInt s).2.2 ∧ Upd w w' (· = g) := by
  obtain ⟨xs, bl⟩ := s
  obtain ⟨w1, hw1⟩ : ∃ w1, w.alloc (.cells #[ptr g] 80) = w1 := ⟨_, rfl⟩
  have hb1 : Below w.heap.size w w1 := hw1 ▸ (Below.refl _ _).alloc (Nat.le_refl _) _
  have h0B : Blk w1 w.heap.size 80 #[ptr g] := hw1 ▸ Blk.new w 80 #[ptr g]
  have h0 : w1.cell? ⟨w.heap.size, 0, none⟩ = some (ptr g) := h0B.cell 0
  have h1 := h.below hb1
  have hlt := h.lt
  have hmf : ∀ (fn : Fn) (first cap : Array Value) (w : World), (Instr.makeFunc fn first cap).run Tryz.prog w = .ok (.func fn first cap) w := fun _ _ _ _ => rfl
  have hs : Calls Tryz.prog 93 #[ptr g, .func (.func 94) #[] #[ptr w.heap.size]] w1 fun e w' => e = .returned (.int .i64 (sInt (xs, bl)).1) ∧ EyeIs w' g ab (sInt (xs, bl)).2.1 (sInt (xs, bl)).2.2 ∧ Upd w1 w' (· = g) := by
    cases bl with
    | true =>
      rw [sInt_bad (.inl rfl)]
      exact (seeI_blind h1 _ _ _).mono fun e w' ⟨he, hb⟩ => ⟨he, h1.below hb, Upd.of_below hb _⟩
    | false =>
      by_cases hl : xs.length < 8
      · rw [sInt_bad (.inr hl)]
        exact seeI_bad h1 94 _ entersI fun W hE hb => int1_bad hE (pw_cell_below (hb) h0) hl
      · rw [sInt_ok (by omega)]
        exact seeI_ok h1 94 _ entersI _ fun W hE hb => int1_ok hE hx (pw_cell_below hb h0) (by omega)
  have HS := Lib.hid hs; have HB := Lib.hid hb1
  clear h h0B h1 hs hb1
  generalize sInt (xs, bl) = r at *
  go_enter Tryz.func49, Tryz.ntmps49
  go_wp2_with fail
  refine HS.out.mono ?_
  rintro e w2 ⟨rfl, hE, hu⟩
  go_wp2_with fail
  go_ret
  exact ⟨rfl, hE, (Upd.of_below HB.out _).trans hu⟩
theorem flDone_any (s : Sight) (h : EyeIs w g ab s.1 s.2) : Calls Tryz.prog 51 #[ptr g] w fun e w' => e = .returned (.int .i64 (if s.2 = true ∨ s.1.length ≠ 0 then 20 else 0)) ∧ w' = w := by
  obtain ⟨xs, bl⟩ := s
  obtain ⟨A, c, hB, _, _⟩ := h.ex
  have hc0 : w.cell? ⟨g, 0, none⟩ = some (.slice A xs.length c) := hB.cell 0
  have hc1 : w.cell? ⟨g, 1, none⟩ = some (.bool bl) := hB.cell 1
  clear h hB
  go_enter Tryz.func51, Tryz.ntmps51
  cases bl with
  | true =>
    rw [if_pos (.inl rfl)]
    go_wp2
    go_ret
    exact ⟨rfl, rfl⟩
  | false =>
    by_cases hl : xs.length = 0
    · rw [if_neg (by simp [hl])]
      have d1 : decide ((0 : Int) < (xs.length : Int)) = false := decide_eq_false (by omega)
      go_wp2
      go_ret
      exact ⟨rfl, rfl⟩
    · rw [if_pos (.inr hl)]
      have d1 : decide ((0 : Int) < (xs.length : Int)) = true := decide_eq_true (by omega)
      go_wp2
      go_ret
      exact ⟨rfl, rfl⟩
theorem flOpen_any (A : Option Addr) (c : Nat) (xs : List Int) (w : World) (hr : ReadsInt w .u8 A xs.length xs) (hb : xs.length * 1 ≤ 140737488355328) :
    Calls Tryz.prog 48 #[.slice A xs.length c] w fun e w' => ∃ g ab, e = .returned (ptr g) ∧ w.heap.size ≤ g ∧ w.heap.size ≤ ab ∧ EyeIs w' g ab xs false ∧ Below w.heap.size w w' := by
  have hcl := bclone_any A c xs w hr hb
  have HCL := Lib.hid hcl
  clear hr hb hcl
  go_enter Tryz.func48, Tryz.ntmps48
  go_wp2_with fail
  refine HCL.out.mono ?_
  rintro e w1 ⟨v, rfl, ho, hb1⟩
  have HO := Lib.hid (And.intro ho hb1)
  obtain ⟨A1, c1, rfl, _⟩ := own_reads ho
  clear ho hb1 HCL
  go_wp2_with fail
  go_ret
  obtain ⟨ho, hb1⟩ := HO.out
  obtain ⟨w2, hw2⟩ : ∃ w2, w1.alloc (.cells #[.slice A1 xs.length c1, .bool false] 137) = w2 := ⟨_, rfl⟩
  rw [hw2]
  have hb2 : Below w1.heap.size w1 w2 := hw2 ▸ (Below.refl _ _).alloc (Nat.le_refl _) _
  have hB2 : Blk w2 w1.heap.size 137 #[.slice A1 xs.length c1, .bool false] := hw2 ▸ Blk.new w1 137 _
  have hE : ∃ ab, w.heap.size ≤ ab ∧ EyeIs w2 w1.heap.size ab xs false := by
    obtain ⟨A0, c0, e0, hrd⟩ := own_reads ho
    injection e0 with e1 e2 e3
    subst e1 e3
    by_cases hx : xs = []
    · subst hx
      refine ⟨w1.heap.size, hb1.size, .inr rfl, hB2.lt, A1, c1, hB2, by simp, F_zero _⟩
    · have hcc : xs.length ≤ c1 := by
        obtain ⟨_, h⟩ := ho
        rcases h with ⟨e, hn⟩ | ⟨g', cap, cur, e, h1, h2, h3, _⟩
        · exact absurd (List.eq_nil_of_length_eq_zero hn) hx
        · injection e with _ _ e; omega
      obtain ⟨ad, hA, hcell⟩ := hrd.2.2 (by have := List.length_pos_iff.2 hx; omega)
      subst hA
      have hlt : ad.block < w1.heap.size := by
        have := hcell 0 (List.length_pos_iff.2 hx)
        exact World.block_lt_of_cell? w1 _ this
      refine ⟨ad.block, (ho.ge ad.block rfl).1, .inl (by omega), Nat.lt_of_lt_of_le hlt hb2.size, some ad, c1, hB2, hcc, ?_⟩
      intro W hW
      refine C_of_int ⟨hrd.1, hrd.2.1, fun hn => ⟨ad, rfl, fun j hj => ?_⟩⟩
      have hj' := (hrd.below hb2).2.2 hn
      obtain ⟨ad', e, h⟩ := hj'
      injection e with e
      subst e
      have hc := h j hj
      have hbl : (ad.add j).block = ad.block := by unfold Addr.add; split <;> rfl
      exact (World.cell?_of_block (w := w2) (hW _ hbl (World.block_lt_of_cell? w2 _ hc))).trans hc
  obtain ⟨ab, hab, hE⟩ := hE
  exact ⟨w1.heap.size, ab, rfl, hb1.size, hab, hE, hb1.trans (hb2.mono hb1.size)⟩
end
end Go.Proofs.YtgmlenpcchhmbaaGreat.P
end
