/- what the claim's row stands on, part 7. -/
import Derived.Test.YtaedlmeaconflaaGreatZc2
import Derived.Test.YtaedlmeaconflaaGreatZc6
import Derived.Test.YtaedlmeaconflaaGreatZc5
section
set_option linter.unusedVariables false
set_option linter.unusedSimpArgs false
namespace Go.Proofs.YtaedlmeaconflaaGreat.P
open Go.RowKit Go.Proofs.YtaedlmeaconflaaGreatW.PrintWords Go.Proofs.YtaedlmeaconflaaGreatW.PrintLast Go.Proofs.YtaedlmeaconflaaGreatW.PrintMore
attribute [local go_sem] max2_int min2_int max_two min_two max_three min_three max_four min_four   -- for this text's walks alone
set_option linter.unusedVariables false
set_option linter.unusedSimpArgs false
mutual
def deps_Check.l0 : Nat → List (S26) → Int → List (S26) → Int → Int → Option (Int)
 | 0, _, _, _, _, _ => none
 | k + 1, x0, x3, x11, x12, x13 => if x13 < x12 then (if 0 ≤ x13 then (if x13 < (x11.length : Int) then (deps_Check.l0 k x0 (wrap64 (x3 + (((rd_T26 x11 x13).f1).length : Int))) x11 x12 (wrap64 (x13 + 1))) else (none)) else (none)) else (if (x0.length : Int) > 8 then (deps_Check.j1 k x0 true) else (deps_Check.j1 k x0 (decide (x3 > 512))))
def deps_Check.j1 : Nat → List (S26) → Bool → Option (Int)
 | 0, _, _ => none
 | k + 1, x0, x29 => if x29 = true then (some 6) else (deps_Check.l1 k (-1) x0 (x0.length : Int) 0)
def deps_Check.l1 : Nat → Int → List (S26) → Int → Int → Option (Int)
 | 0, _, _, _, _ => none
 | k + 1, x6, x30, x31, x32 => if x32 < x31 then (if 0 ≤ x32 then (if x32 < (x30.length : Int) then (if ((rd_T26 x30 x32).f0) ≤ x6 then (deps_Check.j3 k x30 x31 x32 true ((rd_T26 x30 x32).f0) ((rd_T26 x30 x32).f1)) else (deps_Check.j3 k x30 x31 x32 (decide (((rd_T26 x30 x32).f0) ≥ 8)) ((rd_T26 x30 x32).f0) ((rd_T26 x30 x32).f1))) else (none)) else (none)) else (some 0)
def deps_Check.j3 : Nat → List (S26) → Int → Int → Bool → Int → List (S41) → Option (Int)
 | 0, _, _, _, _, _, _ => none
 | k + 1, x30, x31, x32, x44, x120000, x120001 => if x44 = true then (some 60) else (deps_Check.l2 k x120000 x30 x31 x32 x120001 (x120001.length : Int) 0 x120000 x120001)
def deps_Check.l2 : Nat → Int → List (S26) → Int → Int → List (S41) → Int → Int → Int → List (S41) → Option (Int)
 | 0, _, _, _, _, _, _, _, _, _ => none
 | k + 1, x6, x30, x31, x32, x48, x49, x50, x120000, x120001 => if x50 < x49 then (if 0 ≤ x50 then (if x50 < (x48.length : Int) then ((stamp_Check.f ((rd_T41 x48 x50).f0) ((rd_T41 x48 x50).f1)).bind fun t122 => (if t122 = 0 then (if x50 > 0 then (if 0 ≤ (wrap64 (x50 - 1)) then (if (wrap64 (x50 - 1)) < (x120001.length : Int) then ((stamp_Compare.f k ((rd_T41 x120001 (wrap64 (x50 - 1))).f0) ((rd_T41 x120001 (wrap64 (x50 - 1))).f1) ((rd_T41 x48 x50).f0) ((rd_T41 x48 x50).f1)).bind fun t124 => (if t124 ≥ 0 then (some 60) else (deps_Check.l2 k x6 x30 x31 x32 x48 x49 (wrap64 (x50 + 1)) x120000 x120001))) else (none)) else (none)) else (deps_Check.l2 k x6 x30 x31 x32 x48 x49 (wrap64 (x50 + 1)) x120000 x120001)) else (some 60))) else (none)) else (none)) else (deps_Check.l1 k x6 x30 x31 (wrap64 (x32 + 1)))
end
def deps_Check.f (k : Nat) (l0 : List (S26)) : Option (Int) := deps_Check.l0 k l0 0 l0 (l0.length : Int) 0
def deps_Check.T19 : Bool × List (List Nat × List Nat) := (true, [([], []), ([0], [0]), ([1], [1]), ([2, 1], [2]), ([3], [3]), ([4, 3], [3, 4]), ([5, 3, 3], [3, 5]), ([6], [6]), ([7, 6], [6, 7]), ([6], [6]), ([9, 6], [6, 9]), ([8, 10, 6], [6, 8, 10]), ([11, 6], [6, 11]), ([6], [6]), ([12, 13, 6, 6], [6, 12, 13]), ([14, 6], [6, 14]), ([6, 15, 3], [3, 6, 15]), ([3, 16], [3, 16])])
def deps_Check.B19 : List Nat := [0, 1, 3, 7, 15, 31, 63, 127, 255, 127, 639, 2047, 4095, 127, 16383, 32767, 65535, 131071]
theorem deps_Check.tab19 : rtab .any (opsOf Tryz.f12 19) = deps_Check.T19 := by kernel_rfl
theorem deps_Check.bits19 : waitsOk deps_Check.T19.2 deps_Check.B19 = true := by kernel_rfl
set_option maxHeartbeats 8000000 in
set_option maxRecDepth 100000 in
theorem deps_Check.calls (k : Nat) (A0 : Option Addr) (c0 : Nat) (l0 : List (S26)) (r : Int) (w : World) (hr0 : Kd.C k26 w A0 l0.length l0) (hc0 : l0.length ≤ c0) (h : deps_Check.f k l0 = some r) :
  Calls Tryz.prog 12 #[.slice A0 l0.length c0] w fun e w' => e = .returned (.int .i64 r) ∧ Below w.heap.size w w' := by
 have hu26 := Tryz.underlying26;have hu41 := Tryz.underlying41
 have HR0 := Aside0.mk hr0
 have HC0 := Aside0.mk hc0
 clear hr0 hc0
 have HB := Aside0.mk (Below.refl w.heap.size w)
 have H : (deps_Check.l0 k l0 0 l0 (l0.length : Int) 0) = some r := h
 clear h
 have H' := Aside0.mk H
 clear H
 go_enter Tryz.func12, Tryz.ntmps12
 go_wp2
 go_loopg [3, 13] k (fun kq v3 v13 w' => ∃ (x3_1 : Int) (x13_1 : Int), v3 = .int .i64 x3_1 ∧ v13 = .int .i64 x13_1 ∧ Aside0 (deps_Check.l0 kq l0 x3_1 l0 (l0.length : Int) x13_1 = some r) ∧ Aside0 (kq ≤ k) ∧ Aside0 (Below w.heap.size w w'))
 case atStart => exact ⟨(0), (0), (by first | rfl | (simp; done) | (simp [*]; done)), (by first | rfl | (simp; done) | (simp [*]; done)), H', ⟨Nat.le_refl _⟩, ⟨by repeat (first | (with_reducible first | exact HB.out | apply below_alloc | apply pw_below_drewN | apply below_drew1) | exact HB.out)⟩⟩
 case round =>
  clear H'
  try clear c1
  obtain ⟨x3_1, x13_1, rfl, rfl, HA, HK1, HB⟩ := hrel
  cases gk with
  | zero => exact absurd HA.out (by simp [deps_Check.l0])
  | succ k1 =>
   have H := HA.out;clear HA
   simp only [deps_Check.l0] at H
   by_cases c2 : x13_1 < (l0.length : Int)
   ·rw [if_pos c2] at H
    have c2b0 : decide (x13_1 < (l0.length : Int)) = true := decide_eq_true c2
    clear c2
    by_cases c3 : 0 ≤ x13_1
    ·rw [if_pos c3] at H
     have c3b0 : decide (0 ≤ x13_1) = true := decide_eq_true c3
     clear c3
     by_cases c4 : x13_1 < (l0.length : Int)
     ·rw [if_pos c4] at H
      have c4b0 : decide (x13_1 < (l0.length : Int)) = true := decide_eq_true c4
      clear c4
      have H' := Aside0.mk H
      clear H
      have p116 : 0 ≤ (x13_1 : Int) := of_decide_eq_true (by first | (with_reducible assumption) | assumption)
      have q116 : x13_1 < (l0.length : Int) := of_decide_eq_true (by first | (with_reducible assumption) | assumption)
      obtain ⟨ad116, A116_1, c116_1, e116, hx116_0, hx116_1, hl116_1, hi116_1⟩ := at_T26 HR0.out x13_1 p116 q116
      cases e116
      replace hx116_0 := (HB.out.cell (World.block_lt_of_cell? w _ hx116_0)).trans hx116_0
      replace hx116_1 := (HB.out.cell (World.block_lt_of_cell? w _ hx116_1)).trans hx116_1
      have HR116_1 := Aside0.mk hi116_1
      have HC116_1 := Aside0.mk hl116_1
      clear hi116_1 hl116_1
      replace p116 := eq_true p116
      replace q116 := eq_true q116
      go_wp2_with (first | ((with_reducible refine gate_dst (N := 5) rfl ?_); refine box_event ?hg (N := 5) ?hd (cs := #[.int .i64 0, .slice none 0 0]) (t := 26) ?hr ?_; (case hd => rfl); (case hg => rfl); (case hr => first | (go_simp; done) | (go_simp; rfl)); intro gb117 hg w5 hbox hb; have n0_ := Aside0.mk (below_step (by repeat (first | (with_reducible first | exact HB.out | apply below_alloc | apply pw_below_drewN | apply below_drew1) | exact HB.out)) hb); have n1_ := Aside0.mk (hbox); have n2_ := Aside0.mk ((by rw [hg]; exact (below_size (by repeat (first | (with_reducible first | exact HB.out | apply below_alloc | apply pw_below_drewN | apply below_drew1) | exact HB.out))) : w.heap.size ≤ gb117)); have n3_ := Aside0.mk ((by rw [hg]; exact (below_size (by repeat (first | (with_reducible first | exact HB.out | apply below_alloc | apply pw_below_drewN | apply below_drew1) | exact HB.out))) : w.heap.size ≤ gb117)); clear HB; have HB := n0_; have BK117 := n1_; have GW117 := n2_; have GE117 := n3_; clear n0_ n1_ n2_ n3_; clear hb hbox hg; have hcz6_0 : w5.cell? ⟨gb117, 0, none⟩ = some (.int .i64 0) := (blk_cell BK117.out 0).trans rfl; have hcz6_1 : w5.cell? ⟨gb117, 1, none⟩ = some (.slice none 0 0) := (blk_cell BK117.out 1).trans rfl; have hfz6_0 := blk_frozen BK117.out 0; have hfz6_1 := blk_frozen BK117.out 1))
      go_roundg k1
      case measure => have := HK1.out; omega
      case rel => exact ⟨(wrap64 (x3_1 + (((rd_T26 l0 x13_1).f1).length : Int))), (wrap64 (x13_1 + 1)), (by first | rfl | (simp; done) | (simp [*]; done)), (by first | rfl | (simp; done) | (simp [*]; done)), H', ⟨by have := HK1.out; omega⟩, ⟨by repeat (first | (with_reducible first | exact HB.out | apply below_alloc | apply pw_below_drewN | apply below_drew1 | refine below_set ?_ GE117.out) | exact HB.out)⟩⟩
     ·rw [if_neg c4] at H
      exact absurd H (by simp)
    ·rw [if_neg c3] at H
     exact absurd H (by simp)
   ·rw [if_neg c2] at H
    have c2b0 : decide (x13_1 < (l0.length : Int)) = false := decide_eq_false c2
    clear c2
    have HC7 := Aside0.mk H
    clear H
    go_upto_region 7 with (fail)
    go_cut [29] (fun v29 wc => ∃ (kq : Nat) (x29_6 : Bool), v29 = .bool x29_6 ∧ Aside0 (deps_Check.j1 kq l0 x29_6 = some r) ∧ Aside0 (kq ≤ k1) ∧ Aside0 (Below w.heap.size w wc))
    case first =>
     have H := HC7.out;clear HC7
     by_cases c8 : (l0.length : Int) > 8
     ·rw [if_pos c8] at H
      have c8b0 : decide (8 < (l0.length : Int)) = true := decide_eq_true c8
      have c8b1 : decide (8 < l0.length) = true := decide_eq_true (by omega)
      clear c8
      (first | rw [c8b0] | (simp only [i64_w, i32_w]; rw [c8b0]) | skip)
      have H' := Aside0.mk H
      clear H
      go_wp2
      go_meet
      case rel => exact ⟨_, (true), (by first | rfl | (simp; done) | (simp [*]; done)), H', ⟨by have := HK1.out; first | omega | exact Nat.le_refl _⟩, ⟨by repeat (first | (with_reducible first | exact HB.out | apply below_alloc | apply pw_below_drewN | apply below_drew1) | exact HB.out)⟩⟩
     ·rw [if_neg c8] at H
      have c8b0 : decide (8 < (l0.length : Int)) = false := decide_eq_false c8
      have c8b1 : decide (8 < l0.length) = false := decide_eq_false (by omega)
      clear c8
      (first | rw [c8b0] | (simp only [i64_w, i32_w]; rw [c8b0]) | skip)
      have H' := Aside0.mk H
      clear H
      go_wp2
      go_meet
      case rel => exact ⟨_, (decide (x3_1 > 512)), (by first | rfl | (simp; done) | (simp [*]; done)), H', ⟨by have := HK1.out; first | omega | exact Nat.le_refl _⟩, ⟨by repeat (first | (with_reducible first | exact HB.out | apply below_alloc | apply pw_below_drewN | apply below_drew1) | exact HB.out)⟩⟩
    case rest =>
     clear HC7
     try clear c1
     try clear p1
     try clear q1
     try clear hx1
     try clear c2
     try clear c2b0
     try clear p2
     try clear c3
     try clear c3b0
     try clear c4
     try clear c4b0
     try clear p6
     try clear c8
     try clear c8b0
     try clear c8b1
     try clear hcz6_0
     try clear hcz6_1
     try clear hfz6_0
     try clear hfz6_1
     try clear hx116_0
     try clear hx116_1
     try clear p116
     try clear q116
     obtain ⟨kq, x29_6, rfl, HA, HJ6, HB⟩ := hcut
     cases kq with
     | zero => exact absurd HA.out (by simp [deps_Check.j1])
     | succ kj6 =>
      have H := HA.out;clear HA
      simp only [deps_Check.j1] at H
      by_cases c9 : x29_6 = true
      ·subst c9
       have H1 : (some 6) = some r := by rw [if_pos rfl] at H; exact H
       clear H;have H := H1;clear H1;obtain rfl := Option.some.inj H
       go_wp2
       go_ret
       exact ⟨by first | rfl | (simp [errW_none, errW_some] <;> rfl) | (simp [*, errW_none, errW_some] <;> rfl), by repeat (first | (with_reducible first | exact HB.out | apply below_alloc | apply pw_below_drewN | apply below_drew1) | exact HB.out)⟩
      ·replace c9 := Bool.eq_false_iff.mpr c9
       subst c9
       have H1 : (deps_Check.l1 kj6 (-1) l0 (l0.length : Int) 0) = some r := by rw [if_neg (show ¬ (false = true) by decide)] at H; exact H
       clear H;have H := H1;clear H1
       have H' := Aside0.mk H
       clear H
       go_wp2
       go_loopg [6, 32] kj6 (fun kq v6 v32 w' => ∃ (x6_3 : Int) (x32_3 : Int), v6 = .int .i64 x6_3 ∧ v32 = .int .i64 x32_3 ∧ Aside0 (deps_Check.l1 kq x6_3 l0 (l0.length : Int) x32_3 = some r) ∧ Aside0 (kq ≤ kj6) ∧ Aside0 (Below w.heap.size w w'))
       case atStart => exact ⟨((-1)), (0), (by first | rfl | (simp; done) | (simp [*]; done)), (by first | rfl | (simp; done) | (simp [*]; done)), H', ⟨Nat.le_refl _⟩, ⟨by repeat (first | (with_reducible first | exact HB.out | apply below_alloc | apply pw_below_drewN | apply below_drew1) | exact HB.out)⟩⟩
       case round =>
        clear H'
        try clear c1
        try clear p1
        try clear q1
        try clear hx1
        try clear c2
        try clear c2b0
        try clear p2
        try clear c3
        try clear c3b0
        try clear c4
        try clear c4b0
        try clear p6
        try clear c8
        try clear c8b0
        try clear c8b1
        try clear c9
        try clear hcz6_0
        try clear hcz6_1
        try clear hfz6_0
        try clear hfz6_1
        try clear hx116_0
        try clear hx116_1
        try clear p1
        try clear p116
        try clear p2
        try clear p6
        try clear q1
        try clear q116
        obtain ⟨x6_3, x32_3, rfl, rfl, HA, HK3, HB⟩ := hrel
        cases gk with
        | zero => exact absurd HA.out (by simp [deps_Check.l1])
        | succ k3 =>
         have H := HA.out;clear HA
         simp only [deps_Check.l1] at H
         by_cases c10 : x32_3 < (l0.length : Int)
         ·rw [if_pos c10] at H
          have c10b0 : decide (x32_3 < (l0.length : Int)) = true := decide_eq_true c10
          clear c10
          by_cases c11 : 0 ≤ x32_3
          ·rw [if_pos c11] at H
           have c11b0 : decide (0 ≤ x32_3) = true := decide_eq_true c11
           clear c11
           by_cases c12 : x32_3 < (l0.length : Int)
           ·rw [if_pos c12] at H
            have c12b0 : decide (x32_3 < (l0.length : Int)) = true := decide_eq_true c12
            clear c12
            have HC13 := Aside0.mk H
            clear H
            have p118 : 0 ≤ (x32_3 : Int) := of_decide_eq_true (by first | (with_reducible assumption) | assumption)
            have q118 : x32_3 < (l0.length : Int) := of_decide_eq_true (by first | (with_reducible assumption) | assumption)
            obtain ⟨ad118, A118_1, c118_1, e118, hx118_0, hx118_1, hl118_1, hi118_1⟩ := at_T26 HR0.out x32_3 p118 q118
            cases e118
            replace hx118_0 := (HB.out.cell (World.block_lt_of_cell? w _ hx118_0)).trans hx118_0
            replace hx118_1 := (HB.out.cell (World.block_lt_of_cell? w _ hx118_1)).trans hx118_1
            have HR118_1 := Aside0.mk hi118_1
            have HC118_1 := Aside0.mk hl118_1
            clear hi118_1 hl118_1
            replace p118 := eq_true p118
            replace q118 := eq_true q118
            go_upto_region 13 with (first | ((with_reducible refine gate_dst (N := 8) rfl ?_); refine box_event ?hg (N := 8) ?hd (cs := #[.int .i64 0, .slice none 0 0]) (t := 26) ?hr ?_; (case hd => rfl); (case hg => rfl); (case hr => first | (go_simp; done) | (go_simp; rfl)); intro gb119 hg w14 hbox hb; have n0_ := Aside0.mk (below_step (by repeat (first | (with_reducible first | exact HB.out | apply below_alloc | apply pw_below_drewN | apply below_drew1) | exact HB.out)) hb); have n1_ := Aside0.mk (hbox); have n2_ := Aside0.mk ((by rw [hg]; exact (below_size (by repeat (first | (with_reducible first | exact HB.out | apply below_alloc | apply pw_below_drewN | apply below_drew1) | exact HB.out))) : w.heap.size ≤ gb119)); have n3_ := Aside0.mk ((by rw [hg]; exact (below_size (by repeat (first | (with_reducible first | exact HB.out | apply below_alloc | apply pw_below_drewN | apply below_drew1) | exact HB.out))) : w.heap.size ≤ gb119)); clear HB; have HB := n0_; have BK119 := n1_; have GW119 := n2_; have GE119 := n3_; clear n0_ n1_ n2_ n3_; clear hb hbox hg; have hcz15_0 : w14.cell? ⟨gb119, 0, none⟩ = some (.int .i64 0) := (blk_cell BK119.out 0).trans rfl; have hcz15_1 : w14.cell? ⟨gb119, 1, none⟩ = some (.slice none 0 0) := (blk_cell BK119.out 1).trans rfl; have hfz15_0 := blk_frozen BK119.out 0; have hfz15_1 := blk_frozen BK119.out 1))
            (try simp only [Act.put, List.setIfInBounds_toArray, List.set_cons_zero, List.set_cons_succ])
            go_cut [44] (fun v44 wc => ∃ (kq : Nat) (x44_12 : Bool), v44 = .bool x44_12 ∧ Aside0 (deps_Check.j3 kq l0 (l0.length : Int) x32_3 x44_12 ((rd_T26 l0 x32_3).f0) ((rd_T26 l0 x32_3).f1) = some r) ∧ Aside0 (kq ≤ k3) ∧ Aside0 (wc.heap[gb119]? = some (.cells #[.int .i64 ((rd_T26 l0 x32_3).f0), (.slice A118_1 ((rd_T26 l0 x32_3).f1).length c118_1)] 26 (0, 0))) ∧ Aside0 (Below w.heap.size w wc))
            case first =>
             have H := HC13.out;clear HC13
             by_cases c16 : ((rd_T26 l0 x32_3).f0) ≤ x6_3
             ·rw [if_pos c16] at H
              have c16b0 : decide (((rd_T26 l0 x32_3).f0) ≤ x6_3) = true := decide_eq_true c16
              clear c16
              (first | rw [c16b0] | (simp only [i64_w, i32_w]; rw [c16b0]) | skip)
              have H' := Aside0.mk H
              clear H
              have hcz17_0 : w14.cell? ⟨gb119, 0, none⟩ = some (.int .i64 0) := (blk_cell BK119.out 0).trans rfl
              have hcz17_1 : w14.cell? ⟨gb119, 1, none⟩ = some (.slice none 0 0) := (blk_cell BK119.out 1).trans rfl
              have hfz17_0 := blk_frozen BK119.out 0
              have hfz17_1 := blk_frozen BK119.out 1
              go_wp2
              go_meet
              case rel => exact ⟨_, (true), (by first | rfl | (simp; done) | (simp [*]; done)), H', ⟨by have := HK1.out; have := HJ6.out; have := HK3.out; first | omega | exact Nat.le_refl _⟩, ⟨by (with_reducible repeat (first | refine blk_drewN ?_ _ | refine blk_drew ?_ | refine blk_alloc ?_ _)); refine blk_put (cs := #[.int .i64 ((rd_T26 l0 x32_3).f0), .slice none 0 0]) ?_ 1 _ rfl; (with_reducible repeat (first | refine blk_drewN ?_ _ | refine blk_drew ?_ | refine blk_alloc ?_ _)); refine blk_put (cs := #[.int .i64 0, .slice none 0 0]) ?_ 0 _ rfl; (with_reducible repeat (first | refine blk_drewN ?_ _ | refine blk_drew ?_ | refine blk_alloc ?_ _)); exact BK119.out⟩, ⟨by repeat (first | (with_reducible first | exact HB.out | apply below_alloc | apply pw_below_drewN | apply below_drew1 | refine below_set ?_ GE119.out) | exact HB.out)⟩⟩
             ·rw [if_neg c16] at H
              have c16b0 : decide (((rd_T26 l0 x32_3).f0) ≤ x6_3) = false := decide_eq_false c16
              clear c16
              (first | rw [c16b0] | (simp only [i64_w, i32_w]; rw [c16b0]) | skip)
              have H' := Aside0.mk H
              clear H
              have hcz18_0 : w14.cell? ⟨gb119, 0, none⟩ = some (.int .i64 0) := (blk_cell BK119.out 0).trans rfl
              have hcz18_1 : w14.cell? ⟨gb119, 1, none⟩ = some (.slice none 0 0) := (blk_cell BK119.out 1).trans rfl
              have hfz18_0 := blk_frozen BK119.out 0
              have hfz18_1 := blk_frozen BK119.out 1
              go_wp2
              go_meet
              case rel => exact ⟨_, (decide (((rd_T26 l0 x32_3).f0) ≥ 8)), (by first | rfl | (simp; done) | (simp [*]; done)), H', ⟨by have := HK1.out; have := HJ6.out; have := HK3.out; first | omega | exact Nat.le_refl _⟩, ⟨by (with_reducible repeat (first | refine blk_drewN ?_ _ | refine blk_drew ?_ | refine blk_alloc ?_ _)); refine blk_put (cs := #[.int .i64 ((rd_T26 l0 x32_3).f0), .slice none 0 0]) ?_ 1 _ rfl; (with_reducible repeat (first | refine blk_drewN ?_ _ | refine blk_drew ?_ | refine blk_alloc ?_ _)); refine blk_put (cs := #[.int .i64 0, .slice none 0 0]) ?_ 0 _ rfl; (with_reducible repeat (first | refine blk_drewN ?_ _ | refine blk_drew ?_ | refine blk_alloc ?_ _)); exact BK119.out⟩, ⟨by repeat (first | (with_reducible first | exact HB.out | apply below_alloc | apply pw_below_drewN | apply below_drew1 | refine below_set ?_ GE119.out) | exact HB.out)⟩⟩
            case rest =>
             clear HC13
             try clear c1
             try clear p1
             try clear q1
             try clear hx1
             try clear c2
             try clear c2b0
             try clear p2
             try clear c3
             try clear c3b0
             try clear c4
             try clear c4b0
             try clear p6
             try clear c8
             try clear c8b0
             try clear c8b1
             try clear c9
             try clear c10
             try clear c10b0
             try clear c11
             try clear c11b0
             try clear p11
             try clear q11
             try clear hx11
             try clear c12
             try clear c12b0
             try clear c16
             try clear c16b0
             try clear hcz15_0
             try clear hcz15_1
             try clear hcz17_0
             try clear hcz17_1
             try clear hcz18_0
             try clear hcz18_1
             try clear hcz6_0
             try clear hcz6_1
             try clear hfz15_0
             try clear hfz15_1
             try clear hfz17_0
             try clear hfz17_1
             try clear hfz18_0
             try clear hfz18_1
             try clear hfz6_0
             try clear hfz6_1
             try clear hx116_0
             try clear hx116_1
             try clear hx118_0
             try clear hx118_1
             try clear p1
             try clear p116
             try clear p118
             try clear p2
             try clear p6
             try clear q1
             try clear q116
             try clear q118
             obtain ⟨kq, x44_12, rfl, HA, HJ12, BK119, HB⟩ := hcut
             cases kq with
             | zero => exact absurd HA.out (by simp [deps_Check.j3])
             | succ kj12 =>
              have H := HA.out;clear HA
              simp only [deps_Check.j3] at H
              by_cases c19 : x44_12 = true
              ·subst c19
               have H1 : (some 60) = some r := by rw [if_pos rfl] at H; exact H
               clear H;have H := H1;clear H1;obtain rfl := Option.some.inj H
               go_wp2
               go_ret
               exact ⟨by first | rfl | (simp [errW_none, errW_some] <;> rfl) | (simp [*, errW_none, errW_some] <;> rfl), by repeat (first | (with_reducible first | exact HB.out | apply below_alloc | apply pw_below_drewN | apply below_drew1 | refine below_set ?_ GE119.out) | exact HB.out)⟩
              ·replace c19 := Bool.eq_false_iff.mpr c19
               subst c19
               have H1 : (deps_Check.l2 kj12 ((rd_T26 l0 x32_3).f0) l0 (l0.length : Int) x32_3 ((rd_T26 l0 x32_3).f1) (((rd_T26 l0 x32_3).f1).length : Int) 0 ((rd_T26 l0 x32_3).f0) ((rd_T26 l0 x32_3).f1)) = some r := by rw [if_neg (show ¬ (false = true) by decide)] at H; exact H
               clear H;have H := H1;clear H1
               have H' := Aside0.mk H
               clear H
               have hcz20_0 : wc.cell? ⟨gb119, 0, none⟩ = some (.int .i64 ((rd_T26 l0 x32_3).f0)) := (blk_cell BK119.out 0).trans rfl
               have hcz20_1 : wc.cell? ⟨gb119, 1, none⟩ = some (.slice A118_1 ((rd_T26 l0 x32_3).f1).length c118_1) := (blk_cell BK119.out 1).trans rfl
               have hfz20_0 := blk_frozen BK119.out 0
               have hfz20_1 := blk_frozen BK119.out 1
               go_wp2
               go_loopg [50] kj12 (fun kq v50 w' => ∃ (x50_5 : Int), v50 = .int .i64 x50_5 ∧ Aside0 (deps_Check.l2 kq ((rd_T26 l0 x32_3).f0) l0 (l0.length : Int) x32_3 ((rd_T26 l0 x32_3).f1) (((rd_T26 l0 x32_3).f1).length : Int) x50_5 ((rd_T26 l0 x32_3).f0) ((rd_T26 l0 x32_3).f1) = some r) ∧ Aside0 (kq ≤ kj12) ∧ Aside0 (w'.heap[gb119]? = some (.cells #[.int .i64 ((rd_T26 l0 x32_3).f0), (.slice A118_1 ((rd_T26 l0 x32_3).f1).length c118_1)] 26 (0, 0))) ∧ Aside0 (Below w.heap.size w w'))
               case atStart => exact ⟨(0), (by first | rfl | (simp; done) | (simp [*]; done)), H', ⟨Nat.le_refl _⟩, ⟨by (with_reducible repeat (first | refine blk_drewN ?_ _ | refine blk_drew ?_ | refine blk_alloc ?_ _)); exact BK119.out⟩, ⟨by repeat (first | (with_reducible first | exact HB.out | apply below_alloc | apply pw_below_drewN | apply below_drew1 | refine below_set ?_ GE119.out) | exact HB.out)⟩⟩
               case round =>
                clear H'
                try clear c1
                try clear p1
                try clear q1
                try clear hx1
                try clear c2
                try clear c2b0
                try clear p2
                try clear c3
                try clear c3b0
                try clear c4
                try clear c4b0
                try clear p6
                try clear c8
                try clear c8b0
                try clear c8b1
                try clear c9
                try clear c10
                try clear c10b0
                try clear c11
                try clear c11b0
                try clear p11
                try clear q11
                try clear hx11
                try clear c12
                try clear c12b0
                try clear c16
                try clear c16b0
                try clear c19
                try clear hcz15_0
                try clear hcz15_1
                try clear hcz17_0
                try clear hcz17_1
                try clear hcz18_0
                try clear hcz18_1
                try clear hcz20_0
                try clear hcz20_1
                try clear hcz6_0
                try clear hcz6_1
                try clear hfz15_0
                try clear hfz15_1
                try clear hfz17_0
                try clear hfz17_1
                try clear hfz18_0
                try clear hfz18_1
                try clear hfz20_0
                try clear hfz20_1
                try clear hfz6_0
                try clear hfz6_1
                try clear hx116_0
                try clear hx116_1
                try clear hx118_0
                try clear hx118_1
                try clear p1
                try clear p11
                try clear p116
                try clear p118
                try clear p2
                try clear p6
                try clear q1
                try clear q11
                try clear q116
                try clear q118
                obtain ⟨x50_5, rfl, HA, HK5, BK119, HB⟩ := hrel
                cases gk with
                | zero => exact absurd HA.out (by simp [deps_Check.l2])
                | succ k5 =>
                 have H := HA.out;clear HA
                 simp only [deps_Check.l2] at H
                 by_cases c21 : x50_5 < (((rd_T26 l0 x32_3).f1).length : Int)
                 ·rw [if_pos c21] at H
                  have c21b0 : decide (x50_5 < (((rd_T26 l0 x32_3).f1).length : Int)) = true := decide_eq_true c21
                  clear c21
                  by_cases c22 : 0 ≤ x50_5
                  ·rw [if_pos c22] at H
                   have c22b0 : decide (0 ≤ x50_5) = true := decide_eq_true c22
                   clear c22
                   by_cases c23 : x50_5 < (((rd_T26 l0 x32_3).f1).length : Int)
                   ·rw [if_pos c23] at H
                    have c23b0 : decide (x50_5 < (((rd_T26 l0 x32_3).f1).length : Int)) = true := decide_eq_true c23
                    clear c23
                    replace H := Option.bind_eq_some_iff.mp H
                    obtain ⟨t122, A240, H⟩ := H
                    replace H : (if t122 = 0 then (if x50_5 > 0 then (if 0 ≤ (wrap64 (x50_5 - 1)) then (if (wrap64 (x50_5 - 1)) < (((rd_T26 l0 x32_3).f1).length : Int) then ((stamp_Compare.f k5 ((rd_T41 ((rd_T26 l0 x32_3).f1) (wrap64 (x50_5 - 1))).f0) ((rd_T41 ((rd_T26 l0 x32_3).f1) (wrap64 (x50_5 - 1))).f1) ((rd_T41 ((rd_T26 l0 x32_3).f1) x50_5).f0) ((rd_T41 ((rd_T26 l0 x32_3).f1) x50_5).f1)).bind fun t124 => (if t124 ≥ 0 then (some 60) else (deps_Check.l2 k5 ((rd_T26 l0 x32_3).f0) l0 (l0.length : Int) x32_3 ((rd_T26 l0 x32_3).f1) (((rd_T26 l0 x32_3).f1).length : Int) (wrap64 (x50_5 + 1)) ((rd_T26 l0 x32_3).f0) ((rd_T26 l0 x32_3).f1)))) else (none)) else (none)) else (deps_Check.l2 k5 ((rd_T26 l0 x32_3).f0) l0 (l0.length : Int) x32_3 ((rd_T26 l0 x32_3).f1) (((rd_T26 l0 x32_3).f1).length : Int) (wrap64 (x50_5 + 1)) ((rd_T26 l0 x32_3).f0) ((rd_T26 l0 x32_3).f1))) else (some 60)) = some r := H
                    have A24 := Aside0.mk A240
                    clear A240
                    by_cases c25 : t122 = 0
                    ·rw [if_pos c25] at H
                     have c25b0 : (t122 == 0) = true := beq_iff_eq.mpr c25
                     have c25b1 : (t122 != 0) = false := bne_eq_false_iff_eq.mpr c25
                     clear c25
                     by_cases c26 : x50_5 > 0
                     ·rw [if_pos c26] at H
                      have c26b0 : decide (0 < x50_5) = true := decide_eq_true c26
                      clear c26
                      obtain ⟨ji27, hji27⟩ : ∃ j_ : Int, (wrap64 (x50_5 - 1)) = j_ := ⟨_, rfl⟩
                      replace H : (if 0 ≤ (ji27) then (if (ji27) < (((rd_T26 l0 x32_3).f1).length : Int) then ((stamp_Compare.f k5 ((rd_T41 ((rd_T26 l0 x32_3).f1) (ji27)).f0) ((rd_T41 ((rd_T26 l0 x32_3).f1) (ji27)).f1) ((rd_T41 ((rd_T26 l0 x32_3).f1) x50_5).f0) ((rd_T41 ((rd_T26 l0 x32_3).f1) x50_5).f1)).bind fun t124 => (if t124 ≥ 0 then (some 60) else (deps_Check.l2 k5 ((rd_T26 l0 x32_3).f0) l0 (l0.length : Int) x32_3 ((rd_T26 l0 x32_3).f1) (((rd_T26 l0 x32_3).f1).length : Int) (wrap64 (x50_5 + 1)) ((rd_T26 l0 x32_3).f0) ((rd_T26 l0 x32_3).f1)))) else (none)) else (none)) = some r := by first | (rw [hji27] at H; exact H) | (simp only [hji27] at H ⊢; exact H)
                      (try rw [hji27] at A24)
                      have hji27w : (IntKind.i64.wrap (x50_5 - 1)) = ji27 := (i64_w _).trans hji27
                      by_cases c28 : 0 ≤ (ji27)
                      ·rw [if_pos c28] at H
                       have c28b0 : decide (0 ≤ (ji27)) = true := decide_eq_true c28
                       clear c28
                       by_cases c29 : (ji27) < (((rd_T26 l0 x32_3).f1).length : Int)
                       ·rw [if_pos c29] at H
                        have c29b0 : decide ((ji27) < (((rd_T26 l0 x32_3).f1).length : Int)) = true := decide_eq_true c29
                        clear c29
                        replace H := Option.bind_eq_some_iff.mp H
                        obtain ⟨t124, A300, H⟩ := H
                        replace H : (if t124 ≥ 0 then (some 60) else (deps_Check.l2 k5 ((rd_T26 l0 x32_3).f0) l0 (l0.length : Int) x32_3 ((rd_T26 l0 x32_3).f1) (((rd_T26 l0 x32_3).f1).length : Int) (wrap64 (x50_5 + 1)) ((rd_T26 l0 x32_3).f0) ((rd_T26 l0 x32_3).f1))) = some r := H
                        have A30 := Aside0.mk A300
                        clear A300
                        by_cases c31 : t124 ≥ 0
                        ·rw [if_pos c31] at H
                         have c31b0 : decide (0 ≤ t124) = true := decide_eq_true c31
                         clear c31;obtain rfl := Option.some.inj H
                         have p120 : 0 ≤ (x50_5 : Int) := of_decide_eq_true (by first | (with_reducible assumption) | assumption)
                         have q120 : x50_5 < (((rd_T26 l0 x32_3).f1).length : Int) := of_decide_eq_true (by first | (with_reducible assumption) | assumption)
                         obtain ⟨ad120, e120, hx120_0, hx120_1⟩ := at_T41 HR118_1.out x50_5 p120 q120
                         cases e120
                         replace hx120_0 := (HB.out.cell (World.block_lt_of_cell? w _ hx120_0)).trans hx120_0
                         replace hx120_1 := (HB.out.cell (World.block_lt_of_cell? w _ hx120_1)).trans hx120_1
                         replace p120 := eq_true p120
                         replace q120 := eq_true q120
                         try go_wp2_with (first | ((with_reducible refine gate_dst (N := 10) rfl ?_); refine box_event ?hg (N := 10) ?hd (cs := #[.int .i64 0, .int .i64 0]) (t := 41) ?hr ?_; (case hd => rfl); (case hg => rfl); (case hr => first | (go_simp; done) | (go_simp; rfl)); intro gb121 hg w32 hbox hb; have n0_ := Aside0.mk (blk_below (g := gb119) (o := .cells #[.int .i64 ((rd_T26 l0 x32_3).f0), .slice (some ad120) ((rd_T26 l0 x32_3).f1).length c118_1] 26 (0, 0)) (by (with_reducible repeat (first | refine blk_drewN ?_ _ | refine blk_drew ?_ | refine blk_alloc ?_ _)); exact BK119.out) hb); have n1_ := Aside0.mk (below_step (by repeat (first | (with_reducible first | exact HB.out | apply below_alloc | apply pw_below_drewN | apply below_drew1 | refine below_set ?_ GE119.out) | exact HB.out)) hb); have n2_ := Aside0.mk (hbox); have n3_ := Aside0.mk ((by rw [hg]; exact (below_size (by repeat (first | (with_reducible first | exact HB.out | apply below_alloc | apply pw_below_drewN | apply below_drew1 | refine below_set ?_ GE119.out) | exact HB.out))) : w.heap.size ≤ gb121)); have n4_ := Aside0.mk ((by rw [hg]; exact (below_size (by repeat (first | (with_reducible first | exact HB.out | apply below_alloc | apply pw_below_drewN | apply below_drew1 | refine below_set ?_ GE119.out) | exact HB.out))) : w.heap.size ≤ gb121)); have n5_ := Aside0.mk ((by rw [hg]; exact Nat.ne_of_lt (blk_lt (g := gb119) (o := .cells #[.int .i64 ((rd_T26 l0 x32_3).f0), .slice (some ad120) ((rd_T26 l0 x32_3).f1).length c118_1] 26 (0, 0)) (by (with_reducible repeat (first | refine blk_drewN ?_ _ | refine blk_drew ?_ | refine blk_alloc ?_ _)); exact BK119.out)) : gb119 ≠ gb121)); have n6_ := Aside0.mk ((by rw [hg]; exact Nat.ne_of_gt (blk_lt (g := gb119) (o := .cells #[.int .i64 ((rd_T26 l0 x32_3).f0), .slice (some ad120) ((rd_T26 l0 x32_3).f1).length c118_1] 26 (0, 0)) (by (with_reducible repeat (first | refine blk_drewN ?_ _ | refine blk_drew ?_ | refine blk_alloc ?_ _)); exact BK119.out)) : gb121 ≠ gb119)); clear BK119; clear HB; have BK119 := n0_; have HB := n1_; have BK121 := n2_; have GW121 := n3_; have GE121 := n4_; have NB119_121 := n5_; have NB121_119 := n6_; clear n0_ n1_ n2_ n3_ n4_ n5_ n6_; clear hb hbox hg; have hnb33 := NB121_119.out; have hnc33 := NB119_121.out; have hcz34_0 : w32.cell? ⟨gb121, 0, none⟩ = some (.int .i64 0) := (blk_cell BK121.out 0).trans rfl; have hcz34_1 : w32.cell? ⟨gb121, 1, none⟩ = some (.int .i64 0) := (blk_cell BK121.out 1).trans rfl; have hfz34_0 := blk_frozen BK121.out 0; have hfz34_1 := blk_frozen BK121.out 1))
                         have n0_ : Aside0 (((w32.setCell ⟨gb121, 0, none⟩ (.int .i64 ((rd_T41 ((rd_T26 l0 x32_3).f1) x50_5).f0))).setCell ⟨gb121, 1, none⟩ (.int .i64 ((rd_T41 ((rd_T26 l0 x32_3).f1) x50_5).f1))).heap[gb119]? = some (.cells #[.int .i64 ((rd_T26 l0 x32_3).f0), .slice (some ad120) ((rd_T26 l0 x32_3).f1).length c118_1] 26 (0, 0))) := ⟨by (with_reducible repeat (first | refine blk_drewN ?_ _ | refine blk_drew ?_ | refine blk_alloc ?_ _)); refine blk_far ?_ NB119_121.out _; (with_reducible repeat (first | refine blk_drewN ?_ _ | refine blk_drew ?_ | refine blk_alloc ?_ _)); refine blk_far ?_ NB119_121.out _; (with_reducible repeat (first | refine blk_drewN ?_ _ | refine blk_drew ?_ | refine blk_alloc ?_ _)); exact BK119.out⟩
                         have n1_ : Aside0 (((w32.setCell ⟨gb121, 0, none⟩ (.int .i64 ((rd_T41 ((rd_T26 l0 x32_3).f1) x50_5).f0))).setCell ⟨gb121, 1, none⟩ (.int .i64 ((rd_T41 ((rd_T26 l0 x32_3).f1) x50_5).f1))).heap[gb121]? = some (.cells #[.int .i64 ((rd_T41 ((rd_T26 l0 x32_3).f1) x50_5).f0), .int .i64 ((rd_T41 ((rd_T26 l0 x32_3).f1) x50_5).f1)] 41 (0, 0))) := ⟨by (with_reducible repeat (first | refine blk_drewN ?_ _ | refine blk_drew ?_ | refine blk_alloc ?_ _)); refine blk_put (cs := #[.int .i64 ((rd_T41 ((rd_T26 l0 x32_3).f1) x50_5).f0), .int .i64 0]) ?_ 1 _ rfl; (with_reducible repeat (first | refine blk_drewN ?_ _ | refine blk_drew ?_ | refine blk_alloc ?_ _)); refine blk_put (cs := #[.int .i64 0, .int .i64 0]) ?_ 0 _ rfl; (with_reducible repeat (first | refine blk_drewN ?_ _ | refine blk_drew ?_ | refine blk_alloc ?_ _)); exact BK121.out⟩
                         have n2_ : Aside0 (Below w.heap.size w ((w32.setCell ⟨gb121, 0, none⟩ (.int .i64 ((rd_T41 ((rd_T26 l0 x32_3).f1) x50_5).f0))).setCell ⟨gb121, 1, none⟩ (.int .i64 ((rd_T41 ((rd_T26 l0 x32_3).f1) x50_5).f1)))) := ⟨by repeat (first | (with_reducible first | exact HB.out | apply below_alloc | apply pw_below_drewN | apply below_drew1 | refine below_set ?_ GE119.out | refine below_set ?_ GE121.out) | exact HB.out)⟩
                         (try clear BK119);(try clear BK121);(try clear HB)
                         generalize ((w32.setCell ⟨gb121, 0, none⟩ (.int .i64 ((rd_T41 ((rd_T26 l0 x32_3).f1) x50_5).f0))).setCell ⟨gb121, 1, none⟩ (.int .i64 ((rd_T41 ((rd_T26 l0 x32_3).f1) x50_5).f1))) = w35 at n0_ n1_ n2_ ⊢
                         have BK119 := n0_;have BK121 := n1_;have HB := n2_;clear n0_ n1_ n2_
                         have n0_ := Aside0.mk (blk_drew BK119.out)
                         have n1_ := Aside0.mk (blk_drew BK121.out)
                         have n2_ := Aside0.mk (below_drew1 HB.out)
                         clear BK119 BK121 HB;have BK119 := n0_;have BK121 := n1_;have HB := n2_;clear n0_ n1_ n2_
                         have p123 : 0 ≤ ((ji27) : Int) := of_decide_eq_true (by first | (with_reducible assumption) | assumption)
                         have q123 : (ji27) < (((rd_T26 l0 x32_3).f1).length : Int) := of_decide_eq_true (by first | (with_reducible assumption) | assumption)
                         obtain ⟨ad123, e123, hx123_0, hx123_1⟩ := at_T41 HR118_1.out (ji27) p123 q123
                         have hw123_1 := hx123_1;have hw123_0 := hx123_0
                         obtain rfl : ad120 = ad123 := (by injection e123)
                         replace hx123_0 := (HB.out.cell (World.block_lt_of_cell? w _ hx123_0)).trans hx123_0
                         replace hx123_1 := (HB.out.cell (World.block_lt_of_cell? w _ hx123_1)).trans hx123_1
                         replace p123 := eq_true p123
                         replace q123 := eq_true q123
                         refine start_ (n := 18) (S := fun w' => w'.cell? ⟨gb121, 0, none⟩ = some (.int .i64 ((rd_T41 ((rd_T26 l0 x32_3).f1) x50_5).f0)) ∧ w'.cell? ⟨gb121, 1, none⟩ = some (.int .i64 ((rd_T41 ((rd_T26 l0 x32_3).f1) x50_5).f1)) ∧ w'.cell? ⟨gb119, 0, none⟩ = some (.int .i64 ((rd_T26 l0 x32_3).f0)) ∧ w'.cell? ⟨gb119, 1, none⟩ = some (.slice (some ad120) ((rd_T26 l0 x32_3).f1).length c118_1) ∧ w'.cell? (ad120.add (((ji27)).toNat * 2)) = some (.int .i64 ((rd_T41 ((rd_T26 l0 x32_3).f1) (ji27)).f0)) ∧ w'.cell? ⟨(ad120.add (((ji27)).toNat * 2)).block, (ad120.add (((ji27)).toNat * 2)).off + 1, none⟩ = some (.int .i64 ((rd_T41 ((rd_T26 l0 x32_3).f1) (ji27)).f1))) (ds := []) #[false,false,false,false,false,false,false,false,false,false,false,false,false,false,false,false,false,false] (by kernel_rfl) rfl rfl ⟨(blk_cell BK121.out 0).trans rfl, (blk_cell BK121.out 1).trans rfl, (blk_cell BK119.out 0).trans rfl, (blk_cell BK119.out 1).trans rfl, ((HB.out.cell (World.block_lt_of_cell? w _ hw123_0)).trans hw123_0), ((HB.out.cell (World.block_lt_of_cell? w _ hw123_1)).trans hw123_1)⟩ (fun hHeld => ?_); refine with_tabW deps_Check.tab19 deps_Check.bits19 (fun HT_ HW_ => ?_)
                         generalize w35.drew = w36 at BK119 BK121 HB hx123_0 hx123_1 hHeld ⊢
                         refine take_ (i := 0) (N := some 55) (v := ?_) (a' := ?_) #[true,false,false,false,false,false,false,false,false,false,false,false,false,false,false,false,false,false] rfl rfl (take_ofW HT_.out HW_.out (by kernel_rfl)) (fun _ _ _ h => h) (Or.inl ⟨by rfl, ?_⟩) hHeld ?_ ?_;rotate_left
                         ·rintro w' ⟨s0, s1, s2, s3, s4, s5⟩
                          go_simp;with_reducible rfl
                         rotate_left
                         ·simp only [Act.put, List.setIfInBounds_toArray, List.set_cons_zero, List.set_cons_succ, i64_w, i32_w];rfl
                         refine one_ (i := 1) (N := some 56) #[true,true,false,false,false,false,false,false,false,false,false,false,false,false,false,false,false,false] rfl rfl (one_of HT_.out (by kernel_rfl)) (by decide) (fun K hK => ?_);refine goes_ Tryz.func44 (by kernel_rfl) rfl #[.agg #[.int .i64 ((rd_T41 ((rd_T26 l0 x32_3).f1) x50_5).f0), .int .i64 ((rd_T41 ((rd_T26 l0 x32_3).f1) x50_5).f1)]] (by rfl) rfl rfl (by (try simp only [List.map_toArray, List.map_cons, List.map_nil]); first | done | rfl | (simp only [List.length_drop, List.length_take]; rfl)) ?_
                         with_reducible refine (stamp_Check.calls ((rd_T41 ((rd_T26 l0 x32_3).f1) x50_5).f0) ((rd_T41 ((rd_T26 l0 x32_3).f1) x50_5).f1) t122 _ A24.out).mono ?_
                         rintro e w37 ⟨rfl, hb⟩
                         refine ⟨_, rfl, ?_⟩
                         have n0_ := Aside0.mk (blk_below (g := gb119) (o := .cells #[.int .i64 ((rd_T26 l0 x32_3).f0), .slice (some ad120) ((rd_T26 l0 x32_3).f1).length c118_1] 26 (0, 0)) (by (with_reducible repeat (first | refine blk_drewN ?_ _ | refine blk_drew ?_ | refine blk_alloc ?_ _)); exact BK119.out) hb)
                         have n1_ := Aside0.mk (blk_below (g := gb121) (o := .cells #[.int .i64 ((rd_T41 ((rd_T26 l0 x32_3).f1) x50_5).f0), .int .i64 ((rd_T41 ((rd_T26 l0 x32_3).f1) x50_5).f1)] 41 (0, 0)) (by (with_reducible repeat (first | refine blk_drewN ?_ _ | refine blk_drew ?_ | refine blk_alloc ?_ _)); exact BK121.out) hb)
                         have n2_ := Aside0.mk (below_step (by repeat (first | (with_reducible first | exact HB.out | apply below_alloc | apply pw_below_drewN | apply below_drew1 | refine below_set ?_ GE119.out | refine below_set ?_ GE121.out) | exact HB.out)) hb)
                         clear BK119 BK121 HB;have BK119 := n0_;have BK121 := n1_;have HB := n2_;clear n0_ n1_ n2_;(try clear hb);(try clear hb2);(try clear hk);(try clear hi);refine hK.out _ _ ⟨(blk_cell BK121.out 0).trans rfl, (blk_cell BK121.out 1).trans rfl, (blk_cell BK119.out 0).trans rfl, (blk_cell BK119.out 1).trans rfl, ((HB.out.cell (World.block_lt_of_cell? w _ hw123_0)).trans hw123_0), ((HB.out.cell (World.block_lt_of_cell? w _ hw123_1)).trans hw123_1)⟩ (fun hHeld => ?_);clear hK K;refine norm_ (a' := ?_) ?_ ?_;rotate_left
                         ·show Act.put _ (some 56) _ = _
                          simp only [Act.put, List.setIfInBounds_toArray, List.set_cons_zero, List.set_cons_succ, i64_w, i32_w];rfl
                         refine pure_ (i := 2) (N := some 57) (v := ?_) (a' := ?_) #[true,true,true,false,false,false,false,false,false,false,false,false,false,false,false,false,false,false] rfl rfl (any_of HT_.out (by kernel_rfl)) (fun _ _ _ h => h) (Or.inl ⟨by rfl, ?_⟩) ?_ ?_;rotate_left
                         ·intro w';go_simp;with_reducible rfl
                         rotate_left
                         ·simp only [Act.put, List.setIfInBounds_toArray, List.set_cons_zero, List.set_cons_succ, i64_w, i32_w];rfl
                         refine pure_ (i := 3) (N := some 58) (v := ?_) (a' := ?_) #[true,true,true,true,false,false,false,false,false,false,false,false,false,false,false,false,false,false] rfl rfl (any_of HT_.out (by kernel_rfl)) (fun _ _ _ h => h) (Or.inl ⟨by rfl, ?_⟩) ?_ ?_;rotate_left
                         ·intro w';go_simp;with_reducible rfl
                         rotate_left
                         ·simp only [Act.put, List.setIfInBounds_toArray, List.set_cons_zero, List.set_cons_succ, i64_w, i32_w];rfl
                         refine pure_ (i := 4) (N := some 59) (v := ?_) (a' := ?_) #[true,true,true,true,true,false,false,false,false,false,false,false,false,false,false,false,false,false] rfl rfl (any_of HT_.out (by kernel_rfl)) (fun _ _ _ h => h) (Or.inl ⟨by rfl, ?_⟩) ?_ ?_;rotate_left
                         ·intro w';go_simp;with_reducible rfl
                         rotate_left
                         ·simp only [Act.put, List.setIfInBounds_toArray, List.set_cons_zero, List.set_cons_succ, i64_w, i32_w];rfl
                         refine pure_ (i := 5) (N := some 60) (v := ?_) (a' := ?_) #[true,true,true,true,true,true,false,false,false,false,false,false,false,false,false,false,false,false] rfl rfl (any_of HT_.out (by kernel_rfl)) (fun _ _ _ h => h) (Or.inl ⟨by rfl, ?_⟩) ?_ ?_;rotate_left
                         ·intro w';go_simp;with_reducible rfl
                         rotate_left
                         ·simp only [Act.put, List.setIfInBounds_toArray, List.set_cons_zero, List.set_cons_succ, i64_w, i32_w];rfl
                         refine pure_ (i := 6) (N := some 61) (v := ?_) (a' := ?_) #[true,true,true,true,true,true,true,false,false,false,false,false,false,false,false,false,false,false] rfl rfl (any_of HT_.out (by kernel_rfl)) (fun _ _ _ h => h) (Or.inl ⟨by rfl, ?_⟩) ?_ ?_;rotate_left
                         ·intro w';go_simp;with_reducible rfl
                         rotate_left
                         ·simp only [Act.put, List.setIfInBounds_toArray, List.set_cons_zero, List.set_cons_succ, i64_w, i32_w];rfl
                         refine pure_ (i := 7) (N := some 62) (v := ?_) (a' := ?_) #[true,true,true,true,true,true,true,true,false,false,false,false,false,false,false,false,false,false] rfl rfl (any_of HT_.out (by kernel_rfl)) (fun _ _ _ h => h) (Or.inl ⟨by rfl, ?_⟩) ?_ ?_;rotate_left
                         ·intro w';go_simp;with_reducible rfl
                         rotate_left
                         ·simp only [Act.put, List.setIfInBounds_toArray, List.set_cons_zero, List.set_cons_succ, i64_w, i32_w];rfl
                         refine pure_ (i := 9) (N := some 64) (v := ?_) (a' := ?_) #[true,true,true,true,true,true,true,true,false,true,false,false,false,false,false,false,false,false] rfl rfl (any_of HT_.out (by kernel_rfl)) (fun _ _ _ h => h) (Or.inl ⟨by rfl, ?_⟩) ?_ ?_;rotate_left
                         ·intro w';go_simp;with_reducible rfl
                         rotate_left
                         ·simp only [Act.put, List.setIfInBounds_toArray, List.set_cons_zero, List.set_cons_succ, i64_w, i32_w];rfl
                         refine pure_ (i := 10) (N := some 65) (v := ?_) (a' := ?_) #[true,true,true,true,true,true,true,true,false,true,true,false,false,false,false,false,false,false] rfl rfl (any_of HT_.out (by kernel_rfl)) (fun _ _ _ h => h) (Or.inl ⟨by rfl, ?_⟩) ?_ ?_;rotate_left
                         ·intro w';go_simp;with_reducible rfl
                         rotate_left
                         ·simp only [Act.put, List.setIfInBounds_toArray, List.set_cons_zero, List.set_cons_succ, i64_w, i32_w];rfl
                         refine take_ (i := 8) (N := some 63) (v := ?_) (a' := ?_) #[true,true,true,true,true,true,true,true,true,true,true,false,false,false,false,false,false,false] rfl rfl (take_ofW HT_.out HW_.out (by kernel_rfl)) (fun _ _ _ h => h) (Or.inl ⟨by rfl, ?_⟩) hHeld ?_ ?_;rotate_left
                         ·rintro w' ⟨s0, s1, s2, s3, s4, s5⟩
                          go_simp;with_reducible rfl
                         rotate_left
                         ·simp only [Act.put, List.setIfInBounds_toArray, List.set_cons_zero, List.set_cons_succ, i64_w, i32_w];rfl
                         refine pure_ (i := 11) (N := some 66) (v := ?_) (a' := ?_) #[true,true,true,true,true,true,true,true,true,true,true,true,false,false,false,false,false,false] rfl rfl (any_of HT_.out (by kernel_rfl)) (fun _ _ _ h => h) (Or.inl ⟨by rfl, ?_⟩) ?_ ?_;rotate_left
                         ·intro w';go_simp;with_reducible rfl
                         rotate_left
                         ·simp only [Act.put, List.setIfInBounds_toArray, List.set_cons_zero, List.set_cons_succ, i64_w, i32_w];rfl
                         refine take_ (i := 12) (N := some 67) (v := ?_) (a' := ?_) #[true,true,true,true,true,true,true,true,true,true,true,true,true,false,false,false,false,false] rfl rfl (take_ofW HT_.out HW_.out (by kernel_rfl)) (fun _ _ _ h => h) (Or.inl ⟨by rfl, ?_⟩) hHeld ?_ ?_;rotate_left
                         ·rintro w' ⟨s0, s1, s2, s3, s4, s5⟩
                          go_simp;with_reducible rfl
                         rotate_left
                         ·simp only [Act.put, List.setIfInBounds_toArray, List.set_cons_zero, List.set_cons_succ, i64_w, i32_w];rfl
                         refine take_ (i := 13) (N := some 68) (v := ?_) (a' := ?_) #[true,true,true,true,true,true,true,true,true,true,true,true,true,true,false,false,false,false] rfl rfl (take_ofW HT_.out HW_.out (by kernel_rfl)) (fun _ _ _ h => h) (Or.inl ⟨by rfl, ?_⟩) hHeld ?_ ?_;rotate_left
                         ·rintro w' ⟨s0, s1, s2, s3, s4, s5⟩
                          go_simp;with_reducible rfl
                         rotate_left
                         ·simp only [Act.put, List.setIfInBounds_toArray, List.set_cons_zero, List.set_cons_succ, i64_w, i32_w];rfl
                         refine one_ (i := 14) (N := some 69) #[true,true,true,true,true,true,true,true,true,true,true,true,true,true,true,false,false,false] rfl rfl (one_of HT_.out (by kernel_rfl)) (by decide) (fun K hK => ?_);refine goes_ Tryz.func45 (by kernel_rfl) rfl #[.agg #[.int .i64 ((rd_T41 ((rd_T26 l0 x32_3).f1) (ji27)).f0), .int .i64 ((rd_T41 ((rd_T26 l0 x32_3).f1) (ji27)).f1)], .agg #[.int .i64 ((rd_T41 ((rd_T26 l0 x32_3).f1) x50_5).f0), .int .i64 ((rd_T41 ((rd_T26 l0 x32_3).f1) x50_5).f1)]] (by rfl) rfl rfl (by (try simp only [List.map_toArray, List.map_cons, List.map_nil]); first | done | (simp only [hji27]; rfl) | rfl | (simp only [List.length_drop, List.length_take]; rfl)) ?_
                         with_reducible refine (stamp_Compare.calls k5 ((rd_T41 ((rd_T26 l0 x32_3).f1) (ji27)).f0) ((rd_T41 ((rd_T26 l0 x32_3).f1) (ji27)).f1) ((rd_T41 ((rd_T26 l0 x32_3).f1) x50_5).f0) ((rd_T41 ((rd_T26 l0 x32_3).f1) x50_5).f1) t124 _ A30.out).mono ?_
                         rintro e w38 ⟨rfl, hb⟩
                         refine ⟨_, rfl, ?_⟩
                         have n0_ := Aside0.mk (blk_below (g := gb119) (o := .cells #[.int .i64 ((rd_T26 l0 x32_3).f0), .slice (some ad120) ((rd_T26 l0 x32_3).f1).length c118_1] 26 (0, 0)) (by (with_reducible repeat (first | refine blk_drewN ?_ _ | refine blk_drew ?_ | refine blk_alloc ?_ _)); exact BK119.out) hb)
                         have n1_ := Aside0.mk (blk_below (g := gb121) (o := .cells #[.int .i64 ((rd_T41 ((rd_T26 l0 x32_3).f1) x50_5).f0), .int .i64 ((rd_T41 ((rd_T26 l0 x32_3).f1) x50_5).f1)] 41 (0, 0)) (by (with_reducible repeat (first | refine blk_drewN ?_ _ | refine blk_drew ?_ | refine blk_alloc ?_ _)); exact BK121.out) hb)
                         have n2_ := Aside0.mk (below_step (by repeat (first | (with_reducible first | exact HB.out | apply below_alloc | apply pw_below_drewN | apply below_drew1 | refine below_set ?_ GE119.out | refine below_set ?_ GE121.out) | exact HB.out)) hb)
                         clear BK119 BK121 HB;have BK119 := n0_;have BK121 := n1_;have HB := n2_;clear n0_ n1_ n2_;(try clear hb);(try clear hb2);(try clear hk);(try clear hi);refine hK.out _ _ ⟨(blk_cell BK121.out 0).trans rfl, (blk_cell BK121.out 1).trans rfl, (blk_cell BK119.out 0).trans rfl, (blk_cell BK119.out 1).trans rfl, ((HB.out.cell (World.block_lt_of_cell? w _ hw123_0)).trans hw123_0), ((HB.out.cell (World.block_lt_of_cell? w _ hw123_1)).trans hw123_1)⟩ (fun hHeld => ?_);clear hK K;refine norm_ (a' := ?_) ?_ ?_;rotate_left
                         ·show Act.put _ (some 69) _ = _
                          simp only [Act.put, List.setIfInBounds_toArray, List.set_cons_zero, List.set_cons_succ, i64_w, i32_w];rfl
                         refine pure_ (i := 15) (N := some 70) (v := ?_) (a' := ?_) #[true,true,true,true,true,true,true,true,true,true,true,true,true,true,true,true,false,false] rfl rfl (any_of HT_.out (by kernel_rfl)) (fun _ _ _ h => h) (Or.inl ⟨by rfl, ?_⟩) ?_ ?_;rotate_left
                         ·intro w';go_simp;with_reducible rfl
                         rotate_left
                         ·simp only [Act.put, List.setIfInBounds_toArray, List.set_cons_zero, List.set_cons_succ, i64_w, i32_w];rfl
                         refine pure_ (i := 16) (N := some 71) (v := ?_) (a' := ?_) #[true,true,true,true,true,true,true,true,true,true,true,true,true,true,true,true,true,false] rfl rfl (any_of HT_.out (by kernel_rfl)) (fun _ _ _ h => h) (Or.inl ⟨by rfl, ?_⟩) ?_ ?_;rotate_left
                         ·intro w';go_simp;with_reducible rfl
                         rotate_left
                         ·simp only [Act.put, List.setIfInBounds_toArray, List.set_cons_zero, List.set_cons_succ, i64_w, i32_w];rfl
                         refine pure_ (i := 17) (N := some 72) (v := ?_) (a' := ?_) #[true,true,true,true,true,true,true,true,true,true,true,true,true,true,true,true,true,true] rfl rfl (any_of HT_.out (by kernel_rfl)) (fun _ _ _ h => h) (Or.inl ⟨by rfl, ?_⟩) ?_ ?_;rotate_left
                         ·intro w';go_simp;with_reducible rfl
                         rotate_left
                         ·simp only [Act.put, List.setIfInBounds_toArray, List.set_cons_zero, List.set_cons_succ, i64_w, i32_w];rfl
                         refine done_ (done_of HT_.out (by kernel_rfl)) ?_
                         try go_wp2
                         go_ret
                         exact ⟨by first | rfl | (simp [errW_none, errW_some] <;> rfl) | (simp only [← hji27]; first | rfl | (simp [errW_none, errW_some] <;> rfl)) | (simp [*, errW_none, errW_some] <;> rfl), by repeat (first | (with_reducible first | exact HB.out | apply below_alloc | apply pw_below_drewN | apply below_drew1 | refine below_set ?_ GE119.out | refine below_set ?_ GE121.out) | exact HB.out)⟩
                        ·rw [if_neg c31] at H
                         have c31b0 : decide (0 ≤ t124) = false := decide_eq_false c31
                         clear c31
                         have H' := Aside0.mk H
                         clear H
                         have p120 : 0 ≤ (x50_5 : Int) := of_decide_eq_true (by first | (with_reducible assumption) | assumption)
                         have q120 : x50_5 < (((rd_T26 l0 x32_3).f1).length : Int) := of_decide_eq_true (by first | (with_reducible assumption) | assumption)
                         obtain ⟨ad120, e120, hx120_0, hx120_1⟩ := at_T41 HR118_1.out x50_5 p120 q120
                         cases e120
                         replace hx120_0 := (HB.out.cell (World.block_lt_of_cell? w _ hx120_0)).trans hx120_0
                         replace hx120_1 := (HB.out.cell (World.block_lt_of_cell? w _ hx120_1)).trans hx120_1
                         replace p120 := eq_true p120
                         replace q120 := eq_true q120
                         try go_wp2_with (first | ((with_reducible refine gate_dst (N := 10) rfl ?_); refine box_event ?hg (N := 10) ?hd (cs := #[.int .i64 0, .int .i64 0]) (t := 41) ?hr ?_; (case hd => rfl); (case hg => rfl); (case hr => first | (go_simp; done) | (go_simp; rfl)); intro gb121 hg w39 hbox hb; have n0_ := Aside0.mk (blk_below (g := gb119) (o := .cells #[.int .i64 ((rd_T26 l0 x32_3).f0), .slice (some ad120) ((rd_T26 l0 x32_3).f1).length c118_1] 26 (0, 0)) (by (with_reducible repeat (first | refine blk_drewN ?_ _ | refine blk_drew ?_ | refine blk_alloc ?_ _)); exact BK119.out) hb); have n1_ := Aside0.mk (below_step (by repeat (first | (with_reducible first | exact HB.out | apply below_alloc | apply pw_below_drewN | apply below_drew1 | refine below_set ?_ GE119.out) | exact HB.out)) hb); have n2_ := Aside0.mk (hbox); have n3_ := Aside0.mk ((by rw [hg]; exact (below_size (by repeat (first | (with_reducible first | exact HB.out | apply below_alloc | apply pw_below_drewN | apply below_drew1 | refine below_set ?_ GE119.out) | exact HB.out))) : w.heap.size ≤ gb121)); have n4_ := Aside0.mk ((by rw [hg]; exact (below_size (by repeat (first | (with_reducible first | exact HB.out | apply below_alloc | apply pw_below_drewN | apply below_drew1 | refine below_set ?_ GE119.out) | exact HB.out))) : w.heap.size ≤ gb121)); have n5_ := Aside0.mk ((by rw [hg]; exact Nat.ne_of_lt (blk_lt (g := gb119) (o := .cells #[.int .i64 ((rd_T26 l0 x32_3).f0), .slice (some ad120) ((rd_T26 l0 x32_3).f1).length c118_1] 26 (0, 0)) (by (with_reducible repeat (first | refine blk_drewN ?_ _ | refine blk_drew ?_ | refine blk_alloc ?_ _)); exact BK119.out)) : gb119 ≠ gb121)); have n6_ := Aside0.mk ((by rw [hg]; exact Nat.ne_of_gt (blk_lt (g := gb119) (o := .cells #[.int .i64 ((rd_T26 l0 x32_3).f0), .slice (some ad120) ((rd_T26 l0 x32_3).f1).length c118_1] 26 (0, 0)) (by (with_reducible repeat (first | refine blk_drewN ?_ _ | refine blk_drew ?_ | refine blk_alloc ?_ _)); exact BK119.out)) : gb121 ≠ gb119)); clear BK119; clear HB; have BK119 := n0_; have HB := n1_; have BK121 := n2_; have GW121 := n3_; have GE121 := n4_; have NB119_121 := n5_; have NB121_119 := n6_; clear n0_ n1_ n2_ n3_ n4_ n5_ n6_; clear hb hbox hg; have hnb40 := NB121_119.out; have hnc40 := NB119_121.out; have hcz41_0 : w39.cell? ⟨gb121, 0, none⟩ = some (.int .i64 0) := (blk_cell BK121.out 0).trans rfl; have hcz41_1 : w39.cell? ⟨gb121, 1, none⟩ = some (.int .i64 0) := (blk_cell BK121.out 1).trans rfl; have hfz41_0 := blk_frozen BK121.out 0; have hfz41_1 := blk_frozen BK121.out 1))
                         have n0_ : Aside0 (((w39.setCell ⟨gb121, 0, none⟩ (.int .i64 ((rd_T41 ((rd_T26 l0 x32_3).f1) x50_5).f0))).setCell ⟨gb121, 1, none⟩ (.int .i64 ((rd_T41 ((rd_T26 l0 x32_3).f1) x50_5).f1))).heap[gb119]? = some (.cells #[.int .i64 ((rd_T26 l0 x32_3).f0), .slice (some ad120) ((rd_T26 l0 x32_3).f1).length c118_1] 26 (0, 0))) := ⟨by (with_reducible repeat (first | refine blk_drewN ?_ _ | refine blk_drew ?_ | refine blk_alloc ?_ _)); refine blk_far ?_ NB119_121.out _; (with_reducible repeat (first | refine blk_drewN ?_ _ | refine blk_drew ?_ | refine blk_alloc ?_ _)); refine blk_far ?_ NB119_121.out _; (with_reducible repeat (first | refine blk_drewN ?_ _ | refine blk_drew ?_ | refine blk_alloc ?_ _)); exact BK119.out⟩
                         have n1_ : Aside0 (((w39.setCell ⟨gb121, 0, none⟩ (.int .i64 ((rd_T41 ((rd_T26 l0 x32_3).f1) x50_5).f0))).setCell ⟨gb121, 1, none⟩ (.int .i64 ((rd_T41 ((rd_T26 l0 x32_3).f1) x50_5).f1))).heap[gb121]? = some (.cells #[.int .i64 ((rd_T41 ((rd_T26 l0 x32_3).f1) x50_5).f0), .int .i64 ((rd_T41 ((rd_T26 l0 x32_3).f1) x50_5).f1)] 41 (0, 0))) := ⟨by (with_reducible repeat (first | refine blk_drewN ?_ _ | refine blk_drew ?_ | refine blk_alloc ?_ _)); refine blk_put (cs := #[.int .i64 ((rd_T41 ((rd_T26 l0 x32_3).f1) x50_5).f0), .int .i64 0]) ?_ 1 _ rfl; (with_reducible repeat (first | refine blk_drewN ?_ _ | refine blk_drew ?_ | refine blk_alloc ?_ _)); refine blk_put (cs := #[.int .i64 0, .int .i64 0]) ?_ 0 _ rfl; (with_reducible repeat (first | refine blk_drewN ?_ _ | refine blk_drew ?_ | refine blk_alloc ?_ _)); exact BK121.out⟩
                         have n2_ : Aside0 (Below w.heap.size w ((w39.setCell ⟨gb121, 0, none⟩ (.int .i64 ((rd_T41 ((rd_T26 l0 x32_3).f1) x50_5).f0))).setCell ⟨gb121, 1, none⟩ (.int .i64 ((rd_T41 ((rd_T26 l0 x32_3).f1) x50_5).f1)))) := ⟨by repeat (first | (with_reducible first | exact HB.out | apply below_alloc | apply pw_below_drewN | apply below_drew1 | refine below_set ?_ GE119.out | refine below_set ?_ GE121.out) | exact HB.out)⟩
                         (try clear BK119);(try clear BK121);(try clear HB)
                         generalize ((w39.setCell ⟨gb121, 0, none⟩ (.int .i64 ((rd_T41 ((rd_T26 l0 x32_3).f1) x50_5).f0))).setCell ⟨gb121, 1, none⟩ (.int .i64 ((rd_T41 ((rd_T26 l0 x32_3).f1) x50_5).f1))) = w42 at n0_ n1_ n2_ ⊢
                         have BK119 := n0_;have BK121 := n1_;have HB := n2_;clear n0_ n1_ n2_
                         have n0_ := Aside0.mk (blk_drew BK119.out)
                         have n1_ := Aside0.mk (blk_drew BK121.out)
                         have n2_ := Aside0.mk (below_drew1 HB.out)
                         clear BK119 BK121 HB;have BK119 := n0_;have BK121 := n1_;have HB := n2_;clear n0_ n1_ n2_
                         have p123 : 0 ≤ ((ji27) : Int) := of_decide_eq_true (by first | (with_reducible assumption) | assumption)
                         have q123 : (ji27) < (((rd_T26 l0 x32_3).f1).length : Int) := of_decide_eq_true (by first | (with_reducible assumption) | assumption)
                         obtain ⟨ad123, e123, hx123_0, hx123_1⟩ := at_T41 HR118_1.out (ji27) p123 q123
                         have hw123_1 := hx123_1;have hw123_0 := hx123_0
                         obtain rfl : ad120 = ad123 := (by injection e123)
                         replace hx123_0 := (HB.out.cell (World.block_lt_of_cell? w _ hx123_0)).trans hx123_0
                         replace hx123_1 := (HB.out.cell (World.block_lt_of_cell? w _ hx123_1)).trans hx123_1
                         replace p123 := eq_true p123
                         replace q123 := eq_true q123
                         refine start_ (n := 18) (S := fun w' => w'.cell? ⟨gb121, 0, none⟩ = some (.int .i64 ((rd_T41 ((rd_T26 l0 x32_3).f1) x50_5).f0)) ∧ w'.cell? ⟨gb121, 1, none⟩ = some (.int .i64 ((rd_T41 ((rd_T26 l0 x32_3).f1) x50_5).f1)) ∧ w'.cell? ⟨gb119, 0, none⟩ = some (.int .i64 ((rd_T26 l0 x32_3).f0)) ∧ w'.cell? ⟨gb119, 1, none⟩ = some (.slice (some ad120) ((rd_T26 l0 x32_3).f1).length c118_1) ∧ w'.cell? (ad120.add (((ji27)).toNat * 2)) = some (.int .i64 ((rd_T41 ((rd_T26 l0 x32_3).f1) (ji27)).f0)) ∧ w'.cell? ⟨(ad120.add (((ji27)).toNat * 2)).block, (ad120.add (((ji27)).toNat * 2)).off + 1, none⟩ = some (.int .i64 ((rd_T41 ((rd_T26 l0 x32_3).f1) (ji27)).f1))) (ds := []) #[false,false,false,false,false,false,false,false,false,false,false,false,false,false,false,false,false,false] (by kernel_rfl) rfl rfl ⟨(blk_cell BK121.out 0).trans rfl, (blk_cell BK121.out 1).trans rfl, (blk_cell BK119.out 0).trans rfl, (blk_cell BK119.out 1).trans rfl, ((HB.out.cell (World.block_lt_of_cell? w _ hw123_0)).trans hw123_0), ((HB.out.cell (World.block_lt_of_cell? w _ hw123_1)).trans hw123_1)⟩ (fun hHeld => ?_); refine with_tabW deps_Check.tab19 deps_Check.bits19 (fun HT_ HW_ => ?_)
                         generalize w42.drew = w43 at BK119 BK121 HB hx123_0 hx123_1 hHeld ⊢
                         refine take_ (i := 0) (N := some 55) (v := ?_) (a' := ?_) #[true,false,false,false,false,false,false,false,false,false,false,false,false,false,false,false,false,false] rfl rfl (take_ofW HT_.out HW_.out (by kernel_rfl)) (fun _ _ _ h => h) (Or.inl ⟨by rfl, ?_⟩) hHeld ?_ ?_;rotate_left
                         ·rintro w' ⟨s0, s1, s2, s3, s4, s5⟩
                          go_simp;with_reducible rfl
                         rotate_left
                         ·simp only [Act.put, List.setIfInBounds_toArray, List.set_cons_zero, List.set_cons_succ, i64_w, i32_w];rfl
                         refine one_ (i := 1) (N := some 56) #[true,true,false,false,false,false,false,false,false,false,false,false,false,false,false,false,false,false] rfl rfl (one_of HT_.out (by kernel_rfl)) (by decide) (fun K hK => ?_);refine goes_ Tryz.func44 (by kernel_rfl) rfl #[.agg #[.int .i64 ((rd_T41 ((rd_T26 l0 x32_3).f1) x50_5).f0), .int .i64 ((rd_T41 ((rd_T26 l0 x32_3).f1) x50_5).f1)]] (by rfl) rfl rfl (by (try simp only [List.map_toArray, List.map_cons, List.map_nil]); first | done | rfl | (simp only [List.length_drop, List.length_take]; rfl)) ?_
                         with_reducible refine (stamp_Check.calls ((rd_T41 ((rd_T26 l0 x32_3).f1) x50_5).f0) ((rd_T41 ((rd_T26 l0 x32_3).f1) x50_5).f1) t122 _ A24.out).mono ?_
                         rintro e w44 ⟨rfl, hb⟩
                         refine ⟨_, rfl, ?_⟩
                         have n0_ := Aside0.mk (blk_below (g := gb119) (o := .cells #[.int .i64 ((rd_T26 l0 x32_3).f0), .slice (some ad120) ((rd_T26 l0 x32_3).f1).length c118_1] 26 (0, 0)) (by (with_reducible repeat (first | refine blk_drewN ?_ _ | refine blk_drew ?_ | refine blk_alloc ?_ _)); exact BK119.out) hb)
                         have n1_ := Aside0.mk (blk_below (g := gb121) (o := .cells #[.int .i64 ((rd_T41 ((rd_T26 l0 x32_3).f1) x50_5).f0), .int .i64 ((rd_T41 ((rd_T26 l0 x32_3).f1) x50_5).f1)] 41 (0, 0)) (by (with_reducible repeat (first | refine blk_drewN ?_ _ | refine blk_drew ?_ | refine blk_alloc ?_ _)); exact BK121.out) hb)
                         have n2_ := Aside0.mk (below_step (by repeat (first | (with_reducible first | exact HB.out | apply below_alloc | apply pw_below_drewN | apply below_drew1 | refine below_set ?_ GE119.out | refine below_set ?_ GE121.out) | exact HB.out)) hb)
                         clear BK119 BK121 HB;have BK119 := n0_;have BK121 := n1_;have HB := n2_;clear n0_ n1_ n2_;(try clear hb);(try clear hb2);(try clear hk);(try clear hi);refine hK.out _ _ ⟨(blk_cell BK121.out 0).trans rfl, (blk_cell BK121.out 1).trans rfl, (blk_cell BK119.out 0).trans rfl, (blk_cell BK119.out 1).trans rfl, ((HB.out.cell (World.block_lt_of_cell? w _ hw123_0)).trans hw123_0), ((HB.out.cell (World.block_lt_of_cell? w _ hw123_1)).trans hw123_1)⟩ (fun hHeld => ?_);clear hK K;refine norm_ (a' := ?_) ?_ ?_;rotate_left
                         ·show Act.put _ (some 56) _ = _
                          simp only [Act.put, List.setIfInBounds_toArray, List.set_cons_zero, List.set_cons_succ, i64_w, i32_w];rfl
                         refine pure_ (i := 2) (N := some 57) (v := ?_) (a' := ?_) #[true,true,true,false,false,false,false,false,false,false,false,false,false,false,false,false,false,false] rfl rfl (any_of HT_.out (by kernel_rfl)) (fun _ _ _ h => h) (Or.inl ⟨by rfl, ?_⟩) ?_ ?_;rotate_left
                         ·intro w';go_simp;with_reducible rfl
                         rotate_left
                         ·simp only [Act.put, List.setIfInBounds_toArray, List.set_cons_zero, List.set_cons_succ, i64_w, i32_w];rfl
                         refine pure_ (i := 3) (N := some 58) (v := ?_) (a' := ?_) #[true,true,true,true,false,false,false,false,false,false,false,false,false,false,false,false,false,false] rfl rfl (any_of HT_.out (by kernel_rfl)) (fun _ _ _ h => h) (Or.inl ⟨by rfl, ?_⟩) ?_ ?_;rotate_left
                         ·intro w';go_simp;with_reducible rfl
                         rotate_left
                         ·simp only [Act.put, List.setIfInBounds_toArray, List.set_cons_zero, List.set_cons_succ, i64_w, i32_w];rfl
                         refine pure_ (i := 4) (N := some 59) (v := ?_) (a' := ?_) #[true,true,true,true,true,false,false,false,false,false,false,false,false,false,false,false,false,false] rfl rfl (any_of HT_.out (by kernel_rfl)) (fun _ _ _ h => h) (Or.inl ⟨by rfl, ?_⟩) ?_ ?_;rotate_left
                         ·intro w';go_simp;with_reducible rfl
                         rotate_left
                         ·simp only [Act.put, List.setIfInBounds_toArray, List.set_cons_zero, List.set_cons_succ, i64_w, i32_w];rfl
                         refine pure_ (i := 5) (N := some 60) (v := ?_) (a' := ?_) #[true,true,true,true,true,true,false,false,false,false,false,false,false,false,false,false,false,false] rfl rfl (any_of HT_.out (by kernel_rfl)) (fun _ _ _ h => h) (Or.inl ⟨by rfl, ?_⟩) ?_ ?_;rotate_left
                         ·intro w';go_simp;with_reducible rfl
                         rotate_left
                         ·simp only [Act.put, List.setIfInBounds_toArray, List.set_cons_zero, List.set_cons_succ, i64_w, i32_w];rfl
                         refine pure_ (i := 6) (N := some 61) (v := ?_) (a' := ?_) #[true,true,true,true,true,true,true,false,false,false,false,false,false,false,false,false,false,false] rfl rfl (any_of HT_.out (by kernel_rfl)) (fun _ _ _ h => h) (Or.inl ⟨by rfl, ?_⟩) ?_ ?_;rotate_left
                         ·intro w';go_simp;with_reducible rfl
                         rotate_left
                         ·simp only [Act.put, List.setIfInBounds_toArray, List.set_cons_zero, List.set_cons_succ, i64_w, i32_w];rfl
                         refine pure_ (i := 7) (N := some 62) (v := ?_) (a' := ?_) #[true,true,true,true,true,true,true,true,false,false,false,false,false,false,false,false,false,false] rfl rfl (any_of HT_.out (by kernel_rfl)) (fun _ _ _ h => h) (Or.inl ⟨by rfl, ?_⟩) ?_ ?_;rotate_left
                         ·intro w';go_simp;with_reducible rfl
                         rotate_left
                         ·simp only [Act.put, List.setIfInBounds_toArray, List.set_cons_zero, List.set_cons_succ, i64_w, i32_w];rfl
                         refine pure_ (i := 9) (N := some 64) (v := ?_) (a' := ?_) #[true,true,true,true,true,true,true,true,false,true,false,false,false,false,false,false,false,false] rfl rfl (any_of HT_.out (by kernel_rfl)) (fun _ _ _ h => h) (Or.inl ⟨by rfl, ?_⟩) ?_ ?_;rotate_left
                         ·intro w';go_simp;with_reducible rfl
                         rotate_left
                         ·simp only [Act.put, List.setIfInBounds_toArray, List.set_cons_zero, List.set_cons_succ, i64_w, i32_w];rfl
                         refine pure_ (i := 10) (N := some 65) (v := ?_) (a' := ?_) #[true,true,true,true,true,true,true,true,false,true,true,false,false,false,false,false,false,false] rfl rfl (any_of HT_.out (by kernel_rfl)) (fun _ _ _ h => h) (Or.inl ⟨by rfl, ?_⟩) ?_ ?_;rotate_left
                         ·intro w';go_simp;with_reducible rfl
                         rotate_left
                         ·simp only [Act.put, List.setIfInBounds_toArray, List.set_cons_zero, List.set_cons_succ, i64_w, i32_w];rfl
                         refine take_ (i := 8) (N := some 63) (v := ?_) (a' := ?_) #[true,true,true,true,true,true,true,true,true,true,true,false,false,false,false,false,false,false] rfl rfl (take_ofW HT_.out HW_.out (by kernel_rfl)) (fun _ _ _ h => h) (Or.inl ⟨by rfl, ?_⟩) hHeld ?_ ?_;rotate_left
                         ·rintro w' ⟨s0, s1, s2, s3, s4, s5⟩
                          go_simp;with_reducible rfl
                         rotate_left
                         ·simp only [Act.put, List.setIfInBounds_toArray, List.set_cons_zero, List.set_cons_succ, i64_w, i32_w];rfl
                         refine pure_ (i := 11) (N := some 66) (v := ?_) (a' := ?_) #[true,true,true,true,true,true,true,true,true,true,true,true,false,false,false,false,false,false] rfl rfl (any_of HT_.out (by kernel_rfl)) (fun _ _ _ h => h) (Or.inl ⟨by rfl, ?_⟩) ?_ ?_;rotate_left
                         ·intro w';go_simp;with_reducible rfl
                         rotate_left
                         ·simp only [Act.put, List.setIfInBounds_toArray, List.set_cons_zero, List.set_cons_succ, i64_w, i32_w];rfl
                         refine take_ (i := 12) (N := some 67) (v := ?_) (a' := ?_) #[true,true,true,true,true,true,true,true,true,true,true,true,true,false,false,false,false,false] rfl rfl (take_ofW HT_.out HW_.out (by kernel_rfl)) (fun _ _ _ h => h) (Or.inl ⟨by rfl, ?_⟩) hHeld ?_ ?_;rotate_left
                         ·rintro w' ⟨s0, s1, s2, s3, s4, s5⟩
                          go_simp;with_reducible rfl
                         rotate_left
                         ·simp only [Act.put, List.setIfInBounds_toArray, List.set_cons_zero, List.set_cons_succ, i64_w, i32_w];rfl
                         refine take_ (i := 13) (N := some 68) (v := ?_) (a' := ?_) #[true,true,true,true,true,true,true,true,true,true,true,true,true,true,false,false,false,false] rfl rfl (take_ofW HT_.out HW_.out (by kernel_rfl)) (fun _ _ _ h => h) (Or.inl ⟨by rfl, ?_⟩) hHeld ?_ ?_;rotate_left
                         ·rintro w' ⟨s0, s1, s2, s3, s4, s5⟩
                          go_simp;with_reducible rfl
                         rotate_left
                         ·simp only [Act.put, List.setIfInBounds_toArray, List.set_cons_zero, List.set_cons_succ, i64_w, i32_w];rfl
                         refine one_ (i := 14) (N := some 69) #[true,true,true,true,true,true,true,true,true,true,true,true,true,true,true,false,false,false] rfl rfl (one_of HT_.out (by kernel_rfl)) (by decide) (fun K hK => ?_);refine goes_ Tryz.func45 (by kernel_rfl) rfl #[.agg #[.int .i64 ((rd_T41 ((rd_T26 l0 x32_3).f1) (ji27)).f0), .int .i64 ((rd_T41 ((rd_T26 l0 x32_3).f1) (ji27)).f1)], .agg #[.int .i64 ((rd_T41 ((rd_T26 l0 x32_3).f1) x50_5).f0), .int .i64 ((rd_T41 ((rd_T26 l0 x32_3).f1) x50_5).f1)]] (by rfl) rfl rfl (by (try simp only [List.map_toArray, List.map_cons, List.map_nil]); first | done | (simp only [hji27]; rfl) | rfl | (simp only [List.length_drop, List.length_take]; rfl)) ?_
                         with_reducible refine (stamp_Compare.calls k5 ((rd_T41 ((rd_T26 l0 x32_3).f1) (ji27)).f0) ((rd_T41 ((rd_T26 l0 x32_3).f1) (ji27)).f1) ((rd_T41 ((rd_T26 l0 x32_3).f1) x50_5).f0) ((rd_T41 ((rd_T26 l0 x32_3).f1) x50_5).f1) t124 _ A30.out).mono ?_
                         rintro e w45 ⟨rfl, hb⟩
                         refine ⟨_, rfl, ?_⟩
                         have n0_ := Aside0.mk (blk_below (g := gb119) (o := .cells #[.int .i64 ((rd_T26 l0 x32_3).f0), .slice (some ad120) ((rd_T26 l0 x32_3).f1).length c118_1] 26 (0, 0)) (by (with_reducible repeat (first | refine blk_drewN ?_ _ | refine blk_drew ?_ | refine blk_alloc ?_ _)); exact BK119.out) hb)
                         have n1_ := Aside0.mk (blk_below (g := gb121) (o := .cells #[.int .i64 ((rd_T41 ((rd_T26 l0 x32_3).f1) x50_5).f0), .int .i64 ((rd_T41 ((rd_T26 l0 x32_3).f1) x50_5).f1)] 41 (0, 0)) (by (with_reducible repeat (first | refine blk_drewN ?_ _ | refine blk_drew ?_ | refine blk_alloc ?_ _)); exact BK121.out) hb)
                         have n2_ := Aside0.mk (below_step (by repeat (first | (with_reducible first | exact HB.out | apply below_alloc | apply pw_below_drewN | apply below_drew1 | refine below_set ?_ GE119.out | refine below_set ?_ GE121.out) | exact HB.out)) hb)
                         clear BK119 BK121 HB;have BK119 := n0_;have BK121 := n1_;have HB := n2_;clear n0_ n1_ n2_;(try clear hb);(try clear hb2);(try clear hk);(try clear hi);refine hK.out _ _ ⟨(blk_cell BK121.out 0).trans rfl, (blk_cell BK121.out 1).trans rfl, (blk_cell BK119.out 0).trans rfl, (blk_cell BK119.out 1).trans rfl, ((HB.out.cell (World.block_lt_of_cell? w _ hw123_0)).trans hw123_0), ((HB.out.cell (World.block_lt_of_cell? w _ hw123_1)).trans hw123_1)⟩ (fun hHeld => ?_);clear hK K;refine norm_ (a' := ?_) ?_ ?_;rotate_left
                         ·show Act.put _ (some 69) _ = _
                          simp only [Act.put, List.setIfInBounds_toArray, List.set_cons_zero, List.set_cons_succ, i64_w, i32_w];rfl
                         refine pure_ (i := 15) (N := some 70) (v := ?_) (a' := ?_) #[true,true,true,true,true,true,true,true,true,true,true,true,true,true,true,true,false,false] rfl rfl (any_of HT_.out (by kernel_rfl)) (fun _ _ _ h => h) (Or.inl ⟨by rfl, ?_⟩) ?_ ?_;rotate_left
                         ·intro w';go_simp;with_reducible rfl
                         rotate_left
                         ·simp only [Act.put, List.setIfInBounds_toArray, List.set_cons_zero, List.set_cons_succ, i64_w, i32_w];rfl
                         refine pure_ (i := 16) (N := some 71) (v := ?_) (a' := ?_) #[true,true,true,true,true,true,true,true,true,true,true,true,true,true,true,true,true,false] rfl rfl (any_of HT_.out (by kernel_rfl)) (fun _ _ _ h => h) (Or.inl ⟨by rfl, ?_⟩) ?_ ?_;rotate_left
                         ·intro w';go_simp;with_reducible rfl
                         rotate_left
                         ·simp only [Act.put, List.setIfInBounds_toArray, List.set_cons_zero, List.set_cons_succ, i64_w, i32_w];rfl
                         refine pure_ (i := 17) (N := some 72) (v := ?_) (a' := ?_) #[true,true,true,true,true,true,true,true,true,true,true,true,true,true,true,true,true,true] rfl rfl (any_of HT_.out (by kernel_rfl)) (fun _ _ _ h => h) (Or.inl ⟨by rfl, ?_⟩) ?_ ?_;rotate_left
                         ·intro w';go_simp;with_reducible rfl
                         rotate_left
                         ·simp only [Act.put, List.setIfInBounds_toArray, List.set_cons_zero, List.set_cons_succ, i64_w, i32_w];rfl
                         refine done_ (done_of HT_.out (by kernel_rfl)) ?_
                         try go_wp2
                         go_roundg k5
                         case measure => have := HK1.out; have := HJ6.out; have := HK3.out; have := HJ12.out; have := HK5.out; omega
                         case rel => exact ⟨(wrap64 (x50_5 + 1)), (by first | rfl | (simp; done) | (simp [*]; done)), H', ⟨by have := HK1.out; have := HJ6.out; have := HK3.out; have := HJ12.out; have := HK5.out; omega⟩, ⟨by (with_reducible repeat (first | refine blk_drewN ?_ _ | refine blk_drew ?_ | refine blk_alloc ?_ _)); exact BK119.out⟩, ⟨by repeat (first | (with_reducible first | exact HB.out | apply below_alloc | apply pw_below_drewN | apply below_drew1 | refine below_set ?_ GE119.out | refine below_set ?_ GE121.out) | exact HB.out)⟩⟩
                       ·rw [if_neg c29] at H
                        exact absurd H (by simp)
                      ·rw [if_neg c28] at H
                       exact absurd H (by simp)
                     ·rw [if_neg c26] at H
                      have c26b0 : decide (0 < x50_5) = false := decide_eq_false c26
                      clear c26
                      have H' := Aside0.mk H
                      clear H
                      have p120 : 0 ≤ (x50_5 : Int) := of_decide_eq_true (by first | (with_reducible assumption) | assumption)
                      have q120 : x50_5 < (((rd_T26 l0 x32_3).f1).length : Int) := of_decide_eq_true (by first | (with_reducible assumption) | assumption)
                      obtain ⟨ad120, e120, hx120_0, hx120_1⟩ := at_T41 HR118_1.out x50_5 p120 q120
                      cases e120
                      replace hx120_0 := (HB.out.cell (World.block_lt_of_cell? w _ hx120_0)).trans hx120_0
                      replace hx120_1 := (HB.out.cell (World.block_lt_of_cell? w _ hx120_1)).trans hx120_1
                      replace p120 := eq_true p120
                      replace q120 := eq_true q120
                      try go_wp2_with (first | ((with_reducible refine gate_dst (N := 10) rfl ?_); refine box_event ?hg (N := 10) ?hd (cs := #[.int .i64 0, .int .i64 0]) (t := 41) ?hr ?_; (case hd => rfl); (case hg => rfl); (case hr => first | (go_simp; done) | (go_simp; rfl)); intro gb121 hg w46 hbox hb; have n0_ := Aside0.mk (blk_below (g := gb119) (o := .cells #[.int .i64 ((rd_T26 l0 x32_3).f0), .slice (some ad120) ((rd_T26 l0 x32_3).f1).length c118_1] 26 (0, 0)) (by (with_reducible repeat (first | refine blk_drewN ?_ _ | refine blk_drew ?_ | refine blk_alloc ?_ _)); exact BK119.out) hb); have n1_ := Aside0.mk (below_step (by repeat (first | (with_reducible first | exact HB.out | apply below_alloc | apply pw_below_drewN | apply below_drew1 | refine below_set ?_ GE119.out) | exact HB.out)) hb); have n2_ := Aside0.mk (hbox); have n3_ := Aside0.mk ((by rw [hg]; exact (below_size (by repeat (first | (with_reducible first | exact HB.out | apply below_alloc | apply pw_below_drewN | apply below_drew1 | refine below_set ?_ GE119.out) | exact HB.out))) : w.heap.size ≤ gb121)); have n4_ := Aside0.mk ((by rw [hg]; exact (below_size (by repeat (first | (with_reducible first | exact HB.out | apply below_alloc | apply pw_below_drewN | apply below_drew1 | refine below_set ?_ GE119.out) | exact HB.out))) : w.heap.size ≤ gb121)); have n5_ := Aside0.mk ((by rw [hg]; exact Nat.ne_of_lt (blk_lt (g := gb119) (o := .cells #[.int .i64 ((rd_T26 l0 x32_3).f0), .slice (some ad120) ((rd_T26 l0 x32_3).f1).length c118_1] 26 (0, 0)) (by (with_reducible repeat (first | refine blk_drewN ?_ _ | refine blk_drew ?_ | refine blk_alloc ?_ _)); exact BK119.out)) : gb119 ≠ gb121)); have n6_ := Aside0.mk ((by rw [hg]; exact Nat.ne_of_gt (blk_lt (g := gb119) (o := .cells #[.int .i64 ((rd_T26 l0 x32_3).f0), .slice (some ad120) ((rd_T26 l0 x32_3).f1).length c118_1] 26 (0, 0)) (by (with_reducible repeat (first | refine blk_drewN ?_ _ | refine blk_drew ?_ | refine blk_alloc ?_ _)); exact BK119.out)) : gb121 ≠ gb119)); clear BK119; clear HB; have BK119 := n0_; have HB := n1_; have BK121 := n2_; have GW121 := n3_; have GE121 := n4_; have NB119_121 := n5_; have NB121_119 := n6_; clear n0_ n1_ n2_ n3_ n4_ n5_ n6_; clear hb hbox hg; have hnb47 := NB121_119.out; have hnc47 := NB119_121.out; have hcz48_0 : w46.cell? ⟨gb121, 0, none⟩ = some (.int .i64 0) := (blk_cell BK121.out 0).trans rfl; have hcz48_1 : w46.cell? ⟨gb121, 1, none⟩ = some (.int .i64 0) := (blk_cell BK121.out 1).trans rfl; have hfz48_0 := blk_frozen BK121.out 0; have hfz48_1 := blk_frozen BK121.out 1))
                      have n0_ : Aside0 (((w46.setCell ⟨gb121, 0, none⟩ (.int .i64 ((rd_T41 ((rd_T26 l0 x32_3).f1) x50_5).f0))).setCell ⟨gb121, 1, none⟩ (.int .i64 ((rd_T41 ((rd_T26 l0 x32_3).f1) x50_5).f1))).heap[gb119]? = some (.cells #[.int .i64 ((rd_T26 l0 x32_3).f0), .slice (some ad120) ((rd_T26 l0 x32_3).f1).length c118_1] 26 (0, 0))) := ⟨by (with_reducible repeat (first | refine blk_drewN ?_ _ | refine blk_drew ?_ | refine blk_alloc ?_ _)); refine blk_far ?_ NB119_121.out _; (with_reducible repeat (first | refine blk_drewN ?_ _ | refine blk_drew ?_ | refine blk_alloc ?_ _)); refine blk_far ?_ NB119_121.out _; (with_reducible repeat (first | refine blk_drewN ?_ _ | refine blk_drew ?_ | refine blk_alloc ?_ _)); exact BK119.out⟩
                      have n1_ : Aside0 (((w46.setCell ⟨gb121, 0, none⟩ (.int .i64 ((rd_T41 ((rd_T26 l0 x32_3).f1) x50_5).f0))).setCell ⟨gb121, 1, none⟩ (.int .i64 ((rd_T41 ((rd_T26 l0 x32_3).f1) x50_5).f1))).heap[gb121]? = some (.cells #[.int .i64 ((rd_T41 ((rd_T26 l0 x32_3).f1) x50_5).f0), .int .i64 ((rd_T41 ((rd_T26 l0 x32_3).f1) x50_5).f1)] 41 (0, 0))) := ⟨by (with_reducible repeat (first | refine blk_drewN ?_ _ | refine blk_drew ?_ | refine blk_alloc ?_ _)); refine blk_put (cs := #[.int .i64 ((rd_T41 ((rd_T26 l0 x32_3).f1) x50_5).f0), .int .i64 0]) ?_ 1 _ rfl; (with_reducible repeat (first | refine blk_drewN ?_ _ | refine blk_drew ?_ | refine blk_alloc ?_ _)); refine blk_put (cs := #[.int .i64 0, .int .i64 0]) ?_ 0 _ rfl; (with_reducible repeat (first | refine blk_drewN ?_ _ | refine blk_drew ?_ | refine blk_alloc ?_ _)); exact BK121.out⟩
                      have n2_ : Aside0 (Below w.heap.size w ((w46.setCell ⟨gb121, 0, none⟩ (.int .i64 ((rd_T41 ((rd_T26 l0 x32_3).f1) x50_5).f0))).setCell ⟨gb121, 1, none⟩ (.int .i64 ((rd_T41 ((rd_T26 l0 x32_3).f1) x50_5).f1)))) := ⟨by repeat (first | (with_reducible first | exact HB.out | apply below_alloc | apply pw_below_drewN | apply below_drew1 | refine below_set ?_ GE119.out | refine below_set ?_ GE121.out) | exact HB.out)⟩
                      (try clear BK119);(try clear BK121);(try clear HB)
                      generalize ((w46.setCell ⟨gb121, 0, none⟩ (.int .i64 ((rd_T41 ((rd_T26 l0 x32_3).f1) x50_5).f0))).setCell ⟨gb121, 1, none⟩ (.int .i64 ((rd_T41 ((rd_T26 l0 x32_3).f1) x50_5).f1))) = w49 at n0_ n1_ n2_ ⊢
                      have BK119 := n0_;have BK121 := n1_;have HB := n2_;clear n0_ n1_ n2_
                      have n0_ := Aside0.mk (blk_drew BK119.out)
                      have n1_ := Aside0.mk (blk_drew BK121.out)
                      have n2_ := Aside0.mk (below_drew1 HB.out)
                      clear BK119 BK121 HB;have BK119 := n0_;have BK121 := n1_;have HB := n2_;clear n0_ n1_ n2_;refine start_ (n := 18) (S := fun w' => w'.cell? ⟨gb121, 0, none⟩ = some (.int .i64 ((rd_T41 ((rd_T26 l0 x32_3).f1) x50_5).f0)) ∧ w'.cell? ⟨gb121, 1, none⟩ = some (.int .i64 ((rd_T41 ((rd_T26 l0 x32_3).f1) x50_5).f1))) (ds := []) #[false,false,false,false,false,false,false,false,false,false,false,false,false,false,false,false,false,false] (by kernel_rfl) rfl rfl ⟨(blk_cell BK121.out 0).trans rfl, (blk_cell BK121.out 1).trans rfl⟩ (fun hHeld => ?_); refine with_tabW deps_Check.tab19 deps_Check.bits19 (fun HT_ HW_ => ?_)
                      generalize w49.drew = w50 at BK119 BK121 HB hHeld ⊢
                      refine take_ (i := 0) (N := some 55) (v := ?_) (a' := ?_) #[true,false,false,false,false,false,false,false,false,false,false,false,false,false,false,false,false,false] rfl rfl (take_ofW HT_.out HW_.out (by kernel_rfl)) (fun _ _ _ h => h) (Or.inl ⟨by rfl, ?_⟩) hHeld ?_ ?_;rotate_left
                      ·rintro w' ⟨s0, s1⟩
                       go_simp;with_reducible rfl
                      rotate_left
                      ·simp only [Act.put, List.setIfInBounds_toArray, List.set_cons_zero, List.set_cons_succ, i64_w, i32_w];rfl
                      refine one_ (i := 1) (N := some 56) #[true,true,false,false,false,false,false,false,false,false,false,false,false,false,false,false,false,false] rfl rfl (one_of HT_.out (by kernel_rfl)) (by decide) (fun K hK => ?_);refine goes_ Tryz.func44 (by kernel_rfl) rfl #[.agg #[.int .i64 ((rd_T41 ((rd_T26 l0 x32_3).f1) x50_5).f0), .int .i64 ((rd_T41 ((rd_T26 l0 x32_3).f1) x50_5).f1)]] (by rfl) rfl rfl (by (try simp only [List.map_toArray, List.map_cons, List.map_nil]); first | done | rfl | (simp only [List.length_drop, List.length_take]; rfl)) ?_
                      with_reducible refine (stamp_Check.calls ((rd_T41 ((rd_T26 l0 x32_3).f1) x50_5).f0) ((rd_T41 ((rd_T26 l0 x32_3).f1) x50_5).f1) t122 _ A24.out).mono ?_
                      rintro e w51 ⟨rfl, hb⟩
                      refine ⟨_, rfl, ?_⟩
                      have n0_ := Aside0.mk (blk_below (g := gb119) (o := .cells #[.int .i64 ((rd_T26 l0 x32_3).f0), .slice (some ad120) ((rd_T26 l0 x32_3).f1).length c118_1] 26 (0, 0)) (by (with_reducible repeat (first | refine blk_drewN ?_ _ | refine blk_drew ?_ | refine blk_alloc ?_ _)); exact BK119.out) hb)
                      have n1_ := Aside0.mk (blk_below (g := gb121) (o := .cells #[.int .i64 ((rd_T41 ((rd_T26 l0 x32_3).f1) x50_5).f0), .int .i64 ((rd_T41 ((rd_T26 l0 x32_3).f1) x50_5).f1)] 41 (0, 0)) (by (with_reducible repeat (first | refine blk_drewN ?_ _ | refine blk_drew ?_ | refine blk_alloc ?_ _)); exact BK121.out) hb)
                      have n2_ := Aside0.mk (below_step (by repeat (first | (with_reducible first | exact HB.out | apply below_alloc | apply pw_below_drewN | apply below_drew1 | refine below_set ?_ GE119.out | refine below_set ?_ GE121.out) | exact HB.out)) hb)
                      clear BK119 BK121 HB;have BK119 := n0_;have BK121 := n1_;have HB := n2_;clear n0_ n1_ n2_;(try clear hb);(try clear hb2);(try clear hk);(try clear hi);refine hK.out _ _ ⟨(blk_cell BK121.out 0).trans rfl, (blk_cell BK121.out 1).trans rfl⟩ (fun hHeld => ?_);clear hK K;refine norm_ (a' := ?_) ?_ ?_;rotate_left
                      ·show Act.put _ (some 56) _ = _
                       simp only [Act.put, List.setIfInBounds_toArray, List.set_cons_zero, List.set_cons_succ, i64_w, i32_w];rfl
                      refine pure_ (i := 2) (N := some 57) (v := ?_) (a' := ?_) #[true,true,true,false,false,false,false,false,false,false,false,false,false,false,false,false,false,false] rfl rfl (any_of HT_.out (by kernel_rfl)) (fun _ _ _ h => h) (Or.inl ⟨by rfl, ?_⟩) ?_ ?_;rotate_left
                      ·intro w';go_simp;with_reducible rfl
                      rotate_left
                      ·simp only [Act.put, List.setIfInBounds_toArray, List.set_cons_zero, List.set_cons_succ, i64_w, i32_w];rfl
                      refine pure_ (i := 3) (N := some 58) (v := ?_) (a' := ?_) #[true,true,true,true,false,false,false,false,false,false,false,false,false,false,false,false,false,false] rfl rfl (any_of HT_.out (by kernel_rfl)) (fun _ _ _ h => h) (Or.inl ⟨by rfl, ?_⟩) ?_ ?_;rotate_left
                      ·intro w';go_simp;with_reducible rfl
                      rotate_left
                      ·simp only [Act.put, List.setIfInBounds_toArray, List.set_cons_zero, List.set_cons_succ, i64_w, i32_w];rfl
                      refine pure_ (i := 4) (N := some 59) (v := ?_) (a' := ?_) #[true,true,true,true,true,false,false,false,false,false,false,false,false,false,false,false,false,false] rfl rfl (any_of HT_.out (by kernel_rfl)) (fun _ _ _ h => h) (Or.inl ⟨by rfl, ?_⟩) ?_ ?_;rotate_left
                      ·intro w';go_simp;with_reducible rfl
                      rotate_left
                      ·simp only [Act.put, List.setIfInBounds_toArray, List.set_cons_zero, List.set_cons_succ, i64_w, i32_w];rfl
                      refine pure_ (i := 5) (N := some 60) (v := ?_) (a' := ?_) #[true,true,true,true,true,true,false,false,false,false,false,false,false,false,false,false,false,false] rfl rfl (any_of HT_.out (by kernel_rfl)) (fun _ _ _ h => h) (Or.inl ⟨by rfl, ?_⟩) ?_ ?_;rotate_left
                      ·intro w';go_simp;with_reducible rfl
                      rotate_left
                      ·simp only [Act.put, List.setIfInBounds_toArray, List.set_cons_zero, List.set_cons_succ, i64_w, i32_w];rfl
                      refine pure_ (i := 6) (N := some 61) (v := ?_) (a' := ?_) #[true,true,true,true,true,true,true,false,false,false,false,false,false,false,false,false,false,false] rfl rfl (any_of HT_.out (by kernel_rfl)) (fun _ _ _ h => h) (Or.inl ⟨by rfl, ?_⟩) ?_ ?_;rotate_left
                      ·intro w';go_simp;with_reducible rfl
                      rotate_left
                      ·simp only [Act.put, List.setIfInBounds_toArray, List.set_cons_zero, List.set_cons_succ, i64_w, i32_w];rfl
                      refine pure_ (i := 7) (N := some 62) (v := undef) (a' := ?_) #[true,true,true,true,true,true,true,true,false,false,false,false,false,false,false,false,false,false] rfl rfl (any_of HT_.out (by kernel_rfl)) (fun _ _ _ h => h) (Or.inr ⟨by rfl, rfl⟩) ?_ ?_;rotate_left
                      ·simp only [Act.put, List.setIfInBounds_toArray, List.set_cons_zero, List.set_cons_succ, i64_w, i32_w];rfl
                      refine pure_ (i := 8) (N := some 63) (v := undef) (a' := ?_) #[true,true,true,true,true,true,true,true,true,false,false,false,false,false,false,false,false,false] rfl rfl (any_of HT_.out (by kernel_rfl)) (fun _ _ _ h => h) (Or.inr ⟨by rfl, rfl⟩) ?_ ?_;rotate_left
                      ·simp only [Act.put, List.setIfInBounds_toArray, List.set_cons_zero, List.set_cons_succ, i64_w, i32_w];rfl
                      refine pure_ (i := 9) (N := some 64) (v := undef) (a' := ?_) #[true,true,true,true,true,true,true,true,true,true,false,false,false,false,false,false,false,false] rfl rfl (any_of HT_.out (by kernel_rfl)) (fun _ _ _ h => h) (Or.inr ⟨by rfl, rfl⟩) ?_ ?_;rotate_left
                      ·simp only [Act.put, List.setIfInBounds_toArray, List.set_cons_zero, List.set_cons_succ, i64_w, i32_w];rfl
                      refine pure_ (i := 10) (N := some 65) (v := undef) (a' := ?_) #[true,true,true,true,true,true,true,true,true,true,true,false,false,false,false,false,false,false] rfl rfl (any_of HT_.out (by kernel_rfl)) (fun _ _ _ h => h) (Or.inr ⟨by rfl, rfl⟩) ?_ ?_;rotate_left
                      ·simp only [Act.put, List.setIfInBounds_toArray, List.set_cons_zero, List.set_cons_succ, i64_w, i32_w];rfl
                      refine pure_ (i := 11) (N := some 66) (v := undef) (a' := ?_) #[true,true,true,true,true,true,true,true,true,true,true,true,false,false,false,false,false,false] rfl rfl (any_of HT_.out (by kernel_rfl)) (fun _ _ _ h => h) (Or.inr ⟨by rfl, rfl⟩) ?_ ?_;rotate_left
                      ·simp only [Act.put, List.setIfInBounds_toArray, List.set_cons_zero, List.set_cons_succ, i64_w, i32_w];rfl
                      refine pure_ (i := 12) (N := some 67) (v := undef) (a' := ?_) #[true,true,true,true,true,true,true,true,true,true,true,true,true,false,false,false,false,false] rfl rfl (any_of HT_.out (by kernel_rfl)) (fun _ _ _ h => h) (Or.inr ⟨by rfl, rfl⟩) ?_ ?_;rotate_left
                      ·simp only [Act.put, List.setIfInBounds_toArray, List.set_cons_zero, List.set_cons_succ, i64_w, i32_w];rfl
                      refine pure_ (i := 13) (N := some 68) (v := undef) (a' := ?_) #[true,true,true,true,true,true,true,true,true,true,true,true,true,true,false,false,false,false] rfl rfl (any_of HT_.out (by kernel_rfl)) (fun _ _ _ h => h) (Or.inr ⟨by rfl, rfl⟩) ?_ ?_;rotate_left
                      ·simp only [Act.put, List.setIfInBounds_toArray, List.set_cons_zero, List.set_cons_succ, i64_w, i32_w];rfl
                      refine pure_ (i := 14) (N := some 69) (v := undef) (a' := ?_) #[true,true,true,true,true,true,true,true,true,true,true,true,true,true,true,false,false,false] rfl rfl (any_of HT_.out (by kernel_rfl)) (fun _ _ _ h => h) (Or.inr ⟨by rfl, rfl⟩) ?_ ?_;rotate_left
                      ·simp only [Act.put, List.setIfInBounds_toArray, List.set_cons_zero, List.set_cons_succ, i64_w, i32_w];rfl
                      refine pure_ (i := 15) (N := some 70) (v := undef) (a' := ?_) #[true,true,true,true,true,true,true,true,true,true,true,true,true,true,true,true,false,false] rfl rfl (any_of HT_.out (by kernel_rfl)) (fun _ _ _ h => h) (Or.inr ⟨by rfl, rfl⟩) ?_ ?_;rotate_left
                      ·simp only [Act.put, List.setIfInBounds_toArray, List.set_cons_zero, List.set_cons_succ, i64_w, i32_w];rfl
                      refine pure_ (i := 16) (N := some 71) (v := ?_) (a' := ?_) #[true,true,true,true,true,true,true,true,true,true,true,true,true,true,true,true,true,false] rfl rfl (any_of HT_.out (by kernel_rfl)) (fun _ _ _ h => h) (Or.inl ⟨by rfl, ?_⟩) ?_ ?_;rotate_left
                      ·intro w';go_simp;with_reducible rfl
                      rotate_left
                      ·simp only [Act.put, List.setIfInBounds_toArray, List.set_cons_zero, List.set_cons_succ, i64_w, i32_w];rfl
                      refine pure_ (i := 17) (N := some 72) (v := ?_) (a' := ?_) #[true,true,true,true,true,true,true,true,true,true,true,true,true,true,true,true,true,true] rfl rfl (any_of HT_.out (by kernel_rfl)) (fun _ _ _ h => h) (Or.inl ⟨by rfl, ?_⟩) ?_ ?_;rotate_left
                      ·intro w';go_simp;with_reducible rfl
                      rotate_left
                      ·simp only [Act.put, List.setIfInBounds_toArray, List.set_cons_zero, List.set_cons_succ, i64_w, i32_w];rfl
                      refine done_ (done_of HT_.out (by kernel_rfl)) ?_
                      try go_wp2
                      go_roundg k5
                      case measure => have := HK1.out; have := HJ6.out; have := HK3.out; have := HJ12.out; have := HK5.out; omega
                      case rel => exact ⟨(wrap64 (x50_5 + 1)), (by first | rfl | (simp; done) | (simp [*]; done)), H', ⟨by have := HK1.out; have := HJ6.out; have := HK3.out; have := HJ12.out; have := HK5.out; omega⟩, ⟨by (with_reducible repeat (first | refine blk_drewN ?_ _ | refine blk_drew ?_ | refine blk_alloc ?_ _)); exact BK119.out⟩, ⟨by repeat (first | (with_reducible first | exact HB.out | apply below_alloc | apply pw_below_drewN | apply below_drew1 | refine below_set ?_ GE119.out | refine below_set ?_ GE121.out) | exact HB.out)⟩⟩
                    ·rw [if_neg c25] at H
                     have c25b0 : (t122 == 0) = false := beq_eq_false_iff_ne.mpr c25
                     have c25b1 : (t122 != 0) = true := bne_iff_ne.mpr c25
                     obtain rfl := Option.some.inj H
                     have p120 : 0 ≤ (x50_5 : Int) := of_decide_eq_true (by first | (with_reducible assumption) | assumption)
                     have q120 : x50_5 < (((rd_T26 l0 x32_3).f1).length : Int) := of_decide_eq_true (by first | (with_reducible assumption) | assumption)
                     obtain ⟨ad120, e120, hx120_0, hx120_1⟩ := at_T41 HR118_1.out x50_5 p120 q120
                     cases e120
                     replace hx120_0 := (HB.out.cell (World.block_lt_of_cell? w _ hx120_0)).trans hx120_0
                     replace hx120_1 := (HB.out.cell (World.block_lt_of_cell? w _ hx120_1)).trans hx120_1
                     replace p120 := eq_true p120
                     replace q120 := eq_true q120
                     try go_wp2_with (first | ((with_reducible refine gate_dst (N := 10) rfl ?_); refine box_event ?hg (N := 10) ?hd (cs := #[.int .i64 0, .int .i64 0]) (t := 41) ?hr ?_; (case hd => rfl); (case hg => rfl); (case hr => first | (go_simp; done) | (go_simp; rfl)); intro gb121 hg w52 hbox hb; have n0_ := Aside0.mk (blk_below (g := gb119) (o := .cells #[.int .i64 ((rd_T26 l0 x32_3).f0), .slice (some ad120) ((rd_T26 l0 x32_3).f1).length c118_1] 26 (0, 0)) (by (with_reducible repeat (first | refine blk_drewN ?_ _ | refine blk_drew ?_ | refine blk_alloc ?_ _)); exact BK119.out) hb); have n1_ := Aside0.mk (below_step (by repeat (first | (with_reducible first | exact HB.out | apply below_alloc | apply pw_below_drewN | apply below_drew1 | refine below_set ?_ GE119.out) | exact HB.out)) hb); have n2_ := Aside0.mk (hbox); have n3_ := Aside0.mk ((by rw [hg]; exact (below_size (by repeat (first | (with_reducible first | exact HB.out | apply below_alloc | apply pw_below_drewN | apply below_drew1 | refine below_set ?_ GE119.out) | exact HB.out))) : w.heap.size ≤ gb121)); have n4_ := Aside0.mk ((by rw [hg]; exact (below_size (by repeat (first | (with_reducible first | exact HB.out | apply below_alloc | apply pw_below_drewN | apply below_drew1 | refine below_set ?_ GE119.out) | exact HB.out))) : w.heap.size ≤ gb121)); have n5_ := Aside0.mk ((by rw [hg]; exact Nat.ne_of_lt (blk_lt (g := gb119) (o := .cells #[.int .i64 ((rd_T26 l0 x32_3).f0), .slice (some ad120) ((rd_T26 l0 x32_3).f1).length c118_1] 26 (0, 0)) (by (with_reducible repeat (first | refine blk_drewN ?_ _ | refine blk_drew ?_ | refine blk_alloc ?_ _)); exact BK119.out)) : gb119 ≠ gb121)); have n6_ := Aside0.mk ((by rw [hg]; exact Nat.ne_of_gt (blk_lt (g := gb119) (o := .cells #[.int .i64 ((rd_T26 l0 x32_3).f0), .slice (some ad120) ((rd_T26 l0 x32_3).f1).length c118_1] 26 (0, 0)) (by (with_reducible repeat (first | refine blk_drewN ?_ _ | refine blk_drew ?_ | refine blk_alloc ?_ _)); exact BK119.out)) : gb121 ≠ gb119)); clear BK119; clear HB; have BK119 := n0_; have HB := n1_; have BK121 := n2_; have GW121 := n3_; have GE121 := n4_; have NB119_121 := n5_; have NB121_119 := n6_; clear n0_ n1_ n2_ n3_ n4_ n5_ n6_; clear hb hbox hg; have hnb53 := NB121_119.out; have hnc53 := NB119_121.out; have hcz54_0 : w52.cell? ⟨gb121, 0, none⟩ = some (.int .i64 0) := (blk_cell BK121.out 0).trans rfl; have hcz54_1 : w52.cell? ⟨gb121, 1, none⟩ = some (.int .i64 0) := (blk_cell BK121.out 1).trans rfl; have hfz54_0 := blk_frozen BK121.out 0; have hfz54_1 := blk_frozen BK121.out 1))
                     have n0_ : Aside0 (((w52.setCell ⟨gb121, 0, none⟩ (.int .i64 ((rd_T41 ((rd_T26 l0 x32_3).f1) x50_5).f0))).setCell ⟨gb121, 1, none⟩ (.int .i64 ((rd_T41 ((rd_T26 l0 x32_3).f1) x50_5).f1))).heap[gb119]? = some (.cells #[.int .i64 ((rd_T26 l0 x32_3).f0), .slice (some ad120) ((rd_T26 l0 x32_3).f1).length c118_1] 26 (0, 0))) := ⟨by (with_reducible repeat (first | refine blk_drewN ?_ _ | refine blk_drew ?_ | refine blk_alloc ?_ _)); refine blk_far ?_ NB119_121.out _; (with_reducible repeat (first | refine blk_drewN ?_ _ | refine blk_drew ?_ | refine blk_alloc ?_ _)); refine blk_far ?_ NB119_121.out _; (with_reducible repeat (first | refine blk_drewN ?_ _ | refine blk_drew ?_ | refine blk_alloc ?_ _)); exact BK119.out⟩
                     have n1_ : Aside0 (((w52.setCell ⟨gb121, 0, none⟩ (.int .i64 ((rd_T41 ((rd_T26 l0 x32_3).f1) x50_5).f0))).setCell ⟨gb121, 1, none⟩ (.int .i64 ((rd_T41 ((rd_T26 l0 x32_3).f1) x50_5).f1))).heap[gb121]? = some (.cells #[.int .i64 ((rd_T41 ((rd_T26 l0 x32_3).f1) x50_5).f0), .int .i64 ((rd_T41 ((rd_T26 l0 x32_3).f1) x50_5).f1)] 41 (0, 0))) := ⟨by (with_reducible repeat (first | refine blk_drewN ?_ _ | refine blk_drew ?_ | refine blk_alloc ?_ _)); refine blk_put (cs := #[.int .i64 ((rd_T41 ((rd_T26 l0 x32_3).f1) x50_5).f0), .int .i64 0]) ?_ 1 _ rfl; (with_reducible repeat (first | refine blk_drewN ?_ _ | refine blk_drew ?_ | refine blk_alloc ?_ _)); refine blk_put (cs := #[.int .i64 0, .int .i64 0]) ?_ 0 _ rfl; (with_reducible repeat (first | refine blk_drewN ?_ _ | refine blk_drew ?_ | refine blk_alloc ?_ _)); exact BK121.out⟩
                     have n2_ : Aside0 (Below w.heap.size w ((w52.setCell ⟨gb121, 0, none⟩ (.int .i64 ((rd_T41 ((rd_T26 l0 x32_3).f1) x50_5).f0))).setCell ⟨gb121, 1, none⟩ (.int .i64 ((rd_T41 ((rd_T26 l0 x32_3).f1) x50_5).f1)))) := ⟨by repeat (first | (with_reducible first | exact HB.out | apply below_alloc | apply pw_below_drewN | apply below_drew1 | refine below_set ?_ GE119.out | refine below_set ?_ GE121.out) | exact HB.out)⟩
                     (try clear BK119);(try clear BK121);(try clear HB)
                     generalize ((w52.setCell ⟨gb121, 0, none⟩ (.int .i64 ((rd_T41 ((rd_T26 l0 x32_3).f1) x50_5).f0))).setCell ⟨gb121, 1, none⟩ (.int .i64 ((rd_T41 ((rd_T26 l0 x32_3).f1) x50_5).f1))) = w55 at n0_ n1_ n2_ ⊢
                     have BK119 := n0_;have BK121 := n1_;have HB := n2_;clear n0_ n1_ n2_
                     have n0_ := Aside0.mk (blk_drew BK119.out)
                     have n1_ := Aside0.mk (blk_drew BK121.out)
                     have n2_ := Aside0.mk (below_drew1 HB.out)
                     clear BK119 BK121 HB;have BK119 := n0_;have BK121 := n1_;have HB := n2_;clear n0_ n1_ n2_;refine start_ (n := 18) (S := fun w' => w'.cell? ⟨gb121, 0, none⟩ = some (.int .i64 ((rd_T41 ((rd_T26 l0 x32_3).f1) x50_5).f0)) ∧ w'.cell? ⟨gb121, 1, none⟩ = some (.int .i64 ((rd_T41 ((rd_T26 l0 x32_3).f1) x50_5).f1))) (ds := []) #[false,false,false,false,false,false,false,false,false,false,false,false,false,false,false,false,false,false] (by kernel_rfl) rfl rfl ⟨(blk_cell BK121.out 0).trans rfl, (blk_cell BK121.out 1).trans rfl⟩ (fun hHeld => ?_); refine with_tabW deps_Check.tab19 deps_Check.bits19 (fun HT_ HW_ => ?_)
                     generalize w55.drew = w56 at BK119 BK121 HB hHeld ⊢
                     refine take_ (i := 0) (N := some 55) (v := ?_) (a' := ?_) #[true,false,false,false,false,false,false,false,false,false,false,false,false,false,false,false,false,false] rfl rfl (take_ofW HT_.out HW_.out (by kernel_rfl)) (fun _ _ _ h => h) (Or.inl ⟨by rfl, ?_⟩) hHeld ?_ ?_;rotate_left
                     ·rintro w' ⟨s0, s1⟩
                      go_simp;with_reducible rfl
                     rotate_left
                     ·simp only [Act.put, List.setIfInBounds_toArray, List.set_cons_zero, List.set_cons_succ, i64_w, i32_w];rfl
                     refine one_ (i := 1) (N := some 56) #[true,true,false,false,false,false,false,false,false,false,false,false,false,false,false,false,false,false] rfl rfl (one_of HT_.out (by kernel_rfl)) (by decide) (fun K hK => ?_);refine goes_ Tryz.func44 (by kernel_rfl) rfl #[.agg #[.int .i64 ((rd_T41 ((rd_T26 l0 x32_3).f1) x50_5).f0), .int .i64 ((rd_T41 ((rd_T26 l0 x32_3).f1) x50_5).f1)]] (by rfl) rfl rfl (by (try simp only [List.map_toArray, List.map_cons, List.map_nil]); first | done | rfl | (simp only [List.length_drop, List.length_take]; rfl)) ?_
                     with_reducible refine (stamp_Check.calls ((rd_T41 ((rd_T26 l0 x32_3).f1) x50_5).f0) ((rd_T41 ((rd_T26 l0 x32_3).f1) x50_5).f1) t122 _ A24.out).mono ?_
                     rintro e w57 ⟨rfl, hb⟩
                     refine ⟨_, rfl, ?_⟩
                     have n0_ := Aside0.mk (blk_below (g := gb119) (o := .cells #[.int .i64 ((rd_T26 l0 x32_3).f0), .slice (some ad120) ((rd_T26 l0 x32_3).f1).length c118_1] 26 (0, 0)) (by (with_reducible repeat (first | refine blk_drewN ?_ _ | refine blk_drew ?_ | refine blk_alloc ?_ _)); exact BK119.out) hb)
                     have n1_ := Aside0.mk (blk_below (g := gb121) (o := .cells #[.int .i64 ((rd_T41 ((rd_T26 l0 x32_3).f1) x50_5).f0), .int .i64 ((rd_T41 ((rd_T26 l0 x32_3).f1) x50_5).f1)] 41 (0, 0)) (by (with_reducible repeat (first | refine blk_drewN ?_ _ | refine blk_drew ?_ | refine blk_alloc ?_ _)); exact BK121.out) hb)
                     have n2_ := Aside0.mk (below_step (by repeat (first | (with_reducible first | exact HB.out | apply below_alloc | apply pw_below_drewN | apply below_drew1 | refine below_set ?_ GE119.out | refine below_set ?_ GE121.out) | exact HB.out)) hb)
                     clear BK119 BK121 HB;have BK119 := n0_;have BK121 := n1_;have HB := n2_;clear n0_ n1_ n2_;(try clear hb);(try clear hb2);(try clear hk);(try clear hi);refine hK.out _ _ ⟨(blk_cell BK121.out 0).trans rfl, (blk_cell BK121.out 1).trans rfl⟩ (fun hHeld => ?_);clear hK K;refine norm_ (a' := ?_) ?_ ?_;rotate_left
                     ·show Act.put _ (some 56) _ = _
                      simp only [Act.put, List.setIfInBounds_toArray, List.set_cons_zero, List.set_cons_succ, i64_w, i32_w];rfl
                     refine pure_ (i := 2) (N := some 57) (v := ?_) (a' := ?_) #[true,true,true,false,false,false,false,false,false,false,false,false,false,false,false,false,false,false] rfl rfl (any_of HT_.out (by kernel_rfl)) (fun _ _ _ h => h) (Or.inl ⟨by rfl, ?_⟩) ?_ ?_;rotate_left
                     ·intro w';go_simp;with_reducible rfl
                     rotate_left
                     ·simp only [Act.put, List.setIfInBounds_toArray, List.set_cons_zero, List.set_cons_succ, i64_w, i32_w];rfl
                     refine pure_ (i := 3) (N := some 58) (v := ?_) (a' := ?_) #[true,true,true,true,false,false,false,false,false,false,false,false,false,false,false,false,false,false] rfl rfl (any_of HT_.out (by kernel_rfl)) (fun _ _ _ h => h) (Or.inl ⟨by rfl, ?_⟩) ?_ ?_;rotate_left
                     ·intro w';go_simp;with_reducible rfl
                     rotate_left
                     ·simp only [Act.put, List.setIfInBounds_toArray, List.set_cons_zero, List.set_cons_succ, i64_w, i32_w];rfl
                     refine pure_ (i := 4) (N := some 59) (v := undef) (a' := ?_) #[true,true,true,true,true,false,false,false,false,false,false,false,false,false,false,false,false,false] rfl rfl (any_of HT_.out (by kernel_rfl)) (fun _ _ _ h => h) (Or.inr ⟨by rfl, rfl⟩) ?_ ?_;rotate_left
                     ·simp only [Act.put, List.setIfInBounds_toArray, List.set_cons_zero, List.set_cons_succ, i64_w, i32_w];rfl
                     refine pure_ (i := 5) (N := some 60) (v := undef) (a' := ?_) #[true,true,true,true,true,true,false,false,false,false,false,false,false,false,false,false,false,false] rfl rfl (any_of HT_.out (by kernel_rfl)) (fun _ _ _ h => h) (Or.inr ⟨by rfl, rfl⟩) ?_ ?_;rotate_left
                     ·simp only [Act.put, List.setIfInBounds_toArray, List.set_cons_zero, List.set_cons_succ, i64_w, i32_w];rfl
                     refine pure_ (i := 6) (N := some 61) (v := undef) (a' := ?_) #[true,true,true,true,true,true,true,false,false,false,false,false,false,false,false,false,false,false] rfl rfl (any_of HT_.out (by kernel_rfl)) (fun _ _ _ h => h) (Or.inr ⟨by rfl, rfl⟩) ?_ ?_;rotate_left
                     ·simp only [Act.put, List.setIfInBounds_toArray, List.set_cons_zero, List.set_cons_succ, i64_w, i32_w];rfl
                     refine pure_ (i := 7) (N := some 62) (v := undef) (a' := ?_) #[true,true,true,true,true,true,true,true,false,false,false,false,false,false,false,false,false,false] rfl rfl (any_of HT_.out (by kernel_rfl)) (fun _ _ _ h => h) (Or.inr ⟨by rfl, rfl⟩) ?_ ?_;rotate_left
                     ·simp only [Act.put, List.setIfInBounds_toArray, List.set_cons_zero, List.set_cons_succ, i64_w, i32_w];rfl
                     refine pure_ (i := 8) (N := some 63) (v := undef) (a' := ?_) #[true,true,true,true,true,true,true,true,true,false,false,false,false,false,false,false,false,false] rfl rfl (any_of HT_.out (by kernel_rfl)) (fun _ _ _ h => h) (Or.inr ⟨by rfl, rfl⟩) ?_ ?_;rotate_left
                     ·simp only [Act.put, List.setIfInBounds_toArray, List.set_cons_zero, List.set_cons_succ, i64_w, i32_w];rfl
                     refine pure_ (i := 9) (N := some 64) (v := undef) (a' := ?_) #[true,true,true,true,true,true,true,true,true,true,false,false,false,false,false,false,false,false] rfl rfl (any_of HT_.out (by kernel_rfl)) (fun _ _ _ h => h) (Or.inr ⟨by rfl, rfl⟩) ?_ ?_;rotate_left
                     ·simp only [Act.put, List.setIfInBounds_toArray, List.set_cons_zero, List.set_cons_succ, i64_w, i32_w];rfl
                     refine pure_ (i := 10) (N := some 65) (v := undef) (a' := ?_) #[true,true,true,true,true,true,true,true,true,true,true,false,false,false,false,false,false,false] rfl rfl (any_of HT_.out (by kernel_rfl)) (fun _ _ _ h => h) (Or.inr ⟨by rfl, rfl⟩) ?_ ?_;rotate_left
                     ·simp only [Act.put, List.setIfInBounds_toArray, List.set_cons_zero, List.set_cons_succ, i64_w, i32_w];rfl
                     refine pure_ (i := 11) (N := some 66) (v := undef) (a' := ?_) #[true,true,true,true,true,true,true,true,true,true,true,true,false,false,false,false,false,false] rfl rfl (any_of HT_.out (by kernel_rfl)) (fun _ _ _ h => h) (Or.inr ⟨by rfl, rfl⟩) ?_ ?_;rotate_left
                     ·simp only [Act.put, List.setIfInBounds_toArray, List.set_cons_zero, List.set_cons_succ, i64_w, i32_w];rfl
                     refine pure_ (i := 12) (N := some 67) (v := undef) (a' := ?_) #[true,true,true,true,true,true,true,true,true,true,true,true,true,false,false,false,false,false] rfl rfl (any_of HT_.out (by kernel_rfl)) (fun _ _ _ h => h) (Or.inr ⟨by rfl, rfl⟩) ?_ ?_;rotate_left
                     ·simp only [Act.put, List.setIfInBounds_toArray, List.set_cons_zero, List.set_cons_succ, i64_w, i32_w];rfl
                     refine pure_ (i := 13) (N := some 68) (v := undef) (a' := ?_) #[true,true,true,true,true,true,true,true,true,true,true,true,true,true,false,false,false,false] rfl rfl (any_of HT_.out (by kernel_rfl)) (fun _ _ _ h => h) (Or.inr ⟨by rfl, rfl⟩) ?_ ?_;rotate_left
                     ·simp only [Act.put, List.setIfInBounds_toArray, List.set_cons_zero, List.set_cons_succ, i64_w, i32_w];rfl
                     refine pure_ (i := 14) (N := some 69) (v := undef) (a' := ?_) #[true,true,true,true,true,true,true,true,true,true,true,true,true,true,true,false,false,false] rfl rfl (any_of HT_.out (by kernel_rfl)) (fun _ _ _ h => h) (Or.inr ⟨by rfl, rfl⟩) ?_ ?_;rotate_left
                     ·simp only [Act.put, List.setIfInBounds_toArray, List.set_cons_zero, List.set_cons_succ, i64_w, i32_w];rfl
                     refine pure_ (i := 15) (N := some 70) (v := undef) (a' := ?_) #[true,true,true,true,true,true,true,true,true,true,true,true,true,true,true,true,false,false] rfl rfl (any_of HT_.out (by kernel_rfl)) (fun _ _ _ h => h) (Or.inr ⟨by rfl, rfl⟩) ?_ ?_;rotate_left
                     ·simp only [Act.put, List.setIfInBounds_toArray, List.set_cons_zero, List.set_cons_succ, i64_w, i32_w];rfl
                     refine pure_ (i := 16) (N := some 71) (v := undef) (a' := ?_) #[true,true,true,true,true,true,true,true,true,true,true,true,true,true,true,true,true,false] rfl rfl (any_of HT_.out (by kernel_rfl)) (fun _ _ _ h => h) (Or.inr ⟨by rfl, rfl⟩) ?_ ?_;rotate_left
                     ·simp only [Act.put, List.setIfInBounds_toArray, List.set_cons_zero, List.set_cons_succ, i64_w, i32_w];rfl
                     refine pure_ (i := 17) (N := some 72) (v := ?_) (a' := ?_) #[true,true,true,true,true,true,true,true,true,true,true,true,true,true,true,true,true,true] rfl rfl (any_of HT_.out (by kernel_rfl)) (fun _ _ _ h => h) (Or.inl ⟨by rfl, ?_⟩) ?_ ?_;rotate_left
                     ·intro w';go_simp;with_reducible rfl
                     rotate_left
                     ·simp only [Act.put, List.setIfInBounds_toArray, List.set_cons_zero, List.set_cons_succ, i64_w, i32_w];rfl
                     refine done_ (done_of HT_.out (by kernel_rfl)) ?_
                     try go_wp2
                     go_ret
                     exact ⟨by first | rfl | (simp [errW_none, errW_some] <;> rfl) | (simp [*, errW_none, errW_some] <;> rfl), by repeat (first | (with_reducible first | exact HB.out | apply below_alloc | apply pw_below_drewN | apply below_drew1 | refine below_set ?_ GE119.out | refine below_set ?_ GE121.out) | exact HB.out)⟩
                   ·rw [if_neg c23] at H
                    exact absurd H (by simp)
                  ·rw [if_neg c22] at H
                   exact absurd H (by simp)
                 ·rw [if_neg c21] at H
                  have c21b0 : decide (x50_5 < (((rd_T26 l0 x32_3).f1).length : Int)) = false := decide_eq_false c21
                  clear c21
                  have H' := Aside0.mk H
                  clear H
                  go_wp2
                  go_roundg k5
                  case measure => have := HK1.out; have := HJ6.out; have := HK3.out; have := HJ12.out; have := HK5.out; omega
                  case rel => exact ⟨(((rd_T26 l0 x32_3).f0)), (wrap64 (x32_3 + 1)), (by first | rfl | (simp; done) | (simp [*]; done)), (by first | rfl | (simp; done) | (simp [*]; done)), H', ⟨by have := HK1.out; have := HJ6.out; have := HK3.out; have := HJ12.out; have := HK5.out; omega⟩, ⟨by repeat (first | (with_reducible first | exact HB.out | apply below_alloc | apply pw_below_drewN | apply below_drew1 | refine below_set ?_ GE119.out) | exact HB.out)⟩⟩
           ·rw [if_neg c12] at H
            exact absurd H (by simp)
          ·rw [if_neg c11] at H
           exact absurd H (by simp)
         ·rw [if_neg c10] at H
          have c10b0 : decide (x32_3 < (l0.length : Int)) = false := decide_eq_false c10
          clear c10;obtain rfl := Option.some.inj H
          go_wp2
          go_ret
          exact ⟨by first | rfl | (simp [errW_none, errW_some] <;> rfl) | (simp [*, errW_none, errW_some] <;> rfl), by repeat (first | (with_reducible first | exact HB.out | apply below_alloc | apply pw_below_drewN | apply below_drew1) | exact HB.out)⟩
end Go.Proofs.YtaedlmeaconflaaGreat.P
end
section
set_option linter.unusedVariables false
set_option linter.unusedSimpArgs false
namespace Go.Proofs.YtaedlmeaconflaaGreat.P
open Go.RowKit Go.Proofs.YtaedlmeaconflaaGreatW.PrintWords Go.Proofs.YtaedlmeaconflaaGreatW.PrintLast Go.Proofs.YtaedlmeaconflaaGreatW.PrintMore
def pLoop : Nat → Int → Sight → List S26 × Sight
  | 0, _, s => ([], s)
  | k + 1, n, s => if 0 < n then (⟨(sInt s).1, (sStamps (sInt s).2).1⟩ :: (pLoop k (n - 1) (sStamps (sInt s).2).2).1, (pLoop k (n - 1) (sStamps (sInt s).2).2).2) else ([], s)
theorem sInt_le (s : Sight) : (sInt s).2.1.length ≤ s.1.length := by unfold sInt; split <;> simp
theorem sInt_bytes {s : Sight} (h : bytesOk s.1) : bytesOk (sInt s).2.1 := by unfold sInt; split; exact h; exact bytesOk_drop h _
theorem sStamps_le (s : Sight) : (sStamps s).2.1.length ≤ s.1.length := by unfold sStamps; split <;> simp
theorem sStamps_bytes {s : Sight} (h : bytesOk s.1) : bytesOk (sStamps s).2.1 := by unfold sStamps; split; exact h; exact bytesOk_drop h _
theorem i64_bnd (n : Nat) (h : n < 18446744073709551616) : -9223372036854775808 ≤ i64 n ∧ i64 n < 9223372036854775808 := by unfold i64; split <;> omega
theorem sInt_bnd {s : Sight} (h : bytesOk s.1) : -9223372036854775808 ≤ (sInt s).1 ∧ (sInt s).1 < 9223372036854775808 := by
  unfold sInt; split
  · simp
  · exact i64_bnd _ (by have := numOf_lt h 8; omega)
theorem eqB (a b : List Int) (hl : a.length = b.length) (hm : a.length < 9223372036854775807) : ∀ (m i k : Nat), i + m = a.length → m < k → slices_Equal_byte_byte.l0 k a b (a.length : Int) (i : Int) = some (decide (a.drop i = b.drop i))
  | m, i, 0, _, h => by omega
  | 0, i, k + 1, h, _ => by
    have e1 : a.drop i = [] := List.drop_eq_nil_of_le (by omega)
    have e2 : b.drop i = [] := List.drop_eq_nil_of_le (by omega)
    rw [slices_Equal_byte_byte.l0, if_neg (by omega), e1, e2]
    simp
  | m + 1, i, k + 1, h, hk => by
    have hi : i < a.length := by omega
    have hj : i < b.length := by omega
    rw [slices_Equal_byte_byte.l0, if_pos (by omega), if_pos (by omega), if_pos (by omega), if_pos (by omega), rd_nat a hi, rd_nat b hj, wrap64_nat i (by omega), eqB a b hl hm m (i + 1) k (by omega) (by omega), List.drop_eq_getElem_cons hi, List.drop_eq_getElem_cons hj]
    by_cases he : a[i] = b[i]
    · rw [if_pos he, he]
      simp only [List.cons.injEq, true_and]
    · rw [if_neg he, decide_eq_false (fun h => he (List.cons.inj h).1)]
theorem eqBf (a b : List Int) (hm : a.length < 9223372036854775807) : slices_Equal_byte_byte.f (a.length + 1) a b = some (decide (a = b)) := by
  unfold slices_Equal_byte_byte.f
  by_cases hl : a.length = b.length
  · rw [if_pos (by omega), show (0 : Int) = ((0 : Nat) : Int) from rfl, eqB a b hl hm a.length 0 _ (by omega) (by omega)]
    simp
  · rw [if_neg (by omega)]
    have : a ≠ b := fun h => hl (by rw [h])
    simp [this]
def lenV : Value → Nat
  | .slice _ n _ => n
  | _ => 0
def pAll (b : List Int) : List S26 × Sight := pLoop 9 (sInt (b, false)).1 (sInt (b, false)).2
def okDone (s : Sight) : Bool := decide (¬ (s.2 = true ∨ s.1.length ≠ 0))
theorem pLoop_bytes : ∀ (k : Nat) (n : Int) (s : Sight), bytesOk s.1 → (pLoop k n s).1.length ≤ k
  | 0, n, s, _ => by simp [pLoop]
  | k + 1, n, s, h => by
    unfold pLoop
    split
    · have := pLoop_bytes k (n - 1) (sStamps (sInt s).2).2 (sStamps_bytes (sInt_bytes h))
      simp only [List.length_cons]; omega
    · simp
set_option maxHeartbeats 4000000 in
set_option maxRecDepth 100000 in
theorem parse_any (A : Option Addr) (c : Nat) (b : List Int) (w : World) (hr : Kd.C (Kd.int .u8) w A b.length b) (hc : b.length ≤ c) (hb : bytesOk b) (hl : b.length ≤ 1099511627776) (K : Nat) (q : Int) (hq : deps_Check.f K (pAll b).1 = some q) (hput : (laidDs (pAll b).1).length ≤ 1099511627776) :
    Calls Tryz.prog 9 #[.slice A b.length c] w fun e w' => ∃ v, e = .returned (.tuple #[v, .int .i64 (if okDone (pAll b).2 = true ∧ q = 0 ∧ laidDeps (pAll b).1 = b then 0 else 60)]) ∧ Kd.S k26 26 w' w.heap.size (fun _ => True) v (if okDone (pAll b).2 = true ∧ q = 0 ∧ laidDeps (pAll b).1 = b then (pAll b).1 else []) ∧ Below w.heap.size w w' := by
  have hop := flOpen_any A c b w (readsInt_of.2 (Kd.reads_of_C (d := (0 : Int)) hr)) (by omega)
  have HOP := Lib.hid hop
  have HX := Lib.hid (And.intro hr (And.intro hc (And.intro hb (And.intro hl (And.intro hq hput)))))
  have hDl : (pAll b).1.length ≤ 9 := pLoop_bytes 9 _ _ (sInt_bytes (s := (b, false)) hb)
  have HDL := Lib.hid hDl
  clear hop hr hc hb hl hq hput hDl
  generalize hP : pAll b = PA at *
  have HPA := Lib.hid hP
  clear hP
  generalize her : (if okDone PA.2 = true ∧ q = 0 ∧ laidDeps PA.1 = b then (0 : Int) else 60) = er at *
  generalize hrr : (if okDone PA.2 = true ∧ q = 0 ∧ laidDeps PA.1 = b then PA.1 else []) = rr at *
  have HER := Lib.hid (And.intro her hrr)
  clear her hrr
  go_enter Tryz.func9, Tryz.ntmps9
  go_wp2_with fail
  refine HOP.out.mono ?_
  rintro e w1 ⟨g, ab, rfl, hg, hab, hE1, hb1⟩
  have hI := flInt_any (b, false) hE1 HX.out.2.2.1
  have HE := Lib.hid (And.intro hg (And.intro hab (And.intro hb1 hI)))
  clear hg hab hE1 hb1 hI
  go_wp2_with fail
  refine HE.out.2.2.2.mono ?_
  rintro e w2 ⟨rfl, hE2, hu2⟩
  have hb2 : Below w.heap.size w w2 := HE.out.2.2.1.trans (hu2.below HE.out.2.2.1.size (fun q hq e => by have := HE.out.1; omega))
  have hn0 := sInt_bnd (s := (b, false)) HX.out.2.2.1
  have hpa : pLoop 9 (sInt (b, false)).1 (sInt (b, false)).2 = PA := HPA.out
  have HS0 := Lib.hid (And.intro hE2 (And.intro hb2 (And.intro (sInt_bytes (s := (b, false)) HX.out.2.2.1) (And.intro (sInt_le (b, false)) hpa))))
  clear hE2 hu2 hb2 hpa
  generalize sInt (b, false) = s0 at *
  obtain ⟨n0, s0⟩ := s0
  simp only at hn0
  go_wp2
  go_loopw [2, 5] (fun so sn wr => ∃ (ds : List S26) (A' : Option Addr) (c' : Nat) (n : Int) (s : Sight), so = .slice A' ds.length c' ∧ sn = .int .i64 n ∧ ds.length ≤ 9 ∧ -9223372036854775808 ≤ n ∧ n < 9223372036854775808 ∧ RowKit.Hid (Kd.S k26 26 wr w.heap.size (fun q => q ≠ g ∧ q ≠ ab) (.slice A' ds.length c') ds ∧ EyeIs wr g ab s.1 s.2 ∧ Below w.heap.size w wr ∧ bytesOk s.1 ∧ s.1.length ≤ b.length ∧ ds ++ (pLoop (9 - ds.length) n s).1 = PA.1 ∧ (pLoop (9 - ds.length) n s).2 = PA.2)) (fun so _ _ => 10 - (lenV so))
  case atStart => exact ⟨[], none, 0, n0, s0, rfl, rfl, by simp, hn0.1, hn0.2, Lib.hid ⟨Kd.S_nil _ _ _ _ _, HS0.out.1, HS0.out.2.1, HS0.out.2.2.1, HS0.out.2.2.2.1, by rw [← HS0.out.2.2.2.2]; rfl, by rw [← HS0.out.2.2.2.2]; rfl⟩⟩
  case round =>
    obtain ⟨ds, A', c', n, s, rfl, rfl, hk, hnl, hnh, HS⟩ := hrel
    by_cases hn : 0 < n ∧ ds.length ≤ 8
    · obtain ⟨hn, h8⟩ := hn
      obtain ⟨k, hk9⟩ : ∃ k, 9 - ds.length = k + 1 := ⟨8 - ds.length, by omega⟩
      obtain ⟨hS, hE, hB, hby, hle, hp1, hp2⟩ := HS.out
      rw [hk9, pLoop, if_pos hn] at hp1 hp2
      have hI := flInt_any s hE hby
      have hby1 := sInt_bytes hby
      have hle1 := Nat.le_trans (sInt_le s) hle
      have hSt := fun (W : World) (h : EyeIs W g ab (sInt s).2.1 (sInt s).2.2) => flStamps_any (sInt s).2 h hby1 (Nat.le_trans hle1 HX.out.2.2.2.1)
      have hby2 := sStamps_bytes hby1
      have hle2 := Nat.le_trans (sStamps_le (sInt s).2) hle1
      have hbb := sInt_bnd hby
      generalize sStamps (sInt s).2 = st at *
      generalize sInt s = xI at *
      obtain ⟨x0, s1⟩ := xI
      obtain ⟨l, s2⟩ := st
      simp only at hp1 hp2 hI hSt hby2 hle2
      have hlv : ∀ q, (Value.slice A' ds.length c').ownBlock = some q → q < wr.heap.size := Kd.S_lt hS
      have HY := Lib.hid (And.intro hS (And.intro hB (And.intro hby2 (And.intro hle2 (And.intro hp1 (And.intro hp2 (And.intro hk9 hlv)))))))
      have HI := Lib.hid hI; have HST := Lib.hid hSt
      have HGE := Lib.hid (And.intro hE.lt hE.old)
      have dn : decide (0 < n) = true := decide_eq_true hn
      have d8 : decide ((ds.length : Int) ≤ 8) = true := decide_eq_true (by omega)
      clear hS hE hB hby hle hp1 hp2 hI hSt hby1 hle1 hby2 hle2 hbb hlv hk9 HS
      go_wp2_with fail
      refine HI.out.mono ?_
      rintro e w3 ⟨rfl, hE3, hu3⟩
      have HST3 := Lib.hid (And.intro (HST.out w3 hE3) hu3)
      clear hE3 hu3
      go_wp2_with fail
      refine HST3.out.1.mono ?_
      rintro e w4 ⟨v4, rfl, hv4, hE4, hu4⟩
      obtain ⟨A4, c4, rfl⟩ := own_slice hv4
      have HN := Lib.hid (And.intro hv4 (And.intro hE4 (HST3.out.2.trans hu4)))
      clear hv4 hE4 hu4
      go_wp2_with (first | ((with_reducible refine gate_builtin (b := .append) (xs := #[.tmp 19, .tmp 25]) rfl ?_); at_builtin; refine stop_append rfl ?_))
      refine Lib.hid ?_
      have hgw : w.heap.size ≤ g := HE.out.1
      have hb4 : Below w.heap.size w w4 := HY.out.2.1.trans (HN.out.2.2.below HY.out.2.1.size (fun q hq e => by omega))
      have hsz3 : wr.heap.size ≤ w3.heap.size := HST3.out.2.size
      refine Kd.S_append k26 (w0 := w) w.heap.size rfl (.tmp 19) (.tmp 25) 22 26 (.agg #[.int .i64 0, .slice none 0 0]) 32 rfl Tryz.underlying22 infoD rfl (by decide) (by decide) (.slice A' ds.length c') ds ⟨x0, l⟩ [.int .i64 x0, .slice A4 l.length c4] (fun q => q ≠ g ∧ q ≠ ab) (fun q => w3.heap.size ≤ q) rfl rfl ?_ ?_ ?_ ?_ hb4 hb4.size ?_ ?_
      · exact k26_mkM _ _ _ _ (Kd.R_lower (Kd.R_mono (Kd.R_bound (RowS.R HN.out.1)) (fun q hq => hq.2.1)) (Nat.le_trans HY.out.2.1.size hsz3))
      · intro q hq
        have := HGE.out
        exact ⟨⟨by omega, by omega⟩, fun e => by have := HY.out.2.2.2.2.2.2.2 q e.symm; omega⟩
      · intro q hq
        have := HGE.out
        have := HN.out.2.2.size
        exact ⟨by omega, by omega⟩
      · exact Kd.S_step (Kd.S_mono (Kd.S_bound HY.out.1) (fun q hq => ⟨hq.1, by have := hq.2.2.1; omega⟩)) (fun q hq hql => HN.out.2.2.block q hql hq.1.1)
      · omega
      intro v5 w5 hS5 hB5 hg5 hat5
      have hln : (ds ++ [(⟨x0, l⟩ : S26)]).length = ds.length + 1 := by simp
      obtain ⟨A5, c5, e5⟩ := Kd.S_slice hS5
      have hE5 : EyeIs w5 g ab s2.1 s2.2 := by
        have hu5 : Upd w4 w5 (fun q => some q = (Value.slice A' ds.length c').ownBlock) := Upd.of_grown hg5 (fun q hq => hq.symm)
        exact HN.out.2.1.upd hu5 (fun h => ((Kd.S_R HY.out.1).1 g h.symm).1 rfl) (fun h => ((Kd.S_R HY.out.1).1 ab h.symm).2 rfl)
      have HN5 := Lib.hid (And.intro hS5 (And.intro hB5 hE5))
      rw [e5, hln] at HN5
      rw [e5, hln]
      clear hS5 hB5 hg5 hat5 e5 hE5 hb4 hsz3
      go_wp2_with fail
      go_roundw
      case rel =>
        refine ⟨ds ++ [⟨x0, l⟩], A5, c5, n - 1, s2, by rw [hln], by go_num, by omega, by omega, by omega, Lib.hid ⟨by rw [hln]; exact HN5.out.1, HN5.out.2.2, HN5.out.2.1, HY.out.2.2.1, HY.out.2.2.2.1, ?_, ?_⟩⟩
        · rw [hln, show 9 - (ds.length + 1) = k by have := HY.out.2.2.2.2.2.2.1; omega, List.append_assoc]; exact HY.out.2.2.2.2.1
        · rw [hln, show 9 - (ds.length + 1) = k by have := HY.out.2.2.2.2.2.2.1; omega]; exact HY.out.2.2.2.2.2.1
      case measure => simp [lenV]; omega
    · obtain ⟨hS, hE, hB, hby, hle, hp1, hp2⟩ := HS.out
      have hz : pLoop (9 - ds.length) n s = ([], s) := by
        rcases Nat.lt_or_ge ds.length 9 with h | h
        · obtain ⟨k, hk9⟩ : ∃ k, 9 - ds.length = k + 1 := ⟨8 - ds.length, by omega⟩
          rw [hk9, pLoop, if_neg (by omega)]
        · rw [show 9 - ds.length = 0 by omega]; rfl
      rw [hz] at hp1 hp2
      simp only [List.append_nil] at hp1 hp2
      obtain ⟨D, F⟩ := PA
      simp only at hp1 hp2
      subst hp1 hp2
      have hdone := flDone_any s hE
      obtain ⟨hnil, hcd, hC⟩ := Kd.S_reads' hS
      have hchk := deps_Check.calls K A' c' ds q wr hC hcd HX.out.2.2.2.2.1
      have hlv : ∀ q, (Value.slice A' ds.length c').ownBlock = some q → q < wr.heap.size := Kd.S_lt hS
      obtain ⟨dv, hdv⟩ : ∃ dv, (if s.2 = true ∨ s.1.length ≠ 0 then (20 : Int) else 0) = dv := ⟨_, rfl⟩
      rw [hdv] at hdone
      have hok : okDone s = decide (dv = 0) := by
        rw [← hdv]
        unfold okDone
        split
        · rename_i h; rw [decide_eq_false (fun hn => hn h)]; rfl
        · rename_i h; rw [decide_eq_true h]; rfl
      have hput := fun (W : World) (h : Below wr.heap.size wr W) => put_any A' c' ds W (Kd.C_below hC h) HX.out.2.2.2.2.2 (by have := HDL.out; simp only at this; omega)
      have HZ := Lib.hid (And.intro hdone (And.intro hchk (And.intro hput (And.intro hok (And.intro hS hB)))))
      clear hS hE hB hby hle hz hdone hcd hC hchk hlv hdv hok hput HS hnil
      have hW : ∀ W, Below wr.heap.size wr W → Below w.heap.size w W := fun W h => HZ.out.2.2.2.2.2.trans (h.mono HZ.out.2.2.2.2.2.size)
      have HW := Lib.hid hW
      clear hW
      have hexit : (0 < n ∧ decide ((ds.length : Int) ≤ 8) = false) ∨ ¬ 0 < n := by
        by_cases h0 : 0 < n
        · exact .inl ⟨h0, decide_eq_false (fun h => hn ⟨h0, by omega⟩)⟩
        · exact .inr h0
      clear hn
      obtain ⟨cnd, hcnd⟩ : ∃ cnd, (if okDone s = true ∧ q = 0 ∧ laidDeps ds = b then true else false) = cnd := ⟨_, rfl⟩
      have HCN := Lib.hid hcnd
      clear hcnd
      rcases hexit with ⟨h0, h8⟩ | h0
      · have d0 : decide (0 < n) = true := decide_eq_true h0
        go_wp2_with fail
        refine HZ.out.1.mono ?_
        rintro e w7 ⟨rfl, rfl⟩
        by_cases hd : dv = 0
        · subst hd
          have hko : okDone s = true := HZ.out.2.2.2.1
          have HKO := Lib.hid hko
          clear hko
          go_wp2_with fail
          refine HZ.out.2.1.mono ?_
          rintro e w8 ⟨rfl, hb8⟩
          have HB8 := Lib.hid hb8
          clear hb8
          by_cases hq0 : q = 0
          · subst hq0
            go_wp2_with fail
            refine (HZ.out.2.2.1 w8 HB8.out).mono ?_
            rintro e w9 ⟨v9, rfl, ho9, hb9⟩
            have HB9 := Lib.hid (HB8.out.trans (hb9.mono HB8.out.size))
            obtain ⟨A9, c9, e9, hc9, hC9⟩ := Kd.R_reads (Kd.R_of_own ho9 (fun _ _ => trivial) : Kd.R (Kd.int .u8) 5 w9 w8.heap.size (fun _ => True) v9 (laidDeps ds))
            subst e9
            have heq := slices_Equal_byte_byte.calls _ A9 c9 (laidDeps ds) A c b _ w9 hC9 hc9 (Kd.C_below HX.out.1 (HW.out _ HB9.out)) HX.out.2.1 (eqBf (laidDeps ds) b (by have h6 : (laidDs ds).length ≤ 1099511627776 := HX.out.2.2.2.2.2; unfold laidDeps; rw [List.length_append, laidI_len]; omega))
            have HEQ := Lib.hid heq
            have HD := Lib.hid (show (laidDeps ds = b) ↔ (laidDeps ds = b) from Iff.rfl)
            clear heq ho9 hb9 hc9 hC9
            by_cases he : laidDeps ds = b
            · have hr : decide (laidDeps ds = b) = true := decide_eq_true he
              rw [hr] at HEQ
              have HHE := Lib.hid he
              clear he hr
              go_wp2_with fail
              refine HEQ.out.mono ?_
              rintro e w10 ⟨rfl, hd10⟩
              have HB10 := Lib.hid (HB9.out.trans (hd10.below.mono HB9.out.size))
              clear hd10
              go_wp2
              go_ret2
              have e1 : er = 0 := HER.out.1.symm.trans (if_pos ⟨HKO.out, by simp, HHE.out⟩)
              have e2 : rr = ds := HER.out.2.symm.trans (if_pos ⟨HKO.out, by simp, HHE.out⟩)
              rw [e1, e2]
              refine ⟨_, rfl, ?_, HW.out _ HB10.out⟩
              exact Kd.S_mono (Kd.S_below HZ.out.2.2.2.2.1 HB10.out) (fun _ _ => trivial)
            · have hr : decide (laidDeps ds = b) = false := decide_eq_false he
              rw [hr] at HEQ
              have HHE := Lib.hid he
              clear he hr
              go_wp2_with fail
              refine HEQ.out.mono ?_
              rintro e w10 ⟨rfl, hd10⟩
              have HB10 := Lib.hid (HB9.out.trans (hd10.below.mono HB9.out.size))
              clear hd10
              go_wp2
              go_ret2
              have e1 : er = 60 := HER.out.1.symm.trans (if_neg (fun h => HHE.out h.2.2))
              have e2 : rr = [] := HER.out.2.symm.trans (if_neg (fun h => HHE.out h.2.2))
              rw [e1, e2]
              refine ⟨_, rfl, ?_, HW.out _ HB10.out⟩
              exact Kd.S_nil _ _ _ _ _
          · have HQ := Lib.hid hq0
            go_wp2
            go_ret2
            have e1 : er = 60 := HER.out.1.symm.trans (if_neg (fun h => HQ.out h.2.1))
            have e2 : rr = [] := HER.out.2.symm.trans (if_neg (fun h => HQ.out h.2.1))
            rw [e1, e2]
            refine ⟨_, rfl, ?_, HW.out _ HB8.out⟩
            exact Kd.S_nil _ _ _ _ _
        · have hko : okDone s = false := by rw [HZ.out.2.2.2.1]; exact decide_eq_false hd
          have HKO := Lib.hid hko
          clear hko
          go_wp2
          go_ret2
          have hno : ¬ (okDone s = true ∧ q = 0 ∧ laidDeps ds = b) := fun h => by rw [HKO.out] at h; exact absurd h.1 (by decide)
          have e1 : er = 60 := HER.out.1.symm.trans (if_neg hno)
          have e2 : rr = [] := HER.out.2.symm.trans (if_neg hno)
          rw [e1, e2]
          refine ⟨_, rfl, ?_, HW.out _ (Below.refl _ _)⟩
          exact Kd.S_nil _ _ _ _ _
      · have d0 : decide (0 < n) = false := decide_eq_false h0
        go_wp2_with fail
        refine HZ.out.1.mono ?_
        rintro e w7 ⟨rfl, rfl⟩
        by_cases hd : dv = 0
        · subst hd
          have hko : okDone s = true := HZ.out.2.2.2.1
          have HKO := Lib.hid hko
          clear hko
          go_wp2_with fail
          refine HZ.out.2.1.mono ?_
          rintro e w8 ⟨rfl, hb8⟩
          have HB8 := Lib.hid hb8
          clear hb8
          by_cases hq0 : q = 0
          · subst hq0
            go_wp2_with fail
            refine (HZ.out.2.2.1 w8 HB8.out).mono ?_
            rintro e w9 ⟨v9, rfl, ho9, hb9⟩
            have HB9 := Lib.hid (HB8.out.trans (hb9.mono HB8.out.size))
            obtain ⟨A9, c9, e9, hc9, hC9⟩ := Kd.R_reads (Kd.R_of_own ho9 (fun _ _ => trivial) : Kd.R (Kd.int .u8) 5 w9 w8.heap.size (fun _ => True) v9 (laidDeps ds))
            subst e9
            have heq := slices_Equal_byte_byte.calls _ A9 c9 (laidDeps ds) A c b _ w9 hC9 hc9 (Kd.C_below HX.out.1 (HW.out _ HB9.out)) HX.out.2.1 (eqBf (laidDeps ds) b (by have h6 : (laidDs ds).length ≤ 1099511627776 := HX.out.2.2.2.2.2; unfold laidDeps; rw [List.length_append, laidI_len]; omega))
            have HEQ := Lib.hid heq
            have HD := Lib.hid (show (laidDeps ds = b) ↔ (laidDeps ds = b) from Iff.rfl)
            clear heq ho9 hb9 hc9 hC9
            by_cases he : laidDeps ds = b
            · have hr : decide (laidDeps ds = b) = true := decide_eq_true he
              rw [hr] at HEQ
              have HHE := Lib.hid he
              clear he hr
              go_wp2_with fail
              refine HEQ.out.mono ?_
              rintro e w10 ⟨rfl, hd10⟩
              have HB10 := Lib.hid (HB9.out.trans (hd10.below.mono HB9.out.size))
              clear hd10
              go_wp2
              go_ret2
              have e1 : er = 0 := HER.out.1.symm.trans (if_pos ⟨HKO.out, by simp, HHE.out⟩)
              have e2 : rr = ds := HER.out.2.symm.trans (if_pos ⟨HKO.out, by simp, HHE.out⟩)
              rw [e1, e2]
              refine ⟨_, rfl, ?_, HW.out _ HB10.out⟩
              exact Kd.S_mono (Kd.S_below HZ.out.2.2.2.2.1 HB10.out) (fun _ _ => trivial)
            · have hr : decide (laidDeps ds = b) = false := decide_eq_false he
              rw [hr] at HEQ
              have HHE := Lib.hid he
              clear he hr
              go_wp2_with fail
              refine HEQ.out.mono ?_
              rintro e w10 ⟨rfl, hd10⟩
              have HB10 := Lib.hid (HB9.out.trans (hd10.below.mono HB9.out.size))
              clear hd10
              go_wp2
              go_ret2
              have e1 : er = 60 := HER.out.1.symm.trans (if_neg (fun h => HHE.out h.2.2))
              have e2 : rr = [] := HER.out.2.symm.trans (if_neg (fun h => HHE.out h.2.2))
              rw [e1, e2]
              refine ⟨_, rfl, ?_, HW.out _ HB10.out⟩
              exact Kd.S_nil _ _ _ _ _
          · have HQ := Lib.hid hq0
            go_wp2
            go_ret2
            have e1 : er = 60 := HER.out.1.symm.trans (if_neg (fun h => HQ.out h.2.1))
            have e2 : rr = [] := HER.out.2.symm.trans (if_neg (fun h => HQ.out h.2.1))
            rw [e1, e2]
            refine ⟨_, rfl, ?_, HW.out _ HB8.out⟩
            exact Kd.S_nil _ _ _ _ _
        · have hko : okDone s = false := by rw [HZ.out.2.2.2.1]; exact decide_eq_false hd
          have HKO := Lib.hid hko
          clear hko
          go_wp2
          go_ret2
          have hno : ¬ (okDone s = true ∧ q = 0 ∧ laidDeps ds = b) := fun h => by rw [HKO.out] at h; exact absurd h.1 (by decide)
          have e1 : er = 60 := HER.out.1.symm.trans (if_neg hno)
          have e2 : rr = [] := HER.out.2.symm.trans (if_neg hno)
          rw [e1, e2]
          refine ⟨_, rfl, ?_, HW.out _ (Below.refl _ _)⟩
          exact Kd.S_nil _ _ _ _ _
end Go.Proofs.YtaedlmeaconflaaGreat.P
end
