/- what the claim's row stands on, part 3. -/
import Derived.Test.YtaedlmeaconflaaZo2
import Derived.Laws.BitsLemmas
import Derived.IntWalk
section
set_option linter.unusedVariables false
set_option linter.unusedSimpArgs false
namespace Go.Proofs.Ytaedlmeaconflaa.P
open Go.RowKit Go.Proofs.YtaedlmeaconflaaW.PrintWords Go.Proofs.YtaedlmeaconflaaW.PrintLast Go.Proofs.YtaedlmeaconflaaW.PrintMore
attribute [local go_sem] max2_int min2_int max_two min_two max_three min_three max_four min_four   -- for this text's walks alone
set_option linter.unusedVariables false
set_option linter.unusedSimpArgs false
mutual
def deps_Check.l0 : Nat → List (S39) → Int → List (S39) → Int → Int → Option (Int)
 | 0, _, _, _, _, _ => none
 | k + 1, x0, x3, x11, x12, x13 => if x13 < x12 then (if 0 ≤ x13 then (if x13 < (x11.length : Int) then (deps_Check.l0 k x0 (wrap64 (x3 + (((rd_T39 x11 x13).f1).length : Int))) x11 x12 (wrap64 (x13 + 1))) else (none)) else (none)) else (if (x0.length : Int) > 8 then (deps_Check.j1 k x0 true) else (deps_Check.j1 k x0 (decide (x3 > 512))))
def deps_Check.j1 : Nat → List (S39) → Bool → Option (Int)
 | 0, _, _ => none
 | k + 1, x0, x29 => if x29 = true then (some 6) else (deps_Check.l1 k (-1) x0 (x0.length : Int) 0)
def deps_Check.l1 : Nat → Int → List (S39) → Int → Int → Option (Int)
 | 0, _, _, _, _ => none
 | k + 1, x6, x30, x31, x32 => if x32 < x31 then (if 0 ≤ x32 then (if x32 < (x30.length : Int) then (if ((rd_T39 x30 x32).f0) ≤ x6 then (deps_Check.j3 k x30 x31 x32 true ((rd_T39 x30 x32).f0) ((rd_T39 x30 x32).f1)) else (deps_Check.j3 k x30 x31 x32 (decide (((rd_T39 x30 x32).f0) ≥ 8)) ((rd_T39 x30 x32).f0) ((rd_T39 x30 x32).f1))) else (none)) else (none)) else (some 0)
def deps_Check.j3 : Nat → List (S39) → Int → Int → Bool → Int → List (S33) → Option (Int)
 | 0, _, _, _, _, _, _ => none
 | k + 1, x30, x31, x32, x44, x124000, x124001 => if x44 = true then (some 60) else (deps_Check.l2 k x124000 x30 x31 x32 x124001 (x124001.length : Int) 0 x124000 x124001)
def deps_Check.l2 : Nat → Int → List (S39) → Int → Int → List (S33) → Int → Int → Int → List (S33) → Option (Int)
 | 0, _, _, _, _, _, _, _, _, _ => none
 | k + 1, x6, x30, x31, x32, x48, x49, x50, x124000, x124001 => if x50 < x49 then (if 0 ≤ x50 then (if x50 < (x48.length : Int) then ((stamp_Check.f ((rd_T33 x48 x50).f0) ((rd_T33 x48 x50).f1)).bind fun t126 => (if t126 = 0 then (if x50 > 0 then (if 0 ≤ (wrap64 (x50 - 1)) then (if (wrap64 (x50 - 1)) < (x124001.length : Int) then ((stamp_Compare.f k ((rd_T33 x124001 (wrap64 (x50 - 1))).f0) ((rd_T33 x124001 (wrap64 (x50 - 1))).f1) ((rd_T33 x48 x50).f0) ((rd_T33 x48 x50).f1)).bind fun t128 => (if t128 ≥ 0 then (some 60) else (deps_Check.l2 k x6 x30 x31 x32 x48 x49 (wrap64 (x50 + 1)) x124000 x124001))) else (none)) else (none)) else (deps_Check.l2 k x6 x30 x31 x32 x48 x49 (wrap64 (x50 + 1)) x124000 x124001)) else (some 60))) else (none)) else (none)) else (deps_Check.l1 k x6 x30 x31 (wrap64 (x32 + 1)))
end
def deps_Check.f (k : Nat) (l0 : List (S39)) : Option (Int) := deps_Check.l0 k l0 0 l0 (l0.length : Int) 0
def deps_Check.T19 : Bool × List (List Nat × List Nat) := (true, [([], []), ([0], [0]), ([1], [1]), ([2, 1], [2]), ([3], [3]), ([4, 3], [3, 4]), ([5, 3, 3], [3, 5]), ([6], [6]), ([7, 6], [6, 7]), ([6], [6]), ([9, 6], [6, 9]), ([8, 10, 6], [6, 8, 10]), ([11, 6], [6, 11]), ([6], [6]), ([12, 13, 6, 6], [6, 12, 13]), ([14, 6], [6, 14]), ([6, 15, 3], [3, 6, 15]), ([3, 16], [3, 16])])
def deps_Check.B19 : List Nat := [0, 1, 3, 7, 15, 31, 63, 127, 255, 127, 639, 2047, 4095, 127, 16383, 32767, 65535, 131071]
theorem deps_Check.tab19 : rtab .any (opsOf Try.f8 19) = deps_Check.T19 := by kernel_rfl
theorem deps_Check.bits19 : waitsOk deps_Check.T19.2 deps_Check.B19 = true := by kernel_rfl
set_option maxHeartbeats 8000000 in
set_option maxRecDepth 100000 in
theorem deps_Check.calls (k : Nat) (A0 : Option Addr) (c0 : Nat) (l0 : List (S39)) (r : Int) (w : World) (hr0 : Kd.C k39 w A0 l0.length l0) (hc0 : l0.length ≤ c0) (h : deps_Check.f k l0 = some r) :
  Calls Try.prog 8 #[.slice A0 l0.length c0] w fun e w' => e = .returned (.int .i64 r) ∧ Below w.heap.size w w' := by
 have hu39 := Try.underlying39
 have hu33 := Try.underlying33
 have HR0 := Aside0.mk hr0
 have HC0 := Aside0.mk hc0
 clear hr0 hc0
 have HB := Aside0.mk (Below.refl w.heap.size w)
 have H : (deps_Check.l0 k l0 0 l0 (l0.length : Int) 0) = some r := h
 clear h
 have H' := Aside0.mk H
 clear H
 go_enter Try.func8, Try.ntmps8
 go_wp2
 go_loopg [3, 13] k (fun kq v3 v13 w' => ∃ (x3_1 : Int) (x13_1 : Int), v3 = .int .i64 x3_1 ∧ v13 = .int .i64 x13_1 ∧ Aside0 (deps_Check.l0 kq l0 x3_1 l0 (l0.length : Int) x13_1 = some r) ∧ Aside0 (kq ≤ k) ∧ Aside0 (Below w.heap.size w w'))
 case atStart => exact ⟨(0), (0), (by first | rfl | (simp; done) | (simp [*]; done)), (by first | rfl | (simp; done) | (simp [*]; done)), H', ⟨Nat.le_refl _⟩, ⟨by repeat (first | (with_reducible first | exact HB.out | apply below_alloc | apply pw_below_drewN | apply below_drew1) | exact HB.out)⟩⟩
 case round =>
  clear H'
  obtain ⟨x3_1, x13_1, rfl, rfl, HA, HK1, HB⟩ := hrel
  cases gk with
  | zero => exact absurd HA.out (by simp [deps_Check.l0])
  | succ k1 =>
   have H := HA.out
   clear HA
   simp only [deps_Check.l0] at H
   by_cases c2 : x13_1 < (l0.length : Int)
   ·rw [if_pos c2] at H
    have c2b0 : decide (x13_1 < (l0.length : Int)) = true := decide_eq_true c2
    clear c2
    by_cases c3 : 0 ≤ x13_1
    ·rw [if_pos c3] at H
     have c3b0 : decide (0 ≤ x13_1) = true := decide_eq_true c3
     clear c3
     by_cases c4 : x13_1 < (l0.length : Int)
     ·rw [if_pos c4] at H
      have c4b0 : decide (x13_1 < (l0.length : Int)) = true := decide_eq_true c4
      clear c4
      have H' := Aside0.mk H
      clear H
      have p120 : 0 ≤ (x13_1 : Int) := of_decide_eq_true (by first | (with_reducible assumption) | assumption)
      have q120 : x13_1 < (l0.length : Int) := of_decide_eq_true (by first | (with_reducible assumption) | assumption)
      obtain ⟨ad120, A120_1, c120_1, e120, hx120_0, hx120_1, hl120_1, hi120_1⟩ := at_T39 HR0.out x13_1 p120 q120
      cases e120
      replace hx120_0 := (HB.out.cell (World.block_lt_of_cell? w _ hx120_0)).trans hx120_0
      replace hx120_1 := (HB.out.cell (World.block_lt_of_cell? w _ hx120_1)).trans hx120_1
      have HR120_1 := Aside0.mk hi120_1
      have HC120_1 := Aside0.mk hl120_1
      clear hi120_1 hl120_1
      replace p120 := eq_true p120
      replace q120 := eq_true q120
      go_wp2_with (first | ((with_reducible refine gate_dst (N := 5) rfl ?_); refine box_event ?hg (N := 5) ?hd (cs := #[.int .i64 0, .slice none 0 0]) (t := 39) ?hr ?_; (case hd => rfl); (case hg => rfl); (case hr => first | (go_simp; done) | (go_simp; rfl)); intro gb121 hg w5 hbox hb; have n0_ := Aside0.mk (below_step (by repeat (first | (with_reducible first | exact HB.out | apply below_alloc | apply pw_below_drewN | apply below_drew1) | exact HB.out)) hb); have n1_ := Aside0.mk (hbox); have n2_ := Aside0.mk ((by rw [hg]; exact (below_size (by repeat (first | (with_reducible first | exact HB.out | apply below_alloc | apply pw_below_drewN | apply below_drew1) | exact HB.out))) : w.heap.size ≤ gb121)); have n3_ := Aside0.mk ((by rw [hg]; exact (below_size (by repeat (first | (with_reducible first | exact HB.out | apply below_alloc | apply pw_below_drewN | apply below_drew1) | exact HB.out))) : w.heap.size ≤ gb121)); clear HB; have HB := n0_; have BK121 := n1_; have GW121 := n2_; have GE121 := n3_; clear n0_ n1_ n2_ n3_; clear hb hbox hg; have hcz6_0 : w5.cell? ⟨gb121, 0, none⟩ = some (.int .i64 0) := (blk_cell BK121.out 0).trans rfl; have hcz6_1 : w5.cell? ⟨gb121, 1, none⟩ = some (.slice none 0 0) := (blk_cell BK121.out 1).trans rfl; have hfz6_0 := blk_frozen BK121.out 0; have hfz6_1 := blk_frozen BK121.out 1))
      go_roundg k1
      case measure => have := HK1.out; omega
      case rel => exact ⟨(wrap64 (x3_1 + (((rd_T39 l0 x13_1).f1).length : Int))), (wrap64 (x13_1 + 1)), (by first | rfl | (simp; done) | (simp [*]; done)), (by first | rfl | (simp; done) | (simp [*]; done)), H', ⟨by have := HK1.out; omega⟩, ⟨by repeat (first | (with_reducible first | exact HB.out | apply below_alloc | apply pw_below_drewN | apply below_drew1 | refine below_set ?_ GE121.out) | exact HB.out)⟩⟩
     ·rw [if_neg c4] at H
      exact absurd H (by simp)
    ·rw [if_neg c3] at H
     exact absurd H (by simp)
   ·rw [if_neg c2] at H
    have c2b0 : decide (x13_1 < (l0.length : Int)) = false := decide_eq_false c2
    clear c2
    have HC7 := Aside0.mk H
    clear H
    go_upto_region 7 with (fail)
    go_cut [29] (fun v29 wc => ∃ (kq : Nat) (x29_6 : Bool), v29 = .bool x29_6 ∧ Aside0 (deps_Check.j1 kq l0 x29_6 = some r) ∧ Aside0 (kq ≤ k1) ∧ Aside0 (Below w.heap.size w wc))
    case first =>
     have H := HC7.out
     clear HC7
     by_cases c8 : (l0.length : Int) > 8
     ·rw [if_pos c8] at H
      have c8b0 : decide (8 < (l0.length : Int)) = true := decide_eq_true c8
      have c8b1 : decide (8 < l0.length) = true := decide_eq_true (by omega)
      clear c8
      (first | rw [c8b0] | (simp only [i64_w, i32_w]; rw [c8b0]) | skip)
      have H' := Aside0.mk H
      clear H
      go_wp2
      go_meet
      case rel => exact ⟨_, (true), (by first | rfl | (simp; done) | (simp [*]; done)), H', ⟨by have := HK1.out; first | omega | exact Nat.le_refl _⟩, ⟨by repeat (first | (with_reducible first | exact HB.out | apply below_alloc | apply pw_below_drewN | apply below_drew1) | exact HB.out)⟩⟩
     ·rw [if_neg c8] at H
      have c8b0 : decide (8 < (l0.length : Int)) = false := decide_eq_false c8
      have c8b1 : decide (8 < l0.length) = false := decide_eq_false (by omega)
      clear c8
      (first | rw [c8b0] | (simp only [i64_w, i32_w]; rw [c8b0]) | skip)
      have H' := Aside0.mk H
      clear H
      go_wp2
      go_meet
      case rel => exact ⟨_, (decide (x3_1 > 512)), (by first | rfl | (simp; done) | (simp [*]; done)), H', ⟨by have := HK1.out; first | omega | exact Nat.le_refl _⟩, ⟨by repeat (first | (with_reducible first | exact HB.out | apply below_alloc | apply pw_below_drewN | apply below_drew1) | exact HB.out)⟩⟩
    case rest =>
     clear HC7
     try clear c1
     try clear p1
     try clear q1
     try clear hx1
     try clear c2
     try clear c2b0
     try clear p2
     try clear c3
     try clear c3b0
     try clear c4
     try clear c4b0
     try clear p6
     try clear c8
     try clear c8b0
     try clear c8b1
     try clear hcz6_0
     try clear hcz6_1
     try clear hfz6_0
     try clear hfz6_1
     try clear hx120_0
     try clear hx120_1
     try clear p120
     try clear q120
     obtain ⟨kq, x29_6, rfl, HA, HJ6, HB⟩ := hcut
     cases kq with
     | zero => exact absurd HA.out (by simp [deps_Check.j1])
     | succ kj6 =>
      have H := HA.out
      clear HA
      simp only [deps_Check.j1] at H
      by_cases c9 : x29_6 = true
      ·subst c9
       have H1 : (some 6) = some r := by rw [if_pos rfl] at H; exact H
       clear H
       have H := H1
       clear H1
       obtain rfl := Option.some.inj H
       go_wp2
       go_ret
       exact ⟨by first | rfl | (simp [errW_none, errW_some] <;> rfl) | (simp [*, errW_none, errW_some] <;> rfl), by repeat (first | (with_reducible first | exact HB.out | apply below_alloc | apply pw_below_drewN | apply below_drew1) | exact HB.out)⟩
      ·replace c9 := Bool.eq_false_iff.mpr c9
       subst c9
       have H1 : (deps_Check.l1 kj6 (-1) l0 (l0.length : Int) 0) = some r := by rw [if_neg (show ¬ (false = true) by decide)] at H; exact H
       clear H
       have H := H1
       clear H1
       have H' := Aside0.mk H
       clear H
       go_wp2
       go_loopg [6, 32] kj6 (fun kq v6 v32 w' => ∃ (x6_3 : Int) (x32_3 : Int), v6 = .int .i64 x6_3 ∧ v32 = .int .i64 x32_3 ∧ Aside0 (deps_Check.l1 kq x6_3 l0 (l0.length : Int) x32_3 = some r) ∧ Aside0 (kq ≤ kj6) ∧ Aside0 (Below w.heap.size w w'))
       case atStart => exact ⟨((-1)), (0), (by first | rfl | (simp; done) | (simp [*]; done)), (by first | rfl | (simp; done) | (simp [*]; done)), H', ⟨Nat.le_refl _⟩, ⟨by repeat (first | (with_reducible first | exact HB.out | apply below_alloc | apply pw_below_drewN | apply below_drew1) | exact HB.out)⟩⟩
       case round =>
        clear H'
        try clear c1
        try clear p1
        try clear q1
        try clear hx1
        try clear c2
        try clear c2b0
        try clear p2
        try clear c3
        try clear c3b0
        try clear c4
        try clear c4b0
        try clear p6
        try clear c8
        try clear c8b0
        try clear c8b1
        try clear c9
        try clear hcz6_0
        try clear hcz6_1
        try clear hfz6_0
        try clear hfz6_1
        try clear hx120_0
        try clear hx120_1
        try clear p1
        try clear p120
        try clear p2
        try clear p6
        try clear q1
        try clear q120
        obtain ⟨x6_3, x32_3, rfl, rfl, HA, HK3, HB⟩ := hrel
        cases gk with
        | zero => exact absurd HA.out (by simp [deps_Check.l1])
        | succ k3 =>
         have H := HA.out
         clear HA
         simp only [deps_Check.l1] at H
         by_cases c10 : x32_3 < (l0.length : Int)
         ·rw [if_pos c10] at H
          have c10b0 : decide (x32_3 < (l0.length : Int)) = true := decide_eq_true c10
          clear c10
          by_cases c11 : 0 ≤ x32_3
          ·rw [if_pos c11] at H
           have c11b0 : decide (0 ≤ x32_3) = true := decide_eq_true c11
           clear c11
           by_cases c12 : x32_3 < (l0.length : Int)
           ·rw [if_pos c12] at H
            have c12b0 : decide (x32_3 < (l0.length : Int)) = true := decide_eq_true c12
            clear c12
            have HC13 := Aside0.mk H
            clear H
            have p122 : 0 ≤ (x32_3 : Int) := of_decide_eq_true (by first | (with_reducible assumption) | assumption)
            have q122 : x32_3 < (l0.length : Int) := of_decide_eq_true (by first | (with_reducible assumption) | assumption)
            obtain ⟨ad122, A122_1, c122_1, e122, hx122_0, hx122_1, hl122_1, hi122_1⟩ := at_T39 HR0.out x32_3 p122 q122
            cases e122
            replace hx122_0 := (HB.out.cell (World.block_lt_of_cell? w _ hx122_0)).trans hx122_0
            replace hx122_1 := (HB.out.cell (World.block_lt_of_cell? w _ hx122_1)).trans hx122_1
            have HR122_1 := Aside0.mk hi122_1
            have HC122_1 := Aside0.mk hl122_1
            clear hi122_1 hl122_1
            replace p122 := eq_true p122
            replace q122 := eq_true q122
            go_upto_region 13 with (first | ((with_reducible refine gate_dst (N := 8) rfl ?_); refine box_event ?hg (N := 8) ?hd (cs := #[.int .i64 0, .slice none 0 0]) (t := 39) ?hr ?_; (case hd => rfl); (case hg => rfl); (case hr => first | (go_simp; done) | (go_simp; rfl)); intro gb123 hg w14 hbox hb; have n0_ := Aside0.mk (below_step (by repeat (first | (with_reducible first | exact HB.out | apply below_alloc | apply pw_below_drewN | apply below_drew1) | exact HB.out)) hb); have n1_ := Aside0.mk (hbox); have n2_ := Aside0.mk ((by rw [hg]; exact (below_size (by repeat (first | (with_reducible first | exact HB.out | apply below_alloc | apply pw_below_drewN | apply below_drew1) | exact HB.out))) : w.heap.size ≤ gb123)); have n3_ := Aside0.mk ((by rw [hg]; exact (below_size (by repeat (first | (with_reducible first | exact HB.out | apply below_alloc | apply pw_below_drewN | apply below_drew1) | exact HB.out))) : w.heap.size ≤ gb123)); clear HB; have HB := n0_; have BK123 := n1_; have GW123 := n2_; have GE123 := n3_; clear n0_ n1_ n2_ n3_; clear hb hbox hg; have hcz15_0 : w14.cell? ⟨gb123, 0, none⟩ = some (.int .i64 0) := (blk_cell BK123.out 0).trans rfl; have hcz15_1 : w14.cell? ⟨gb123, 1, none⟩ = some (.slice none 0 0) := (blk_cell BK123.out 1).trans rfl; have hfz15_0 := blk_frozen BK123.out 0; have hfz15_1 := blk_frozen BK123.out 1))
            (try simp only [Act.put, List.setIfInBounds_toArray, List.set_cons_zero, List.set_cons_succ])
            go_cut [44] (fun v44 wc => ∃ (kq : Nat) (x44_12 : Bool), v44 = .bool x44_12 ∧ Aside0 (deps_Check.j3 kq l0 (l0.length : Int) x32_3 x44_12 ((rd_T39 l0 x32_3).f0) ((rd_T39 l0 x32_3).f1) = some r) ∧ Aside0 (kq ≤ k3) ∧ Aside0 (wc.heap[gb123]? = some (.cells #[.int .i64 ((rd_T39 l0 x32_3).f0), (.slice A122_1 ((rd_T39 l0 x32_3).f1).length c122_1)] 39 (0, 0))) ∧ Aside0 (Below w.heap.size w wc))
            case first =>
             have H := HC13.out
             clear HC13
             by_cases c16 : ((rd_T39 l0 x32_3).f0) ≤ x6_3
             ·rw [if_pos c16] at H
              have c16b0 : decide (((rd_T39 l0 x32_3).f0) ≤ x6_3) = true := decide_eq_true c16
              clear c16
              (first | rw [c16b0] | (simp only [i64_w, i32_w]; rw [c16b0]) | skip)
              have H' := Aside0.mk H
              clear H
              have hcz17_0 : w14.cell? ⟨gb123, 0, none⟩ = some (.int .i64 0) := (blk_cell BK123.out 0).trans rfl
              have hcz17_1 : w14.cell? ⟨gb123, 1, none⟩ = some (.slice none 0 0) := (blk_cell BK123.out 1).trans rfl
              have hfz17_0 := blk_frozen BK123.out 0
              have hfz17_1 := blk_frozen BK123.out 1
              go_wp2
              go_meet
              case rel => exact ⟨_, (true), (by first | rfl | (simp; done) | (simp [*]; done)), H', ⟨by have := HK1.out; have := HJ6.out; have := HK3.out; first | omega | exact Nat.le_refl _⟩, ⟨by (with_reducible repeat (first | refine blk_drewN ?_ _ | refine blk_drew ?_ | refine blk_alloc ?_ _)); refine blk_put (cs := #[.int .i64 ((rd_T39 l0 x32_3).f0), .slice none 0 0]) ?_ 1 _ rfl; (with_reducible repeat (first | refine blk_drewN ?_ _ | refine blk_drew ?_ | refine blk_alloc ?_ _)); refine blk_put (cs := #[.int .i64 0, .slice none 0 0]) ?_ 0 _ rfl; (with_reducible repeat (first | refine blk_drewN ?_ _ | refine blk_drew ?_ | refine blk_alloc ?_ _)); exact BK123.out⟩, ⟨by repeat (first | (with_reducible first | exact HB.out | apply below_alloc | apply pw_below_drewN | apply below_drew1 | refine below_set ?_ GE123.out) | exact HB.out)⟩⟩
             ·rw [if_neg c16] at H
              have c16b0 : decide (((rd_T39 l0 x32_3).f0) ≤ x6_3) = false := decide_eq_false c16
              clear c16
              (first | rw [c16b0] | (simp only [i64_w, i32_w]; rw [c16b0]) | skip)
              have H' := Aside0.mk H
              clear H
              have hcz18_0 : w14.cell? ⟨gb123, 0, none⟩ = some (.int .i64 0) := (blk_cell BK123.out 0).trans rfl
              have hcz18_1 : w14.cell? ⟨gb123, 1, none⟩ = some (.slice none 0 0) := (blk_cell BK123.out 1).trans rfl
              have hfz18_0 := blk_frozen BK123.out 0
              have hfz18_1 := blk_frozen BK123.out 1
              go_wp2
              go_meet
              case rel => exact ⟨_, (decide (((rd_T39 l0 x32_3).f0) ≥ 8)), (by first | rfl | (simp; done) | (simp [*]; done)), H', ⟨by have := HK1.out; have := HJ6.out; have := HK3.out; first | omega | exact Nat.le_refl _⟩, ⟨by (with_reducible repeat (first | refine blk_drewN ?_ _ | refine blk_drew ?_ | refine blk_alloc ?_ _)); refine blk_put (cs := #[.int .i64 ((rd_T39 l0 x32_3).f0), .slice none 0 0]) ?_ 1 _ rfl; (with_reducible repeat (first | refine blk_drewN ?_ _ | refine blk_drew ?_ | refine blk_alloc ?_ _)); refine blk_put (cs := #[.int .i64 0, .slice none 0 0]) ?_ 0 _ rfl; (with_reducible repeat (first | refine blk_drewN ?_ _ | refine blk_drew ?_ | refine blk_alloc ?_ _)); exact BK123.out⟩, ⟨by repeat (first | (with_reducible first | exact HB.out | apply below_alloc | apply pw_below_drewN | apply below_drew1 | refine below_set ?_ GE123.out) | exact HB.out)⟩⟩
            case rest =>
             clear HC13
             try clear c1
             try clear p1
             try clear q1
             try clear hx1
             try clear c2
             try clear c2b0
             try clear p2
             try clear c3
             try clear c3b0
             try clear c4
             try clear c4b0
             try clear p6
             try clear c8
             try clear c8b0
             try clear c8b1
             try clear c9
             try clear c10
             try clear c10b0
             try clear c11
             try clear c11b0
             try clear c12
             try clear c12b0
             try clear p12
             try clear q12
             try clear hx12
             try clear c16
             try clear c16b0
             try clear hcz15_0
             try clear hcz15_1
             try clear hcz17_0
             try clear hcz17_1
             try clear hcz18_0
             try clear hcz18_1
             try clear hcz6_0
             try clear hcz6_1
             try clear hfz15_0
             try clear hfz15_1
             try clear hfz17_0
             try clear hfz17_1
             try clear hfz18_0
             try clear hfz18_1
             try clear hfz6_0
             try clear hfz6_1
             try clear hx120_0
             try clear hx120_1
             try clear hx122_0
             try clear hx122_1
             try clear p1
             try clear p120
             try clear p122
             try clear p2
             try clear p6
             try clear q1
             try clear q120
             try clear q122
             obtain ⟨kq, x44_12, rfl, HA, HJ12, BK123, HB⟩ := hcut
             cases kq with
             | zero => exact absurd HA.out (by simp [deps_Check.j3])
             | succ kj12 =>
              have H := HA.out
              clear HA
              simp only [deps_Check.j3] at H
              by_cases c19 : x44_12 = true
              ·subst c19
               have H1 : (some 60) = some r := by rw [if_pos rfl] at H; exact H
               clear H
               have H := H1
               clear H1
               obtain rfl := Option.some.inj H
               go_wp2
               go_ret
               exact ⟨by first | rfl | (simp [errW_none, errW_some] <;> rfl) | (simp [*, errW_none, errW_some] <;> rfl), by repeat (first | (with_reducible first | exact HB.out | apply below_alloc | apply pw_below_drewN | apply below_drew1 | refine below_set ?_ GE123.out) | exact HB.out)⟩
              ·replace c19 := Bool.eq_false_iff.mpr c19
               subst c19
               have H1 : (deps_Check.l2 kj12 ((rd_T39 l0 x32_3).f0) l0 (l0.length : Int) x32_3 ((rd_T39 l0 x32_3).f1) (((rd_T39 l0 x32_3).f1).length : Int) 0 ((rd_T39 l0 x32_3).f0) ((rd_T39 l0 x32_3).f1)) = some r := by rw [if_neg (show ¬ (false = true) by decide)] at H; exact H
               clear H
               have H := H1
               clear H1
               have H' := Aside0.mk H
               clear H
               have hcz20_0 : wc.cell? ⟨gb123, 0, none⟩ = some (.int .i64 ((rd_T39 l0 x32_3).f0)) := (blk_cell BK123.out 0).trans rfl
               have hcz20_1 : wc.cell? ⟨gb123, 1, none⟩ = some (.slice A122_1 ((rd_T39 l0 x32_3).f1).length c122_1) := (blk_cell BK123.out 1).trans rfl
               have hfz20_0 := blk_frozen BK123.out 0
               have hfz20_1 := blk_frozen BK123.out 1
               go_wp2
               go_loopg [50] kj12 (fun kq v50 w' => ∃ (x50_5 : Int), v50 = .int .i64 x50_5 ∧ Aside0 (deps_Check.l2 kq ((rd_T39 l0 x32_3).f0) l0 (l0.length : Int) x32_3 ((rd_T39 l0 x32_3).f1) (((rd_T39 l0 x32_3).f1).length : Int) x50_5 ((rd_T39 l0 x32_3).f0) ((rd_T39 l0 x32_3).f1) = some r) ∧ Aside0 (kq ≤ kj12) ∧ Aside0 (w'.heap[gb123]? = some (.cells #[.int .i64 ((rd_T39 l0 x32_3).f0), (.slice A122_1 ((rd_T39 l0 x32_3).f1).length c122_1)] 39 (0, 0))) ∧ Aside0 (Below w.heap.size w w'))
               case atStart => exact ⟨(0), (by first | rfl | (simp; done) | (simp [*]; done)), H', ⟨Nat.le_refl _⟩, ⟨by (with_reducible repeat (first | refine blk_drewN ?_ _ | refine blk_drew ?_ | refine blk_alloc ?_ _)); exact BK123.out⟩, ⟨by repeat (first | (with_reducible first | exact HB.out | apply below_alloc | apply pw_below_drewN | apply below_drew1 | refine below_set ?_ GE123.out) | exact HB.out)⟩⟩
               case round =>
                clear H'
                try clear c1
                try clear p1
                try clear q1
                try clear hx1
                try clear c2
                try clear c2b0
                try clear p2
                try clear c3
                try clear c3b0
                try clear c4
                try clear c4b0
                try clear p6
                try clear c8
                try clear c8b0
                try clear c8b1
                try clear c9
                try clear c10
                try clear c10b0
                try clear c11
                try clear c11b0
                try clear c12
                try clear c12b0
                try clear p12
                try clear q12
                try clear hx12
                try clear c16
                try clear c16b0
                try clear c19
                try clear hcz15_0
                try clear hcz15_1
                try clear hcz17_0
                try clear hcz17_1
                try clear hcz18_0
                try clear hcz18_1
                try clear hcz20_0
                try clear hcz20_1
                try clear hcz6_0
                try clear hcz6_1
                try clear hfz15_0
                try clear hfz15_1
                try clear hfz17_0
                try clear hfz17_1
                try clear hfz18_0
                try clear hfz18_1
                try clear hfz20_0
                try clear hfz20_1
                try clear hfz6_0
                try clear hfz6_1
                try clear hx120_0
                try clear hx120_1
                try clear hx122_0
                try clear hx122_1
                try clear p1
                try clear p12
                try clear p120
                try clear p122
                try clear p2
                try clear p6
                try clear q1
                try clear q12
                try clear q120
                try clear q122
                obtain ⟨x50_5, rfl, HA, HK5, BK123, HB⟩ := hrel
                cases gk with
                | zero => exact absurd HA.out (by simp [deps_Check.l2])
                | succ k5 =>
                 have H := HA.out
                 clear HA
                 simp only [deps_Check.l2] at H
                 by_cases c21 : x50_5 < (((rd_T39 l0 x32_3).f1).length : Int)
                 ·rw [if_pos c21] at H
                  have c21b0 : decide (x50_5 < (((rd_T39 l0 x32_3).f1).length : Int)) = true := decide_eq_true c21
                  clear c21
                  by_cases c22 : 0 ≤ x50_5
                  ·rw [if_pos c22] at H
                   have c22b0 : decide (0 ≤ x50_5) = true := decide_eq_true c22
                   clear c22
                   by_cases c23 : x50_5 < (((rd_T39 l0 x32_3).f1).length : Int)
                   ·rw [if_pos c23] at H
                    have c23b0 : decide (x50_5 < (((rd_T39 l0 x32_3).f1).length : Int)) = true := decide_eq_true c23
                    clear c23
                    replace H := Option.bind_eq_some_iff.mp H
                    obtain ⟨t126, A240, H⟩ := H
                    replace H : (if t126 = 0 then (if x50_5 > 0 then (if 0 ≤ (wrap64 (x50_5 - 1)) then (if (wrap64 (x50_5 - 1)) < (((rd_T39 l0 x32_3).f1).length : Int) then ((stamp_Compare.f k5 ((rd_T33 ((rd_T39 l0 x32_3).f1) (wrap64 (x50_5 - 1))).f0) ((rd_T33 ((rd_T39 l0 x32_3).f1) (wrap64 (x50_5 - 1))).f1) ((rd_T33 ((rd_T39 l0 x32_3).f1) x50_5).f0) ((rd_T33 ((rd_T39 l0 x32_3).f1) x50_5).f1)).bind fun t128 => (if t128 ≥ 0 then (some 60) else (deps_Check.l2 k5 ((rd_T39 l0 x32_3).f0) l0 (l0.length : Int) x32_3 ((rd_T39 l0 x32_3).f1) (((rd_T39 l0 x32_3).f1).length : Int) (wrap64 (x50_5 + 1)) ((rd_T39 l0 x32_3).f0) ((rd_T39 l0 x32_3).f1)))) else (none)) else (none)) else (deps_Check.l2 k5 ((rd_T39 l0 x32_3).f0) l0 (l0.length : Int) x32_3 ((rd_T39 l0 x32_3).f1) (((rd_T39 l0 x32_3).f1).length : Int) (wrap64 (x50_5 + 1)) ((rd_T39 l0 x32_3).f0) ((rd_T39 l0 x32_3).f1))) else (some 60)) = some r := H
                    have A24 := Aside0.mk A240
                    clear A240
                    by_cases c25 : t126 = 0
                    ·rw [if_pos c25] at H
                     have c25b0 : (t126 == 0) = true := beq_iff_eq.mpr c25
                     have c25b1 : (t126 != 0) = false := bne_eq_false_iff_eq.mpr c25
                     clear c25
                     by_cases c26 : x50_5 > 0
                     ·rw [if_pos c26] at H
                      have c26b0 : decide (0 < x50_5) = true := decide_eq_true c26
                      clear c26
                      obtain ⟨ji27, hji27⟩ : ∃ j_ : Int, (wrap64 (x50_5 - 1)) = j_ := ⟨_, rfl⟩
                      replace H : (if 0 ≤ (ji27) then (if (ji27) < (((rd_T39 l0 x32_3).f1).length : Int) then ((stamp_Compare.f k5 ((rd_T33 ((rd_T39 l0 x32_3).f1) (ji27)).f0) ((rd_T33 ((rd_T39 l0 x32_3).f1) (ji27)).f1) ((rd_T33 ((rd_T39 l0 x32_3).f1) x50_5).f0) ((rd_T33 ((rd_T39 l0 x32_3).f1) x50_5).f1)).bind fun t128 => (if t128 ≥ 0 then (some 60) else (deps_Check.l2 k5 ((rd_T39 l0 x32_3).f0) l0 (l0.length : Int) x32_3 ((rd_T39 l0 x32_3).f1) (((rd_T39 l0 x32_3).f1).length : Int) (wrap64 (x50_5 + 1)) ((rd_T39 l0 x32_3).f0) ((rd_T39 l0 x32_3).f1)))) else (none)) else (none)) = some r := by first | (rw [hji27] at H; exact H) | (simp only [hji27] at H ⊢; exact H)
                      (try rw [hji27] at A24)
                      have hji27w : (IntKind.i64.wrap (x50_5 - 1)) = ji27 := (i64_w _).trans hji27
                      by_cases c28 : 0 ≤ (ji27)
                      ·rw [if_pos c28] at H
                       have c28b0 : decide (0 ≤ (ji27)) = true := decide_eq_true c28
                       clear c28
                       by_cases c29 : (ji27) < (((rd_T39 l0 x32_3).f1).length : Int)
                       ·rw [if_pos c29] at H
                        have c29b0 : decide ((ji27) < (((rd_T39 l0 x32_3).f1).length : Int)) = true := decide_eq_true c29
                        clear c29
                        replace H := Option.bind_eq_some_iff.mp H
                        obtain ⟨t128, A300, H⟩ := H
                        replace H : (if t128 ≥ 0 then (some 60) else (deps_Check.l2 k5 ((rd_T39 l0 x32_3).f0) l0 (l0.length : Int) x32_3 ((rd_T39 l0 x32_3).f1) (((rd_T39 l0 x32_3).f1).length : Int) (wrap64 (x50_5 + 1)) ((rd_T39 l0 x32_3).f0) ((rd_T39 l0 x32_3).f1))) = some r := H
                        have A30 := Aside0.mk A300
                        clear A300
                        by_cases c31 : t128 ≥ 0
                        ·rw [if_pos c31] at H
                         have c31b0 : decide (0 ≤ t128) = true := decide_eq_true c31
                         clear c31
                         obtain rfl := Option.some.inj H
                         have p124 : 0 ≤ (x50_5 : Int) := of_decide_eq_true (by first | (with_reducible assumption) | assumption)
                         have q124 : x50_5 < (((rd_T39 l0 x32_3).f1).length : Int) := of_decide_eq_true (by first | (with_reducible assumption) | assumption)
                         obtain ⟨ad124, e124, hx124_0, hx124_1⟩ := at_T33 HR122_1.out x50_5 p124 q124
                         cases e124
                         replace hx124_0 := (HB.out.cell (World.block_lt_of_cell? w _ hx124_0)).trans hx124_0
                         replace hx124_1 := (HB.out.cell (World.block_lt_of_cell? w _ hx124_1)).trans hx124_1
                         replace p124 := eq_true p124
                         replace q124 := eq_true q124
                         try go_wp2_with (first | ((with_reducible refine gate_dst (N := 10) rfl ?_); refine box_event ?hg (N := 10) ?hd (cs := #[.int .i64 0, .int .i64 0]) (t := 33) ?hr ?_; (case hd => rfl); (case hg => rfl); (case hr => first | (go_simp; done) | (go_simp; rfl)); intro gb125 hg w32 hbox hb; have n0_ := Aside0.mk (blk_below (g := gb123) (o := .cells #[.int .i64 ((rd_T39 l0 x32_3).f0), .slice (some ad124) ((rd_T39 l0 x32_3).f1).length c122_1] 39 (0, 0)) (by (with_reducible repeat (first | refine blk_drewN ?_ _ | refine blk_drew ?_ | refine blk_alloc ?_ _)); exact BK123.out) hb); have n1_ := Aside0.mk (below_step (by repeat (first | (with_reducible first | exact HB.out | apply below_alloc | apply pw_below_drewN | apply below_drew1 | refine below_set ?_ GE123.out) | exact HB.out)) hb); have n2_ := Aside0.mk (hbox); have n3_ := Aside0.mk ((by rw [hg]; exact (below_size (by repeat (first | (with_reducible first | exact HB.out | apply below_alloc | apply pw_below_drewN | apply below_drew1 | refine below_set ?_ GE123.out) | exact HB.out))) : w.heap.size ≤ gb125)); have n4_ := Aside0.mk ((by rw [hg]; exact (below_size (by repeat (first | (with_reducible first | exact HB.out | apply below_alloc | apply pw_below_drewN | apply below_drew1 | refine below_set ?_ GE123.out) | exact HB.out))) : w.heap.size ≤ gb125)); have n5_ := Aside0.mk ((by rw [hg]; exact Nat.ne_of_lt (blk_lt (g := gb123) (o := .cells #[.int .i64 ((rd_T39 l0 x32_3).f0), .slice (some ad124) ((rd_T39 l0 x32_3).f1).length c122_1] 39 (0, 0)) (by (with_reducible repeat (first | refine blk_drewN ?_ _ | refine blk_drew ?_ | refine blk_alloc ?_ _)); exact BK123.out)) : gb123 ≠ gb125)); have n6_ := Aside0.mk ((by rw [hg]; exact Nat.ne_of_gt (blk_lt (g := gb123) (o := .cells #[.int .i64 ((rd_T39 l0 x32_3).f0), .slice (some ad124) ((rd_T39 l0 x32_3).f1).length c122_1] 39 (0, 0)) (by (with_reducible repeat (first | refine blk_drewN ?_ _ | refine blk_drew ?_ | refine blk_alloc ?_ _)); exact BK123.out)) : gb125 ≠ gb123)); clear BK123; clear HB; have BK123 := n0_; have HB := n1_; have BK125 := n2_; have GW125 := n3_; have GE125 := n4_; have NB123_125 := n5_; have NB125_123 := n6_; clear n0_ n1_ n2_ n3_ n4_ n5_ n6_; clear hb hbox hg; have hnb33 := NB125_123.out; have hnc33 := NB123_125.out; have hcz34_0 : w32.cell? ⟨gb125, 0, none⟩ = some (.int .i64 0) := (blk_cell BK125.out 0).trans rfl; have hcz34_1 : w32.cell? ⟨gb125, 1, none⟩ = some (.int .i64 0) := (blk_cell BK125.out 1).trans rfl; have hfz34_0 := blk_frozen BK125.out 0; have hfz34_1 := blk_frozen BK125.out 1))
                         have n0_ : Aside0 (((w32.setCell ⟨gb125, 0, none⟩ (.int .i64 ((rd_T33 ((rd_T39 l0 x32_3).f1) x50_5).f0))).setCell ⟨gb125, 1, none⟩ (.int .i64 ((rd_T33 ((rd_T39 l0 x32_3).f1) x50_5).f1))).heap[gb123]? = some (.cells #[.int .i64 ((rd_T39 l0 x32_3).f0), .slice (some ad124) ((rd_T39 l0 x32_3).f1).length c122_1] 39 (0, 0))) := ⟨by (with_reducible repeat (first | refine blk_drewN ?_ _ | refine blk_drew ?_ | refine blk_alloc ?_ _)); refine blk_far ?_ NB123_125.out _; (with_reducible repeat (first | refine blk_drewN ?_ _ | refine blk_drew ?_ | refine blk_alloc ?_ _)); refine blk_far ?_ NB123_125.out _; (with_reducible repeat (first | refine blk_drewN ?_ _ | refine blk_drew ?_ | refine blk_alloc ?_ _)); exact BK123.out⟩
                         have n1_ : Aside0 (((w32.setCell ⟨gb125, 0, none⟩ (.int .i64 ((rd_T33 ((rd_T39 l0 x32_3).f1) x50_5).f0))).setCell ⟨gb125, 1, none⟩ (.int .i64 ((rd_T33 ((rd_T39 l0 x32_3).f1) x50_5).f1))).heap[gb125]? = some (.cells #[.int .i64 ((rd_T33 ((rd_T39 l0 x32_3).f1) x50_5).f0), .int .i64 ((rd_T33 ((rd_T39 l0 x32_3).f1) x50_5).f1)] 33 (0, 0))) := ⟨by (with_reducible repeat (first | refine blk_drewN ?_ _ | refine blk_drew ?_ | refine blk_alloc ?_ _)); refine blk_put (cs := #[.int .i64 ((rd_T33 ((rd_T39 l0 x32_3).f1) x50_5).f0), .int .i64 0]) ?_ 1 _ rfl; (with_reducible repeat (first | refine blk_drewN ?_ _ | refine blk_drew ?_ | refine blk_alloc ?_ _)); refine blk_put (cs := #[.int .i64 0, .int .i64 0]) ?_ 0 _ rfl; (with_reducible repeat (first | refine blk_drewN ?_ _ | refine blk_drew ?_ | refine blk_alloc ?_ _)); exact BK125.out⟩
                         have n2_ : Aside0 (Below w.heap.size w ((w32.setCell ⟨gb125, 0, none⟩ (.int .i64 ((rd_T33 ((rd_T39 l0 x32_3).f1) x50_5).f0))).setCell ⟨gb125, 1, none⟩ (.int .i64 ((rd_T33 ((rd_T39 l0 x32_3).f1) x50_5).f1)))) := ⟨by repeat (first | (with_reducible first | exact HB.out | apply below_alloc | apply pw_below_drewN | apply below_drew1 | refine below_set ?_ GE123.out | refine below_set ?_ GE125.out) | exact HB.out)⟩
                         (try clear BK123)
                         (try clear BK125)
                         (try clear HB)
                         generalize ((w32.setCell ⟨gb125, 0, none⟩ (.int .i64 ((rd_T33 ((rd_T39 l0 x32_3).f1) x50_5).f0))).setCell ⟨gb125, 1, none⟩ (.int .i64 ((rd_T33 ((rd_T39 l0 x32_3).f1) x50_5).f1))) = w35 at n0_ n1_ n2_ ⊢
                         have BK123 := n0_
                         have BK125 := n1_
                         have HB := n2_
                         clear n0_ n1_ n2_
                         have n0_ := Aside0.mk (blk_drew BK123.out)
                         have n1_ := Aside0.mk (blk_drew BK125.out)
                         have n2_ := Aside0.mk (below_drew1 HB.out)
                         clear BK123
                         clear BK125
                         clear HB
                         have BK123 := n0_
                         have BK125 := n1_
                         have HB := n2_
                         clear n0_ n1_ n2_
                         have p127 : 0 ≤ ((ji27) : Int) := of_decide_eq_true (by first | (with_reducible assumption) | assumption)
                         have q127 : (ji27) < (((rd_T39 l0 x32_3).f1).length : Int) := of_decide_eq_true (by first | (with_reducible assumption) | assumption)
                         obtain ⟨ad127, e127, hx127_0, hx127_1⟩ := at_T33 HR122_1.out (ji27) p127 q127
                         have hw127_1 := hx127_1
                         have hw127_0 := hx127_0
                         obtain rfl : ad124 = ad127 := (by injection e127)
                         replace hx127_0 := (HB.out.cell (World.block_lt_of_cell? w _ hx127_0)).trans hx127_0
                         replace hx127_1 := (HB.out.cell (World.block_lt_of_cell? w _ hx127_1)).trans hx127_1
                         replace p127 := eq_true p127
                         replace q127 := eq_true q127
                         refine start_ (n := 18) (S := fun w' => w'.cell? ⟨gb125, 0, none⟩ = some (.int .i64 ((rd_T33 ((rd_T39 l0 x32_3).f1) x50_5).f0)) ∧ w'.cell? ⟨gb125, 1, none⟩ = some (.int .i64 ((rd_T33 ((rd_T39 l0 x32_3).f1) x50_5).f1)) ∧ w'.cell? ⟨gb123, 0, none⟩ = some (.int .i64 ((rd_T39 l0 x32_3).f0)) ∧ w'.cell? ⟨gb123, 1, none⟩ = some (.slice (some ad124) ((rd_T39 l0 x32_3).f1).length c122_1) ∧ w'.cell? (ad124.add (((ji27)).toNat * 2)) = some (.int .i64 ((rd_T33 ((rd_T39 l0 x32_3).f1) (ji27)).f0)) ∧ w'.cell? ⟨(ad124.add (((ji27)).toNat * 2)).block, (ad124.add (((ji27)).toNat * 2)).off + 1, none⟩ = some (.int .i64 ((rd_T33 ((rd_T39 l0 x32_3).f1) (ji27)).f1))) (ds := []) #[false,false,false,false,false,false,false,false,false,false,false,false,false,false,false,false,false,false] (by kernel_rfl) rfl rfl ⟨(blk_cell BK125.out 0).trans rfl, (blk_cell BK125.out 1).trans rfl, (blk_cell BK123.out 0).trans rfl, (blk_cell BK123.out 1).trans rfl, ((HB.out.cell (World.block_lt_of_cell? w _ hw127_0)).trans hw127_0), ((HB.out.cell (World.block_lt_of_cell? w _ hw127_1)).trans hw127_1)⟩ (fun hHeld => ?_); refine with_tabW deps_Check.tab19 deps_Check.bits19 (fun HT_ HW_ => ?_)
                         generalize w35.drew = w36 at BK123 BK125 HB hx127_0 hx127_1 hHeld ⊢
                         refine take_ (i := 0) (N := some 55) (v := ?_) (a' := ?_) #[true,false,false,false,false,false,false,false,false,false,false,false,false,false,false,false,false,false] rfl rfl (take_ofW HT_.out HW_.out (by kernel_rfl)) (fun _ _ _ h => h) (Or.inl ⟨by rfl, ?_⟩) hHeld ?_ ?_
                         rotate_left
                         ·rintro w' ⟨s0, s1, s2, s3, s4, s5⟩
                          go_simp
                          with_reducible rfl
                         rotate_left
                         ·simp only [Act.put, List.setIfInBounds_toArray, List.set_cons_zero, List.set_cons_succ, i64_w, i32_w]
                          rfl
                         refine one_ (i := 1) (N := some 56) #[true,true,false,false,false,false,false,false,false,false,false,false,false,false,false,false,false,false] rfl rfl (one_of HT_.out (by kernel_rfl)) (by decide) (fun K hK => ?_)
                         refine goes_ Try.func23 (by kernel_rfl) rfl #[.agg #[.int .i64 ((rd_T33 ((rd_T39 l0 x32_3).f1) x50_5).f0), .int .i64 ((rd_T33 ((rd_T39 l0 x32_3).f1) x50_5).f1)]] (by rfl) rfl rfl (by (try simp only [List.map_toArray, List.map_cons, List.map_nil]); first | done | rfl | (simp only [List.length_drop, List.length_take]; rfl)) ?_
                         with_reducible refine (stamp_Check.calls ((rd_T33 ((rd_T39 l0 x32_3).f1) x50_5).f0) ((rd_T33 ((rd_T39 l0 x32_3).f1) x50_5).f1) t126 _ A24.out).mono ?_
                         rintro e w37 ⟨rfl, hb⟩
                         refine ⟨_, rfl, ?_⟩
                         have n0_ := Aside0.mk (blk_below (g := gb123) (o := .cells #[.int .i64 ((rd_T39 l0 x32_3).f0), .slice (some ad124) ((rd_T39 l0 x32_3).f1).length c122_1] 39 (0, 0)) (by (with_reducible repeat (first | refine blk_drewN ?_ _ | refine blk_drew ?_ | refine blk_alloc ?_ _)); exact BK123.out) hb)
                         have n1_ := Aside0.mk (blk_below (g := gb125) (o := .cells #[.int .i64 ((rd_T33 ((rd_T39 l0 x32_3).f1) x50_5).f0), .int .i64 ((rd_T33 ((rd_T39 l0 x32_3).f1) x50_5).f1)] 33 (0, 0)) (by (with_reducible repeat (first | refine blk_drewN ?_ _ | refine blk_drew ?_ | refine blk_alloc ?_ _)); exact BK125.out) hb)
                         have n2_ := Aside0.mk (below_step (by repeat (first | (with_reducible first | exact HB.out | apply below_alloc | apply pw_below_drewN | apply below_drew1 | refine below_set ?_ GE123.out | refine below_set ?_ GE125.out) | exact HB.out)) hb)
                         clear BK123
                         clear BK125
                         clear HB
                         have BK123 := n0_
                         have BK125 := n1_
                         have HB := n2_
                         clear n0_ n1_ n2_
                         (try clear hb)
                         (try clear hb2)
                         (try clear hk)
                         (try clear hi)
                         refine hK.out _ _ ⟨(blk_cell BK125.out 0).trans rfl, (blk_cell BK125.out 1).trans rfl, (blk_cell BK123.out 0).trans rfl, (blk_cell BK123.out 1).trans rfl, ((HB.out.cell (World.block_lt_of_cell? w _ hw127_0)).trans hw127_0), ((HB.out.cell (World.block_lt_of_cell? w _ hw127_1)).trans hw127_1)⟩ (fun hHeld => ?_)
                         clear hK K
                         refine norm_ (a' := ?_) ?_ ?_
                         rotate_left
                         ·show Act.put _ (some 56) _ = _
                          simp only [Act.put, List.setIfInBounds_toArray, List.set_cons_zero, List.set_cons_succ, i64_w, i32_w]
                          rfl
                         refine pure_ (i := 2) (N := some 57) (v := ?_) (a' := ?_) #[true,true,true,false,false,false,false,false,false,false,false,false,false,false,false,false,false,false] rfl rfl (any_of HT_.out (by kernel_rfl)) (fun _ _ _ h => h) (Or.inl ⟨by rfl, ?_⟩) ?_ ?_
                         rotate_left
                         ·intro w'
                          go_simp
                          with_reducible rfl
                         rotate_left
                         ·simp only [Act.put, List.setIfInBounds_toArray, List.set_cons_zero, List.set_cons_succ, i64_w, i32_w]
                          rfl
                         refine pure_ (i := 3) (N := some 58) (v := ?_) (a' := ?_) #[true,true,true,true,false,false,false,false,false,false,false,false,false,false,false,false,false,false] rfl rfl (any_of HT_.out (by kernel_rfl)) (fun _ _ _ h => h) (Or.inl ⟨by rfl, ?_⟩) ?_ ?_
                         rotate_left
                         ·intro w'
                          go_simp
                          with_reducible rfl
                         rotate_left
                         ·simp only [Act.put, List.setIfInBounds_toArray, List.set_cons_zero, List.set_cons_succ, i64_w, i32_w]
                          rfl
                         refine pure_ (i := 4) (N := some 59) (v := ?_) (a' := ?_) #[true,true,true,true,true,false,false,false,false,false,false,false,false,false,false,false,false,false] rfl rfl (any_of HT_.out (by kernel_rfl)) (fun _ _ _ h => h) (Or.inl ⟨by rfl, ?_⟩) ?_ ?_
                         rotate_left
                         ·intro w'
                          go_simp
                          with_reducible rfl
                         rotate_left
                         ·simp only [Act.put, List.setIfInBounds_toArray, List.set_cons_zero, List.set_cons_succ, i64_w, i32_w]
                          rfl
                         refine pure_ (i := 5) (N := some 60) (v := ?_) (a' := ?_) #[true,true,true,true,true,true,false,false,false,false,false,false,false,false,false,false,false,false] rfl rfl (any_of HT_.out (by kernel_rfl)) (fun _ _ _ h => h) (Or.inl ⟨by rfl, ?_⟩) ?_ ?_
                         rotate_left
                         ·intro w'
                          go_simp
                          with_reducible rfl
                         rotate_left
                         ·simp only [Act.put, List.setIfInBounds_toArray, List.set_cons_zero, List.set_cons_succ, i64_w, i32_w]
                          rfl
                         refine pure_ (i := 6) (N := some 61) (v := ?_) (a' := ?_) #[true,true,true,true,true,true,true,false,false,false,false,false,false,false,false,false,false,false] rfl rfl (any_of HT_.out (by kernel_rfl)) (fun _ _ _ h => h) (Or.inl ⟨by rfl, ?_⟩) ?_ ?_
                         rotate_left
                         ·intro w'
                          go_simp
                          with_reducible rfl
                         rotate_left
                         ·simp only [Act.put, List.setIfInBounds_toArray, List.set_cons_zero, List.set_cons_succ, i64_w, i32_w]
                          rfl
                         refine pure_ (i := 7) (N := some 62) (v := ?_) (a' := ?_) #[true,true,true,true,true,true,true,true,false,false,false,false,false,false,false,false,false,false] rfl rfl (any_of HT_.out (by kernel_rfl)) (fun _ _ _ h => h) (Or.inl ⟨by rfl, ?_⟩) ?_ ?_
                         rotate_left
                         ·intro w'
                          go_simp
                          with_reducible rfl
                         rotate_left
                         ·simp only [Act.put, List.setIfInBounds_toArray, List.set_cons_zero, List.set_cons_succ, i64_w, i32_w]
                          rfl
                         refine pure_ (i := 9) (N := some 64) (v := ?_) (a' := ?_) #[true,true,true,true,true,true,true,true,false,true,false,false,false,false,false,false,false,false] rfl rfl (any_of HT_.out (by kernel_rfl)) (fun _ _ _ h => h) (Or.inl ⟨by rfl, ?_⟩) ?_ ?_
                         rotate_left
                         ·intro w'
                          go_simp
                          with_reducible rfl
                         rotate_left
                         ·simp only [Act.put, List.setIfInBounds_toArray, List.set_cons_zero, List.set_cons_succ, i64_w, i32_w]
                          rfl
                         refine pure_ (i := 10) (N := some 65) (v := ?_) (a' := ?_) #[true,true,true,true,true,true,true,true,false,true,true,false,false,false,false,false,false,false] rfl rfl (any_of HT_.out (by kernel_rfl)) (fun _ _ _ h => h) (Or.inl ⟨by rfl, ?_⟩) ?_ ?_
                         rotate_left
                         ·intro w'
                          go_simp
                          with_reducible rfl
                         rotate_left
                         ·simp only [Act.put, List.setIfInBounds_toArray, List.set_cons_zero, List.set_cons_succ, i64_w, i32_w]
                          rfl
                         refine take_ (i := 8) (N := some 63) (v := ?_) (a' := ?_) #[true,true,true,true,true,true,true,true,true,true,true,false,false,false,false,false,false,false] rfl rfl (take_ofW HT_.out HW_.out (by kernel_rfl)) (fun _ _ _ h => h) (Or.inl ⟨by rfl, ?_⟩) hHeld ?_ ?_
                         rotate_left
                         ·rintro w' ⟨s0, s1, s2, s3, s4, s5⟩
                          go_simp
                          with_reducible rfl
                         rotate_left
                         ·simp only [Act.put, List.setIfInBounds_toArray, List.set_cons_zero, List.set_cons_succ, i64_w, i32_w]
                          rfl
                         refine pure_ (i := 11) (N := some 66) (v := ?_) (a' := ?_) #[true,true,true,true,true,true,true,true,true,true,true,true,false,false,false,false,false,false] rfl rfl (any_of HT_.out (by kernel_rfl)) (fun _ _ _ h => h) (Or.inl ⟨by rfl, ?_⟩) ?_ ?_
                         rotate_left
                         ·intro w'
                          go_simp
                          with_reducible rfl
                         rotate_left
                         ·simp only [Act.put, List.setIfInBounds_toArray, List.set_cons_zero, List.set_cons_succ, i64_w, i32_w]
                          rfl
                         refine take_ (i := 12) (N := some 67) (v := ?_) (a' := ?_) #[true,true,true,true,true,true,true,true,true,true,true,true,true,false,false,false,false,false] rfl rfl (take_ofW HT_.out HW_.out (by kernel_rfl)) (fun _ _ _ h => h) (Or.inl ⟨by rfl, ?_⟩) hHeld ?_ ?_
                         rotate_left
                         ·rintro w' ⟨s0, s1, s2, s3, s4, s5⟩
                          go_simp
                          with_reducible rfl
                         rotate_left
                         ·simp only [Act.put, List.setIfInBounds_toArray, List.set_cons_zero, List.set_cons_succ, i64_w, i32_w]
                          rfl
                         refine take_ (i := 13) (N := some 68) (v := ?_) (a' := ?_) #[true,true,true,true,true,true,true,true,true,true,true,true,true,true,false,false,false,false] rfl rfl (take_ofW HT_.out HW_.out (by kernel_rfl)) (fun _ _ _ h => h) (Or.inl ⟨by rfl, ?_⟩) hHeld ?_ ?_
                         rotate_left
                         ·rintro w' ⟨s0, s1, s2, s3, s4, s5⟩
                          go_simp
                          with_reducible rfl
                         rotate_left
                         ·simp only [Act.put, List.setIfInBounds_toArray, List.set_cons_zero, List.set_cons_succ, i64_w, i32_w]
                          rfl
                         refine one_ (i := 14) (N := some 69) #[true,true,true,true,true,true,true,true,true,true,true,true,true,true,true,false,false,false] rfl rfl (one_of HT_.out (by kernel_rfl)) (by decide) (fun K hK => ?_)
                         refine goes_ Try.func24 (by kernel_rfl) rfl #[.agg #[.int .i64 ((rd_T33 ((rd_T39 l0 x32_3).f1) (ji27)).f0), .int .i64 ((rd_T33 ((rd_T39 l0 x32_3).f1) (ji27)).f1)], .agg #[.int .i64 ((rd_T33 ((rd_T39 l0 x32_3).f1) x50_5).f0), .int .i64 ((rd_T33 ((rd_T39 l0 x32_3).f1) x50_5).f1)]] (by rfl) rfl rfl (by (try simp only [List.map_toArray, List.map_cons, List.map_nil]); first | done | (simp only [hji27]; rfl) | rfl | (simp only [List.length_drop, List.length_take]; rfl)) ?_
                         with_reducible refine (stamp_Compare.calls k5 ((rd_T33 ((rd_T39 l0 x32_3).f1) (ji27)).f0) ((rd_T33 ((rd_T39 l0 x32_3).f1) (ji27)).f1) ((rd_T33 ((rd_T39 l0 x32_3).f1) x50_5).f0) ((rd_T33 ((rd_T39 l0 x32_3).f1) x50_5).f1) t128 _ A30.out).mono ?_
                         rintro e w38 ⟨rfl, hb⟩
                         refine ⟨_, rfl, ?_⟩
                         have n0_ := Aside0.mk (blk_below (g := gb123) (o := .cells #[.int .i64 ((rd_T39 l0 x32_3).f0), .slice (some ad124) ((rd_T39 l0 x32_3).f1).length c122_1] 39 (0, 0)) (by (with_reducible repeat (first | refine blk_drewN ?_ _ | refine blk_drew ?_ | refine blk_alloc ?_ _)); exact BK123.out) hb)
                         have n1_ := Aside0.mk (blk_below (g := gb125) (o := .cells #[.int .i64 ((rd_T33 ((rd_T39 l0 x32_3).f1) x50_5).f0), .int .i64 ((rd_T33 ((rd_T39 l0 x32_3).f1) x50_5).f1)] 33 (0, 0)) (by (with_reducible repeat (first | refine blk_drewN ?_ _ | refine blk_drew ?_ | refine blk_alloc ?_ _)); exact BK125.out) hb)
                         have n2_ := Aside0.mk (below_step (by repeat (first | (with_reducible first | exact HB.out | apply below_alloc | apply pw_below_drewN | apply below_drew1 | refine below_set ?_ GE123.out | refine below_set ?_ GE125.out) | exact HB.out)) hb)
                         clear BK123
                         clear BK125
                         clear HB
                         have BK123 := n0_
                         have BK125 := n1_
                         have HB := n2_
                         clear n0_ n1_ n2_
                         (try clear hb)
                         (try clear hb2)
                         (try clear hk)
                         (try clear hi)
                         refine hK.out _ _ ⟨(blk_cell BK125.out 0).trans rfl, (blk_cell BK125.out 1).trans rfl, (blk_cell BK123.out 0).trans rfl, (blk_cell BK123.out 1).trans rfl, ((HB.out.cell (World.block_lt_of_cell? w _ hw127_0)).trans hw127_0), ((HB.out.cell (World.block_lt_of_cell? w _ hw127_1)).trans hw127_1)⟩ (fun hHeld => ?_)
                         clear hK K
                         refine norm_ (a' := ?_) ?_ ?_
                         rotate_left
                         ·show Act.put _ (some 69) _ = _
                          simp only [Act.put, List.setIfInBounds_toArray, List.set_cons_zero, List.set_cons_succ, i64_w, i32_w]
                          rfl
                         refine pure_ (i := 15) (N := some 70) (v := ?_) (a' := ?_) #[true,true,true,true,true,true,true,true,true,true,true,true,true,true,true,true,false,false] rfl rfl (any_of HT_.out (by kernel_rfl)) (fun _ _ _ h => h) (Or.inl ⟨by rfl, ?_⟩) ?_ ?_
                         rotate_left
                         ·intro w'
                          go_simp
                          with_reducible rfl
                         rotate_left
                         ·simp only [Act.put, List.setIfInBounds_toArray, List.set_cons_zero, List.set_cons_succ, i64_w, i32_w]
                          rfl
                         refine pure_ (i := 16) (N := some 71) (v := ?_) (a' := ?_) #[true,true,true,true,true,true,true,true,true,true,true,true,true,true,true,true,true,false] rfl rfl (any_of HT_.out (by kernel_rfl)) (fun _ _ _ h => h) (Or.inl ⟨by rfl, ?_⟩) ?_ ?_
                         rotate_left
                         ·intro w'
                          go_simp
                          with_reducible rfl
                         rotate_left
                         ·simp only [Act.put, List.setIfInBounds_toArray, List.set_cons_zero, List.set_cons_succ, i64_w, i32_w]
                          rfl
                         refine pure_ (i := 17) (N := some 72) (v := ?_) (a' := ?_) #[true,true,true,true,true,true,true,true,true,true,true,true,true,true,true,true,true,true] rfl rfl (any_of HT_.out (by kernel_rfl)) (fun _ _ _ h => h) (Or.inl ⟨by rfl, ?_⟩) ?_ ?_
                         rotate_left
                         ·intro w'
                          go_simp
                          with_reducible rfl
                         rotate_left
                         ·simp only [Act.put, List.setIfInBounds_toArray, List.set_cons_zero, List.set_cons_succ, i64_w, i32_w]
                          rfl
                         refine done_ (done_of HT_.out (by kernel_rfl)) ?_
                         try go_wp2
                         go_ret
                         exact ⟨by first | rfl | (simp [errW_none, errW_some] <;> rfl) | (simp only [← hji27]; first | rfl | (simp [errW_none, errW_some] <;> rfl)) | (simp [*, errW_none, errW_some] <;> rfl), by repeat (first | (with_reducible first | exact HB.out | apply below_alloc | apply pw_below_drewN | apply below_drew1 | refine below_set ?_ GE123.out | refine below_set ?_ GE125.out) | exact HB.out)⟩
                        ·rw [if_neg c31] at H
                         have c31b0 : decide (0 ≤ t128) = false := decide_eq_false c31
                         clear c31
                         have H' := Aside0.mk H
                         clear H
                         have p124 : 0 ≤ (x50_5 : Int) := of_decide_eq_true (by first | (with_reducible assumption) | assumption)
                         have q124 : x50_5 < (((rd_T39 l0 x32_3).f1).length : Int) := of_decide_eq_true (by first | (with_reducible assumption) | assumption)
                         obtain ⟨ad124, e124, hx124_0, hx124_1⟩ := at_T33 HR122_1.out x50_5 p124 q124
                         cases e124
                         replace hx124_0 := (HB.out.cell (World.block_lt_of_cell? w _ hx124_0)).trans hx124_0
                         replace hx124_1 := (HB.out.cell (World.block_lt_of_cell? w _ hx124_1)).trans hx124_1
                         replace p124 := eq_true p124
                         replace q124 := eq_true q124
                         try go_wp2_with (first | ((with_reducible refine gate_dst (N := 10) rfl ?_); refine box_event ?hg (N := 10) ?hd (cs := #[.int .i64 0, .int .i64 0]) (t := 33) ?hr ?_; (case hd => rfl); (case hg => rfl); (case hr => first | (go_simp; done) | (go_simp; rfl)); intro gb125 hg w39 hbox hb; have n0_ := Aside0.mk (blk_below (g := gb123) (o := .cells #[.int .i64 ((rd_T39 l0 x32_3).f0), .slice (some ad124) ((rd_T39 l0 x32_3).f1).length c122_1] 39 (0, 0)) (by (with_reducible repeat (first | refine blk_drewN ?_ _ | refine blk_drew ?_ | refine blk_alloc ?_ _)); exact BK123.out) hb); have n1_ := Aside0.mk (below_step (by repeat (first | (with_reducible first | exact HB.out | apply below_alloc | apply pw_below_drewN | apply below_drew1 | refine below_set ?_ GE123.out) | exact HB.out)) hb); have n2_ := Aside0.mk (hbox); have n3_ := Aside0.mk ((by rw [hg]; exact (below_size (by repeat (first | (with_reducible first | exact HB.out | apply below_alloc | apply pw_below_drewN | apply below_drew1 | refine below_set ?_ GE123.out) | exact HB.out))) : w.heap.size ≤ gb125)); have n4_ := Aside0.mk ((by rw [hg]; exact (below_size (by repeat (first | (with_reducible first | exact HB.out | apply below_alloc | apply pw_below_drewN | apply below_drew1 | refine below_set ?_ GE123.out) | exact HB.out))) : w.heap.size ≤ gb125)); have n5_ := Aside0.mk ((by rw [hg]; exact Nat.ne_of_lt (blk_lt (g := gb123) (o := .cells #[.int .i64 ((rd_T39 l0 x32_3).f0), .slice (some ad124) ((rd_T39 l0 x32_3).f1).length c122_1] 39 (0, 0)) (by (with_reducible repeat (first | refine blk_drewN ?_ _ | refine blk_drew ?_ | refine blk_alloc ?_ _)); exact BK123.out)) : gb123 ≠ gb125)); have n6_ := Aside0.mk ((by rw [hg]; exact Nat.ne_of_gt (blk_lt (g := gb123) (o := .cells #[.int .i64 ((rd_T39 l0 x32_3).f0), .slice (some ad124) ((rd_T39 l0 x32_3).f1).length c122_1] 39 (0, 0)) (by (with_reducible repeat (first | refine blk_drewN ?_ _ | refine blk_drew ?_ | refine blk_alloc ?_ _)); exact BK123.out)) : gb125 ≠ gb123)); clear BK123; clear HB; have BK123 := n0_; have HB := n1_; have BK125 := n2_; have GW125 := n3_; have GE125 := n4_; have NB123_125 := n5_; have NB125_123 := n6_; clear n0_ n1_ n2_ n3_ n4_ n5_ n6_; clear hb hbox hg; have hnb40 := NB125_123.out; have hnc40 := NB123_125.out; have hcz41_0 : w39.cell? ⟨gb125, 0, none⟩ = some (.int .i64 0) := (blk_cell BK125.out 0).trans rfl; have hcz41_1 : w39.cell? ⟨gb125, 1, none⟩ = some (.int .i64 0) := (blk_cell BK125.out 1).trans rfl; have hfz41_0 := blk_frozen BK125.out 0; have hfz41_1 := blk_frozen BK125.out 1))
                         have n0_ : Aside0 (((w39.setCell ⟨gb125, 0, none⟩ (.int .i64 ((rd_T33 ((rd_T39 l0 x32_3).f1) x50_5).f0))).setCell ⟨gb125, 1, none⟩ (.int .i64 ((rd_T33 ((rd_T39 l0 x32_3).f1) x50_5).f1))).heap[gb123]? = some (.cells #[.int .i64 ((rd_T39 l0 x32_3).f0), .slice (some ad124) ((rd_T39 l0 x32_3).f1).length c122_1] 39 (0, 0))) := ⟨by (with_reducible repeat (first | refine blk_drewN ?_ _ | refine blk_drew ?_ | refine blk_alloc ?_ _)); refine blk_far ?_ NB123_125.out _; (with_reducible repeat (first | refine blk_drewN ?_ _ | refine blk_drew ?_ | refine blk_alloc ?_ _)); refine blk_far ?_ NB123_125.out _; (with_reducible repeat (first | refine blk_drewN ?_ _ | refine blk_drew ?_ | refine blk_alloc ?_ _)); exact BK123.out⟩
                         have n1_ : Aside0 (((w39.setCell ⟨gb125, 0, none⟩ (.int .i64 ((rd_T33 ((rd_T39 l0 x32_3).f1) x50_5).f0))).setCell ⟨gb125, 1, none⟩ (.int .i64 ((rd_T33 ((rd_T39 l0 x32_3).f1) x50_5).f1))).heap[gb125]? = some (.cells #[.int .i64 ((rd_T33 ((rd_T39 l0 x32_3).f1) x50_5).f0), .int .i64 ((rd_T33 ((rd_T39 l0 x32_3).f1) x50_5).f1)] 33 (0, 0))) := ⟨by (with_reducible repeat (first | refine blk_drewN ?_ _ | refine blk_drew ?_ | refine blk_alloc ?_ _)); refine blk_put (cs := #[.int .i64 ((rd_T33 ((rd_T39 l0 x32_3).f1) x50_5).f0), .int .i64 0]) ?_ 1 _ rfl; (with_reducible repeat (first | refine blk_drewN ?_ _ | refine blk_drew ?_ | refine blk_alloc ?_ _)); refine blk_put (cs := #[.int .i64 0, .int .i64 0]) ?_ 0 _ rfl; (with_reducible repeat (first | refine blk_drewN ?_ _ | refine blk_drew ?_ | refine blk_alloc ?_ _)); exact BK125.out⟩
                         have n2_ : Aside0 (Below w.heap.size w ((w39.setCell ⟨gb125, 0, none⟩ (.int .i64 ((rd_T33 ((rd_T39 l0 x32_3).f1) x50_5).f0))).setCell ⟨gb125, 1, none⟩ (.int .i64 ((rd_T33 ((rd_T39 l0 x32_3).f1) x50_5).f1)))) := ⟨by repeat (first | (with_reducible first | exact HB.out | apply below_alloc | apply pw_below_drewN | apply below_drew1 | refine below_set ?_ GE123.out | refine below_set ?_ GE125.out) | exact HB.out)⟩
                         (try clear BK123)
                         (try clear BK125)
                         (try clear HB)
                         generalize ((w39.setCell ⟨gb125, 0, none⟩ (.int .i64 ((rd_T33 ((rd_T39 l0 x32_3).f1) x50_5).f0))).setCell ⟨gb125, 1, none⟩ (.int .i64 ((rd_T33 ((rd_T39 l0 x32_3).f1) x50_5).f1))) = w42 at n0_ n1_ n2_ ⊢
                         have BK123 := n0_
                         have BK125 := n1_
                         have HB := n2_
                         clear n0_ n1_ n2_
                         have n0_ := Aside0.mk (blk_drew BK123.out)
                         have n1_ := Aside0.mk (blk_drew BK125.out)
                         have n2_ := Aside0.mk (below_drew1 HB.out)
                         clear BK123
                         clear BK125
                         clear HB
                         have BK123 := n0_
                         have BK125 := n1_
                         have HB := n2_
                         clear n0_ n1_ n2_
                         have p127 : 0 ≤ ((ji27) : Int) := of_decide_eq_true (by first | (with_reducible assumption) | assumption)
                         have q127 : (ji27) < (((rd_T39 l0 x32_3).f1).length : Int) := of_decide_eq_true (by first | (with_reducible assumption) | assumption)
                         obtain ⟨ad127, e127, hx127_0, hx127_1⟩ := at_T33 HR122_1.out (ji27) p127 q127
                         have hw127_1 := hx127_1
                         have hw127_0 := hx127_0
                         obtain rfl : ad124 = ad127 := (by injection e127)
                         replace hx127_0 := (HB.out.cell (World.block_lt_of_cell? w _ hx127_0)).trans hx127_0
                         replace hx127_1 := (HB.out.cell (World.block_lt_of_cell? w _ hx127_1)).trans hx127_1
                         replace p127 := eq_true p127
                         replace q127 := eq_true q127
                         refine start_ (n := 18) (S := fun w' => w'.cell? ⟨gb125, 0, none⟩ = some (.int .i64 ((rd_T33 ((rd_T39 l0 x32_3).f1) x50_5).f0)) ∧ w'.cell? ⟨gb125, 1, none⟩ = some (.int .i64 ((rd_T33 ((rd_T39 l0 x32_3).f1) x50_5).f1)) ∧ w'.cell? ⟨gb123, 0, none⟩ = some (.int .i64 ((rd_T39 l0 x32_3).f0)) ∧ w'.cell? ⟨gb123, 1, none⟩ = some (.slice (some ad124) ((rd_T39 l0 x32_3).f1).length c122_1) ∧ w'.cell? (ad124.add (((ji27)).toNat * 2)) = some (.int .i64 ((rd_T33 ((rd_T39 l0 x32_3).f1) (ji27)).f0)) ∧ w'.cell? ⟨(ad124.add (((ji27)).toNat * 2)).block, (ad124.add (((ji27)).toNat * 2)).off + 1, none⟩ = some (.int .i64 ((rd_T33 ((rd_T39 l0 x32_3).f1) (ji27)).f1))) (ds := []) #[false,false,false,false,false,false,false,false,false,false,false,false,false,false,false,false,false,false] (by kernel_rfl) rfl rfl ⟨(blk_cell BK125.out 0).trans rfl, (blk_cell BK125.out 1).trans rfl, (blk_cell BK123.out 0).trans rfl, (blk_cell BK123.out 1).trans rfl, ((HB.out.cell (World.block_lt_of_cell? w _ hw127_0)).trans hw127_0), ((HB.out.cell (World.block_lt_of_cell? w _ hw127_1)).trans hw127_1)⟩ (fun hHeld => ?_); refine with_tabW deps_Check.tab19 deps_Check.bits19 (fun HT_ HW_ => ?_)
                         generalize w42.drew = w43 at BK123 BK125 HB hx127_0 hx127_1 hHeld ⊢
                         refine take_ (i := 0) (N := some 55) (v := ?_) (a' := ?_) #[true,false,false,false,false,false,false,false,false,false,false,false,false,false,false,false,false,false] rfl rfl (take_ofW HT_.out HW_.out (by kernel_rfl)) (fun _ _ _ h => h) (Or.inl ⟨by rfl, ?_⟩) hHeld ?_ ?_
                         rotate_left
                         ·rintro w' ⟨s0, s1, s2, s3, s4, s5⟩
                          go_simp
                          with_reducible rfl
                         rotate_left
                         ·simp only [Act.put, List.setIfInBounds_toArray, List.set_cons_zero, List.set_cons_succ, i64_w, i32_w]
                          rfl
                         refine one_ (i := 1) (N := some 56) #[true,true,false,false,false,false,false,false,false,false,false,false,false,false,false,false,false,false] rfl rfl (one_of HT_.out (by kernel_rfl)) (by decide) (fun K hK => ?_)
                         refine goes_ Try.func23 (by kernel_rfl) rfl #[.agg #[.int .i64 ((rd_T33 ((rd_T39 l0 x32_3).f1) x50_5).f0), .int .i64 ((rd_T33 ((rd_T39 l0 x32_3).f1) x50_5).f1)]] (by rfl) rfl rfl (by (try simp only [List.map_toArray, List.map_cons, List.map_nil]); first | done | rfl | (simp only [List.length_drop, List.length_take]; rfl)) ?_
                         with_reducible refine (stamp_Check.calls ((rd_T33 ((rd_T39 l0 x32_3).f1) x50_5).f0) ((rd_T33 ((rd_T39 l0 x32_3).f1) x50_5).f1) t126 _ A24.out).mono ?_
                         rintro e w44 ⟨rfl, hb⟩
                         refine ⟨_, rfl, ?_⟩
                         have n0_ := Aside0.mk (blk_below (g := gb123) (o := .cells #[.int .i64 ((rd_T39 l0 x32_3).f0), .slice (some ad124) ((rd_T39 l0 x32_3).f1).length c122_1] 39 (0, 0)) (by (with_reducible repeat (first | refine blk_drewN ?_ _ | refine blk_drew ?_ | refine blk_alloc ?_ _)); exact BK123.out) hb)
                         have n1_ := Aside0.mk (blk_below (g := gb125) (o := .cells #[.int .i64 ((rd_T33 ((rd_T39 l0 x32_3).f1) x50_5).f0), .int .i64 ((rd_T33 ((rd_T39 l0 x32_3).f1) x50_5).f1)] 33 (0, 0)) (by (with_reducible repeat (first | refine blk_drewN ?_ _ | refine blk_drew ?_ | refine blk_alloc ?_ _)); exact BK125.out) hb)
                         have n2_ := Aside0.mk (below_step (by repeat (first | (with_reducible first | exact HB.out | apply below_alloc | apply pw_below_drewN | apply below_drew1 | refine below_set ?_ GE123.out | refine below_set ?_ GE125.out) | exact HB.out)) hb)
                         clear BK123
                         clear BK125
                         clear HB
                         have BK123 := n0_
                         have BK125 := n1_
                         have HB := n2_
                         clear n0_ n1_ n2_
                         (try clear hb)
                         (try clear hb2)
                         (try clear hk)
                         (try clear hi)
                         refine hK.out _ _ ⟨(blk_cell BK125.out 0).trans rfl, (blk_cell BK125.out 1).trans rfl, (blk_cell BK123.out 0).trans rfl, (blk_cell BK123.out 1).trans rfl, ((HB.out.cell (World.block_lt_of_cell? w _ hw127_0)).trans hw127_0), ((HB.out.cell (World.block_lt_of_cell? w _ hw127_1)).trans hw127_1)⟩ (fun hHeld => ?_)
                         clear hK K
                         refine norm_ (a' := ?_) ?_ ?_
                         rotate_left
                         ·show Act.put _ (some 56) _ = _
                          simp only [Act.put, List.setIfInBounds_toArray, List.set_cons_zero, List.set_cons_succ, i64_w, i32_w]
                          rfl
                         refine pure_ (i := 2) (N := some 57) (v := ?_) (a' := ?_) #[true,true,true,false,false,false,false,false,false,false,false,false,false,false,false,false,false,false] rfl rfl (any_of HT_.out (by kernel_rfl)) (fun _ _ _ h => h) (Or.inl ⟨by rfl, ?_⟩) ?_ ?_
                         rotate_left
                         ·intro w'
                          go_simp
                          with_reducible rfl
                         rotate_left
                         ·simp only [Act.put, List.setIfInBounds_toArray, List.set_cons_zero, List.set_cons_succ, i64_w, i32_w]
                          rfl
                         refine pure_ (i := 3) (N := some 58) (v := ?_) (a' := ?_) #[true,true,true,true,false,false,false,false,false,false,false,false,false,false,false,false,false,false] rfl rfl (any_of HT_.out (by kernel_rfl)) (fun _ _ _ h => h) (Or.inl ⟨by rfl, ?_⟩) ?_ ?_
                         rotate_left
                         ·intro w'
                          go_simp
                          with_reducible rfl
                         rotate_left
                         ·simp only [Act.put, List.setIfInBounds_toArray, List.set_cons_zero, List.set_cons_succ, i64_w, i32_w]
                          rfl
                         refine pure_ (i := 4) (N := some 59) (v := ?_) (a' := ?_) #[true,true,true,true,true,false,false,false,false,false,false,false,false,false,false,false,false,false] rfl rfl (any_of HT_.out (by kernel_rfl)) (fun _ _ _ h => h) (Or.inl ⟨by rfl, ?_⟩) ?_ ?_
                         rotate_left
                         ·intro w'
                          go_simp
                          with_reducible rfl
                         rotate_left
                         ·simp only [Act.put, List.setIfInBounds_toArray, List.set_cons_zero, List.set_cons_succ, i64_w, i32_w]
                          rfl
                         refine pure_ (i := 5) (N := some 60) (v := ?_) (a' := ?_) #[true,true,true,true,true,true,false,false,false,false,false,false,false,false,false,false,false,false] rfl rfl (any_of HT_.out (by kernel_rfl)) (fun _ _ _ h => h) (Or.inl ⟨by rfl, ?_⟩) ?_ ?_
                         rotate_left
                         ·intro w'
                          go_simp
                          with_reducible rfl
                         rotate_left
                         ·simp only [Act.put, List.setIfInBounds_toArray, List.set_cons_zero, List.set_cons_succ, i64_w, i32_w]
                          rfl
                         refine pure_ (i := 6) (N := some 61) (v := ?_) (a' := ?_) #[true,true,true,true,true,true,true,false,false,false,false,false,false,false,false,false,false,false] rfl rfl (any_of HT_.out (by kernel_rfl)) (fun _ _ _ h => h) (Or.inl ⟨by rfl, ?_⟩) ?_ ?_
                         rotate_left
                         ·intro w'
                          go_simp
                          with_reducible rfl
                         rotate_left
                         ·simp only [Act.put, List.setIfInBounds_toArray, List.set_cons_zero, List.set_cons_succ, i64_w, i32_w]
                          rfl
                         refine pure_ (i := 7) (N := some 62) (v := ?_) (a' := ?_) #[true,true,true,true,true,true,true,true,false,false,false,false,false,false,false,false,false,false] rfl rfl (any_of HT_.out (by kernel_rfl)) (fun _ _ _ h => h) (Or.inl ⟨by rfl, ?_⟩) ?_ ?_
                         rotate_left
                         ·intro w'
                          go_simp
                          with_reducible rfl
                         rotate_left
                         ·simp only [Act.put, List.setIfInBounds_toArray, List.set_cons_zero, List.set_cons_succ, i64_w, i32_w]
                          rfl
                         refine pure_ (i := 9) (N := some 64) (v := ?_) (a' := ?_) #[true,true,true,true,true,true,true,true,false,true,false,false,false,false,false,false,false,false] rfl rfl (any_of HT_.out (by kernel_rfl)) (fun _ _ _ h => h) (Or.inl ⟨by rfl, ?_⟩) ?_ ?_
                         rotate_left
                         ·intro w'
                          go_simp
                          with_reducible rfl
                         rotate_left
                         ·simp only [Act.put, List.setIfInBounds_toArray, List.set_cons_zero, List.set_cons_succ, i64_w, i32_w]
                          rfl
                         refine pure_ (i := 10) (N := some 65) (v := ?_) (a' := ?_) #[true,true,true,true,true,true,true,true,false,true,true,false,false,false,false,false,false,false] rfl rfl (any_of HT_.out (by kernel_rfl)) (fun _ _ _ h => h) (Or.inl ⟨by rfl, ?_⟩) ?_ ?_
                         rotate_left
                         ·intro w'
                          go_simp
                          with_reducible rfl
                         rotate_left
                         ·simp only [Act.put, List.setIfInBounds_toArray, List.set_cons_zero, List.set_cons_succ, i64_w, i32_w]
                          rfl
                         refine take_ (i := 8) (N := some 63) (v := ?_) (a' := ?_) #[true,true,true,true,true,true,true,true,true,true,true,false,false,false,false,false,false,false] rfl rfl (take_ofW HT_.out HW_.out (by kernel_rfl)) (fun _ _ _ h => h) (Or.inl ⟨by rfl, ?_⟩) hHeld ?_ ?_
                         rotate_left
                         ·rintro w' ⟨s0, s1, s2, s3, s4, s5⟩
                          go_simp
                          with_reducible rfl
                         rotate_left
                         ·simp only [Act.put, List.setIfInBounds_toArray, List.set_cons_zero, List.set_cons_succ, i64_w, i32_w]
                          rfl
                         refine pure_ (i := 11) (N := some 66) (v := ?_) (a' := ?_) #[true,true,true,true,true,true,true,true,true,true,true,true,false,false,false,false,false,false] rfl rfl (any_of HT_.out (by kernel_rfl)) (fun _ _ _ h => h) (Or.inl ⟨by rfl, ?_⟩) ?_ ?_
                         rotate_left
                         ·intro w'
                          go_simp
                          with_reducible rfl
                         rotate_left
                         ·simp only [Act.put, List.setIfInBounds_toArray, List.set_cons_zero, List.set_cons_succ, i64_w, i32_w]
                          rfl
                         refine take_ (i := 12) (N := some 67) (v := ?_) (a' := ?_) #[true,true,true,true,true,true,true,true,true,true,true,true,true,false,false,false,false,false] rfl rfl (take_ofW HT_.out HW_.out (by kernel_rfl)) (fun _ _ _ h => h) (Or.inl ⟨by rfl, ?_⟩) hHeld ?_ ?_
                         rotate_left
                         ·rintro w' ⟨s0, s1, s2, s3, s4, s5⟩
                          go_simp
                          with_reducible rfl
                         rotate_left
                         ·simp only [Act.put, List.setIfInBounds_toArray, List.set_cons_zero, List.set_cons_succ, i64_w, i32_w]
                          rfl
                         refine take_ (i := 13) (N := some 68) (v := ?_) (a' := ?_) #[true,true,true,true,true,true,true,true,true,true,true,true,true,true,false,false,false,false] rfl rfl (take_ofW HT_.out HW_.out (by kernel_rfl)) (fun _ _ _ h => h) (Or.inl ⟨by rfl, ?_⟩) hHeld ?_ ?_
                         rotate_left
                         ·rintro w' ⟨s0, s1, s2, s3, s4, s5⟩
                          go_simp
                          with_reducible rfl
                         rotate_left
                         ·simp only [Act.put, List.setIfInBounds_toArray, List.set_cons_zero, List.set_cons_succ, i64_w, i32_w]
                          rfl
                         refine one_ (i := 14) (N := some 69) #[true,true,true,true,true,true,true,true,true,true,true,true,true,true,true,false,false,false] rfl rfl (one_of HT_.out (by kernel_rfl)) (by decide) (fun K hK => ?_)
                         refine goes_ Try.func24 (by kernel_rfl) rfl #[.agg #[.int .i64 ((rd_T33 ((rd_T39 l0 x32_3).f1) (ji27)).f0), .int .i64 ((rd_T33 ((rd_T39 l0 x32_3).f1) (ji27)).f1)], .agg #[.int .i64 ((rd_T33 ((rd_T39 l0 x32_3).f1) x50_5).f0), .int .i64 ((rd_T33 ((rd_T39 l0 x32_3).f1) x50_5).f1)]] (by rfl) rfl rfl (by (try simp only [List.map_toArray, List.map_cons, List.map_nil]); first | done | (simp only [hji27]; rfl) | rfl | (simp only [List.length_drop, List.length_take]; rfl)) ?_
                         with_reducible refine (stamp_Compare.calls k5 ((rd_T33 ((rd_T39 l0 x32_3).f1) (ji27)).f0) ((rd_T33 ((rd_T39 l0 x32_3).f1) (ji27)).f1) ((rd_T33 ((rd_T39 l0 x32_3).f1) x50_5).f0) ((rd_T33 ((rd_T39 l0 x32_3).f1) x50_5).f1) t128 _ A30.out).mono ?_
                         rintro e w45 ⟨rfl, hb⟩
                         refine ⟨_, rfl, ?_⟩
                         have n0_ := Aside0.mk (blk_below (g := gb123) (o := .cells #[.int .i64 ((rd_T39 l0 x32_3).f0), .slice (some ad124) ((rd_T39 l0 x32_3).f1).length c122_1] 39 (0, 0)) (by (with_reducible repeat (first | refine blk_drewN ?_ _ | refine blk_drew ?_ | refine blk_alloc ?_ _)); exact BK123.out) hb)
                         have n1_ := Aside0.mk (blk_below (g := gb125) (o := .cells #[.int .i64 ((rd_T33 ((rd_T39 l0 x32_3).f1) x50_5).f0), .int .i64 ((rd_T33 ((rd_T39 l0 x32_3).f1) x50_5).f1)] 33 (0, 0)) (by (with_reducible repeat (first | refine blk_drewN ?_ _ | refine blk_drew ?_ | refine blk_alloc ?_ _)); exact BK125.out) hb)
                         have n2_ := Aside0.mk (below_step (by repeat (first | (with_reducible first | exact HB.out | apply below_alloc | apply pw_below_drewN | apply below_drew1 | refine below_set ?_ GE123.out | refine below_set ?_ GE125.out) | exact HB.out)) hb)
                         clear BK123
                         clear BK125
                         clear HB
                         have BK123 := n0_
                         have BK125 := n1_
                         have HB := n2_
                         clear n0_ n1_ n2_
                         (try clear hb)
                         (try clear hb2)
                         (try clear hk)
                         (try clear hi)
                         refine hK.out _ _ ⟨(blk_cell BK125.out 0).trans rfl, (blk_cell BK125.out 1).trans rfl, (blk_cell BK123.out 0).trans rfl, (blk_cell BK123.out 1).trans rfl, ((HB.out.cell (World.block_lt_of_cell? w _ hw127_0)).trans hw127_0), ((HB.out.cell (World.block_lt_of_cell? w _ hw127_1)).trans hw127_1)⟩ (fun hHeld => ?_)
                         clear hK K
                         refine norm_ (a' := ?_) ?_ ?_
                         rotate_left
                         ·show Act.put _ (some 69) _ = _
                          simp only [Act.put, List.setIfInBounds_toArray, List.set_cons_zero, List.set_cons_succ, i64_w, i32_w]
                          rfl
                         refine pure_ (i := 15) (N := some 70) (v := ?_) (a' := ?_) #[true,true,true,true,true,true,true,true,true,true,true,true,true,true,true,true,false,false] rfl rfl (any_of HT_.out (by kernel_rfl)) (fun _ _ _ h => h) (Or.inl ⟨by rfl, ?_⟩) ?_ ?_
                         rotate_left
                         ·intro w'
                          go_simp
                          with_reducible rfl
                         rotate_left
                         ·simp only [Act.put, List.setIfInBounds_toArray, List.set_cons_zero, List.set_cons_succ, i64_w, i32_w]
                          rfl
                         refine pure_ (i := 16) (N := some 71) (v := ?_) (a' := ?_) #[true,true,true,true,true,true,true,true,true,true,true,true,true,true,true,true,true,false] rfl rfl (any_of HT_.out (by kernel_rfl)) (fun _ _ _ h => h) (Or.inl ⟨by rfl, ?_⟩) ?_ ?_
                         rotate_left
                         ·intro w'
                          go_simp
                          with_reducible rfl
                         rotate_left
                         ·simp only [Act.put, List.setIfInBounds_toArray, List.set_cons_zero, List.set_cons_succ, i64_w, i32_w]
                          rfl
                         refine pure_ (i := 17) (N := some 72) (v := ?_) (a' := ?_) #[true,true,true,true,true,true,true,true,true,true,true,true,true,true,true,true,true,true] rfl rfl (any_of HT_.out (by kernel_rfl)) (fun _ _ _ h => h) (Or.inl ⟨by rfl, ?_⟩) ?_ ?_
                         rotate_left
                         ·intro w'
                          go_simp
                          with_reducible rfl
                         rotate_left
                         ·simp only [Act.put, List.setIfInBounds_toArray, List.set_cons_zero, List.set_cons_succ, i64_w, i32_w]
                          rfl
                         refine done_ (done_of HT_.out (by kernel_rfl)) ?_
                         try go_wp2
                         go_roundg k5
                         case measure => have := HK1.out; have := HJ6.out; have := HK3.out; have := HJ12.out; have := HK5.out; omega
                         case rel => exact ⟨(wrap64 (x50_5 + 1)), (by first | rfl | (simp; done) | (simp [*]; done)), H', ⟨by have := HK1.out; have := HJ6.out; have := HK3.out; have := HJ12.out; have := HK5.out; omega⟩, ⟨by (with_reducible repeat (first | refine blk_drewN ?_ _ | refine blk_drew ?_ | refine blk_alloc ?_ _)); exact BK123.out⟩, ⟨by repeat (first | (with_reducible first | exact HB.out | apply below_alloc | apply pw_below_drewN | apply below_drew1 | refine below_set ?_ GE123.out | refine below_set ?_ GE125.out) | exact HB.out)⟩⟩
                       ·rw [if_neg c29] at H
                        exact absurd H (by simp)
                      ·rw [if_neg c28] at H
                       exact absurd H (by simp)
                     ·rw [if_neg c26] at H
                      have c26b0 : decide (0 < x50_5) = false := decide_eq_false c26
                      clear c26
                      have H' := Aside0.mk H
                      clear H
                      have p124 : 0 ≤ (x50_5 : Int) := of_decide_eq_true (by first | (with_reducible assumption) | assumption)
                      have q124 : x50_5 < (((rd_T39 l0 x32_3).f1).length : Int) := of_decide_eq_true (by first | (with_reducible assumption) | assumption)
                      obtain ⟨ad124, e124, hx124_0, hx124_1⟩ := at_T33 HR122_1.out x50_5 p124 q124
                      cases e124
                      replace hx124_0 := (HB.out.cell (World.block_lt_of_cell? w _ hx124_0)).trans hx124_0
                      replace hx124_1 := (HB.out.cell (World.block_lt_of_cell? w _ hx124_1)).trans hx124_1
                      replace p124 := eq_true p124
                      replace q124 := eq_true q124
                      try go_wp2_with (first | ((with_reducible refine gate_dst (N := 10) rfl ?_); refine box_event ?hg (N := 10) ?hd (cs := #[.int .i64 0, .int .i64 0]) (t := 33) ?hr ?_; (case hd => rfl); (case hg => rfl); (case hr => first | (go_simp; done) | (go_simp; rfl)); intro gb125 hg w46 hbox hb; have n0_ := Aside0.mk (blk_below (g := gb123) (o := .cells #[.int .i64 ((rd_T39 l0 x32_3).f0), .slice (some ad124) ((rd_T39 l0 x32_3).f1).length c122_1] 39 (0, 0)) (by (with_reducible repeat (first | refine blk_drewN ?_ _ | refine blk_drew ?_ | refine blk_alloc ?_ _)); exact BK123.out) hb); have n1_ := Aside0.mk (below_step (by repeat (first | (with_reducible first | exact HB.out | apply below_alloc | apply pw_below_drewN | apply below_drew1 | refine below_set ?_ GE123.out) | exact HB.out)) hb); have n2_ := Aside0.mk (hbox); have n3_ := Aside0.mk ((by rw [hg]; exact (below_size (by repeat (first | (with_reducible first | exact HB.out | apply below_alloc | apply pw_below_drewN | apply below_drew1 | refine below_set ?_ GE123.out) | exact HB.out))) : w.heap.size ≤ gb125)); have n4_ := Aside0.mk ((by rw [hg]; exact (below_size (by repeat (first | (with_reducible first | exact HB.out | apply below_alloc | apply pw_below_drewN | apply below_drew1 | refine below_set ?_ GE123.out) | exact HB.out))) : w.heap.size ≤ gb125)); have n5_ := Aside0.mk ((by rw [hg]; exact Nat.ne_of_lt (blk_lt (g := gb123) (o := .cells #[.int .i64 ((rd_T39 l0 x32_3).f0), .slice (some ad124) ((rd_T39 l0 x32_3).f1).length c122_1] 39 (0, 0)) (by (with_reducible repeat (first | refine blk_drewN ?_ _ | refine blk_drew ?_ | refine blk_alloc ?_ _)); exact BK123.out)) : gb123 ≠ gb125)); have n6_ := Aside0.mk ((by rw [hg]; exact Nat.ne_of_gt (blk_lt (g := gb123) (o := .cells #[.int .i64 ((rd_T39 l0 x32_3).f0), .slice (some ad124) ((rd_T39 l0 x32_3).f1).length c122_1] 39 (0, 0)) (by (with_reducible repeat (first | refine blk_drewN ?_ _ | refine blk_drew ?_ | refine blk_alloc ?_ _)); exact BK123.out)) : gb125 ≠ gb123)); clear BK123; clear HB; have BK123 := n0_; have HB := n1_; have BK125 := n2_; have GW125 := n3_; have GE125 := n4_; have NB123_125 := n5_; have NB125_123 := n6_; clear n0_ n1_ n2_ n3_ n4_ n5_ n6_; clear hb hbox hg; have hnb47 := NB125_123.out; have hnc47 := NB123_125.out; have hcz48_0 : w46.cell? ⟨gb125, 0, none⟩ = some (.int .i64 0) := (blk_cell BK125.out 0).trans rfl; have hcz48_1 : w46.cell? ⟨gb125, 1, none⟩ = some (.int .i64 0) := (blk_cell BK125.out 1).trans rfl; have hfz48_0 := blk_frozen BK125.out 0; have hfz48_1 := blk_frozen BK125.out 1))
                      have n0_ : Aside0 (((w46.setCell ⟨gb125, 0, none⟩ (.int .i64 ((rd_T33 ((rd_T39 l0 x32_3).f1) x50_5).f0))).setCell ⟨gb125, 1, none⟩ (.int .i64 ((rd_T33 ((rd_T39 l0 x32_3).f1) x50_5).f1))).heap[gb123]? = some (.cells #[.int .i64 ((rd_T39 l0 x32_3).f0), .slice (some ad124) ((rd_T39 l0 x32_3).f1).length c122_1] 39 (0, 0))) := ⟨by (with_reducible repeat (first | refine blk_drewN ?_ _ | refine blk_drew ?_ | refine blk_alloc ?_ _)); refine blk_far ?_ NB123_125.out _; (with_reducible repeat (first | refine blk_drewN ?_ _ | refine blk_drew ?_ | refine blk_alloc ?_ _)); refine blk_far ?_ NB123_125.out _; (with_reducible repeat (first | refine blk_drewN ?_ _ | refine blk_drew ?_ | refine blk_alloc ?_ _)); exact BK123.out⟩
                      have n1_ : Aside0 (((w46.setCell ⟨gb125, 0, none⟩ (.int .i64 ((rd_T33 ((rd_T39 l0 x32_3).f1) x50_5).f0))).setCell ⟨gb125, 1, none⟩ (.int .i64 ((rd_T33 ((rd_T39 l0 x32_3).f1) x50_5).f1))).heap[gb125]? = some (.cells #[.int .i64 ((rd_T33 ((rd_T39 l0 x32_3).f1) x50_5).f0), .int .i64 ((rd_T33 ((rd_T39 l0 x32_3).f1) x50_5).f1)] 33 (0, 0))) := ⟨by (with_reducible repeat (first | refine blk_drewN ?_ _ | refine blk_drew ?_ | refine blk_alloc ?_ _)); refine blk_put (cs := #[.int .i64 ((rd_T33 ((rd_T39 l0 x32_3).f1) x50_5).f0), .int .i64 0]) ?_ 1 _ rfl; (with_reducible repeat (first | refine blk_drewN ?_ _ | refine blk_drew ?_ | refine blk_alloc ?_ _)); refine blk_put (cs := #[.int .i64 0, .int .i64 0]) ?_ 0 _ rfl; (with_reducible repeat (first | refine blk_drewN ?_ _ | refine blk_drew ?_ | refine blk_alloc ?_ _)); exact BK125.out⟩
                      have n2_ : Aside0 (Below w.heap.size w ((w46.setCell ⟨gb125, 0, none⟩ (.int .i64 ((rd_T33 ((rd_T39 l0 x32_3).f1) x50_5).f0))).setCell ⟨gb125, 1, none⟩ (.int .i64 ((rd_T33 ((rd_T39 l0 x32_3).f1) x50_5).f1)))) := ⟨by repeat (first | (with_reducible first | exact HB.out | apply below_alloc | apply pw_below_drewN | apply below_drew1 | refine below_set ?_ GE123.out | refine below_set ?_ GE125.out) | exact HB.out)⟩
                      (try clear BK123)
                      (try clear BK125)
                      (try clear HB)
                      generalize ((w46.setCell ⟨gb125, 0, none⟩ (.int .i64 ((rd_T33 ((rd_T39 l0 x32_3).f1) x50_5).f0))).setCell ⟨gb125, 1, none⟩ (.int .i64 ((rd_T33 ((rd_T39 l0 x32_3).f1) x50_5).f1))) = w49 at n0_ n1_ n2_ ⊢
                      have BK123 := n0_
                      have BK125 := n1_
                      have HB := n2_
                      clear n0_ n1_ n2_
                      have n0_ := Aside0.mk (blk_drew BK123.out)
                      have n1_ := Aside0.mk (blk_drew BK125.out)
                      have n2_ := Aside0.mk (below_drew1 HB.out)
                      clear BK123
                      clear BK125
                      clear HB
                      have BK123 := n0_
                      have BK125 := n1_
                      have HB := n2_
                      clear n0_ n1_ n2_
                      refine start_ (n := 18) (S := fun w' => w'.cell? ⟨gb125, 0, none⟩ = some (.int .i64 ((rd_T33 ((rd_T39 l0 x32_3).f1) x50_5).f0)) ∧ w'.cell? ⟨gb125, 1, none⟩ = some (.int .i64 ((rd_T33 ((rd_T39 l0 x32_3).f1) x50_5).f1))) (ds := []) #[false,false,false,false,false,false,false,false,false,false,false,false,false,false,false,false,false,false] (by kernel_rfl) rfl rfl ⟨(blk_cell BK125.out 0).trans rfl, (blk_cell BK125.out 1).trans rfl⟩ (fun hHeld => ?_); refine with_tabW deps_Check.tab19 deps_Check.bits19 (fun HT_ HW_ => ?_)
                      generalize w49.drew = w50 at BK123 BK125 HB hHeld ⊢
                      refine take_ (i := 0) (N := some 55) (v := ?_) (a' := ?_) #[true,false,false,false,false,false,false,false,false,false,false,false,false,false,false,false,false,false] rfl rfl (take_ofW HT_.out HW_.out (by kernel_rfl)) (fun _ _ _ h => h) (Or.inl ⟨by rfl, ?_⟩) hHeld ?_ ?_
                      rotate_left
                      ·rintro w' ⟨s0, s1⟩
                       go_simp
                       with_reducible rfl
                      rotate_left
                      ·simp only [Act.put, List.setIfInBounds_toArray, List.set_cons_zero, List.set_cons_succ, i64_w, i32_w]
                       rfl
                      refine one_ (i := 1) (N := some 56) #[true,true,false,false,false,false,false,false,false,false,false,false,false,false,false,false,false,false] rfl rfl (one_of HT_.out (by kernel_rfl)) (by decide) (fun K hK => ?_)
                      refine goes_ Try.func23 (by kernel_rfl) rfl #[.agg #[.int .i64 ((rd_T33 ((rd_T39 l0 x32_3).f1) x50_5).f0), .int .i64 ((rd_T33 ((rd_T39 l0 x32_3).f1) x50_5).f1)]] (by rfl) rfl rfl (by (try simp only [List.map_toArray, List.map_cons, List.map_nil]); first | done | rfl | (simp only [List.length_drop, List.length_take]; rfl)) ?_
                      with_reducible refine (stamp_Check.calls ((rd_T33 ((rd_T39 l0 x32_3).f1) x50_5).f0) ((rd_T33 ((rd_T39 l0 x32_3).f1) x50_5).f1) t126 _ A24.out).mono ?_
                      rintro e w51 ⟨rfl, hb⟩
                      refine ⟨_, rfl, ?_⟩
                      have n0_ := Aside0.mk (blk_below (g := gb123) (o := .cells #[.int .i64 ((rd_T39 l0 x32_3).f0), .slice (some ad124) ((rd_T39 l0 x32_3).f1).length c122_1] 39 (0, 0)) (by (with_reducible repeat (first | refine blk_drewN ?_ _ | refine blk_drew ?_ | refine blk_alloc ?_ _)); exact BK123.out) hb)
                      have n1_ := Aside0.mk (blk_below (g := gb125) (o := .cells #[.int .i64 ((rd_T33 ((rd_T39 l0 x32_3).f1) x50_5).f0), .int .i64 ((rd_T33 ((rd_T39 l0 x32_3).f1) x50_5).f1)] 33 (0, 0)) (by (with_reducible repeat (first | refine blk_drewN ?_ _ | refine blk_drew ?_ | refine blk_alloc ?_ _)); exact BK125.out) hb)
                      have n2_ := Aside0.mk (below_step (by repeat (first | (with_reducible first | exact HB.out | apply below_alloc | apply pw_below_drewN | apply below_drew1 | refine below_set ?_ GE123.out | refine below_set ?_ GE125.out) | exact HB.out)) hb)
                      clear BK123
                      clear BK125
                      clear HB
                      have BK123 := n0_
                      have BK125 := n1_
                      have HB := n2_
                      clear n0_ n1_ n2_
                      (try clear hb)
                      (try clear hb2)
                      (try clear hk)
                      (try clear hi)
                      refine hK.out _ _ ⟨(blk_cell BK125.out 0).trans rfl, (blk_cell BK125.out 1).trans rfl⟩ (fun hHeld => ?_)
                      clear hK K
                      refine norm_ (a' := ?_) ?_ ?_
                      rotate_left
                      ·show Act.put _ (some 56) _ = _
                       simp only [Act.put, List.setIfInBounds_toArray, List.set_cons_zero, List.set_cons_succ, i64_w, i32_w]
                       rfl
                      refine pure_ (i := 2) (N := some 57) (v := ?_) (a' := ?_) #[true,true,true,false,false,false,false,false,false,false,false,false,false,false,false,false,false,false] rfl rfl (any_of HT_.out (by kernel_rfl)) (fun _ _ _ h => h) (Or.inl ⟨by rfl, ?_⟩) ?_ ?_
                      rotate_left
                      ·intro w'
                       go_simp
                       with_reducible rfl
                      rotate_left
                      ·simp only [Act.put, List.setIfInBounds_toArray, List.set_cons_zero, List.set_cons_succ, i64_w, i32_w]
                       rfl
                      refine pure_ (i := 3) (N := some 58) (v := ?_) (a' := ?_) #[true,true,true,true,false,false,false,false,false,false,false,false,false,false,false,false,false,false] rfl rfl (any_of HT_.out (by kernel_rfl)) (fun _ _ _ h => h) (Or.inl ⟨by rfl, ?_⟩) ?_ ?_
                      rotate_left
                      ·intro w'
                       go_simp
                       with_reducible rfl
                      rotate_left
                      ·simp only [Act.put, List.setIfInBounds_toArray, List.set_cons_zero, List.set_cons_succ, i64_w, i32_w]
                       rfl
                      refine pure_ (i := 4) (N := some 59) (v := ?_) (a' := ?_) #[true,true,true,true,true,false,false,false,false,false,false,false,false,false,false,false,false,false] rfl rfl (any_of HT_.out (by kernel_rfl)) (fun _ _ _ h => h) (Or.inl ⟨by rfl, ?_⟩) ?_ ?_
                      rotate_left
                      ·intro w'
                       go_simp
                       with_reducible rfl
                      rotate_left
                      ·simp only [Act.put, List.setIfInBounds_toArray, List.set_cons_zero, List.set_cons_succ, i64_w, i32_w]
                       rfl
                      refine pure_ (i := 5) (N := some 60) (v := ?_) (a' := ?_) #[true,true,true,true,true,true,false,false,false,false,false,false,false,false,false,false,false,false] rfl rfl (any_of HT_.out (by kernel_rfl)) (fun _ _ _ h => h) (Or.inl ⟨by rfl, ?_⟩) ?_ ?_
                      rotate_left
                      ·intro w'
                       go_simp
                       with_reducible rfl
                      rotate_left
                      ·simp only [Act.put, List.setIfInBounds_toArray, List.set_cons_zero, List.set_cons_succ, i64_w, i32_w]
                       rfl
                      refine pure_ (i := 6) (N := some 61) (v := ?_) (a' := ?_) #[true,true,true,true,true,true,true,false,false,false,false,false,false,false,false,false,false,false] rfl rfl (any_of HT_.out (by kernel_rfl)) (fun _ _ _ h => h) (Or.inl ⟨by rfl, ?_⟩) ?_ ?_
                      rotate_left
                      ·intro w'
                       go_simp
                       with_reducible rfl
                      rotate_left
                      ·simp only [Act.put, List.setIfInBounds_toArray, List.set_cons_zero, List.set_cons_succ, i64_w, i32_w]
                       rfl
                      refine pure_ (i := 7) (N := some 62) (v := undef) (a' := ?_) #[true,true,true,true,true,true,true,true,false,false,false,false,false,false,false,false,false,false] rfl rfl (any_of HT_.out (by kernel_rfl)) (fun _ _ _ h => h) (Or.inr ⟨by rfl, rfl⟩) ?_ ?_
                      rotate_left
                      ·simp only [Act.put, List.setIfInBounds_toArray, List.set_cons_zero, List.set_cons_succ, i64_w, i32_w]
                       rfl
                      refine pure_ (i := 8) (N := some 63) (v := undef) (a' := ?_) #[true,true,true,true,true,true,true,true,true,false,false,false,false,false,false,false,false,false] rfl rfl (any_of HT_.out (by kernel_rfl)) (fun _ _ _ h => h) (Or.inr ⟨by rfl, rfl⟩) ?_ ?_
                      rotate_left
                      ·simp only [Act.put, List.setIfInBounds_toArray, List.set_cons_zero, List.set_cons_succ, i64_w, i32_w]
                       rfl
                      refine pure_ (i := 9) (N := some 64) (v := undef) (a' := ?_) #[true,true,true,true,true,true,true,true,true,true,false,false,false,false,false,false,false,false] rfl rfl (any_of HT_.out (by kernel_rfl)) (fun _ _ _ h => h) (Or.inr ⟨by rfl, rfl⟩) ?_ ?_
                      rotate_left
                      ·simp only [Act.put, List.setIfInBounds_toArray, List.set_cons_zero, List.set_cons_succ, i64_w, i32_w]
                       rfl
                      refine pure_ (i := 10) (N := some 65) (v := undef) (a' := ?_) #[true,true,true,true,true,true,true,true,true,true,true,false,false,false,false,false,false,false] rfl rfl (any_of HT_.out (by kernel_rfl)) (fun _ _ _ h => h) (Or.inr ⟨by rfl, rfl⟩) ?_ ?_
                      rotate_left
                      ·simp only [Act.put, List.setIfInBounds_toArray, List.set_cons_zero, List.set_cons_succ, i64_w, i32_w]
                       rfl
                      refine pure_ (i := 11) (N := some 66) (v := undef) (a' := ?_) #[true,true,true,true,true,true,true,true,true,true,true,true,false,false,false,false,false,false] rfl rfl (any_of HT_.out (by kernel_rfl)) (fun _ _ _ h => h) (Or.inr ⟨by rfl, rfl⟩) ?_ ?_
                      rotate_left
                      ·simp only [Act.put, List.setIfInBounds_toArray, List.set_cons_zero, List.set_cons_succ, i64_w, i32_w]
                       rfl
                      refine pure_ (i := 12) (N := some 67) (v := undef) (a' := ?_) #[true,true,true,true,true,true,true,true,true,true,true,true,true,false,false,false,false,false] rfl rfl (any_of HT_.out (by kernel_rfl)) (fun _ _ _ h => h) (Or.inr ⟨by rfl, rfl⟩) ?_ ?_
                      rotate_left
                      ·simp only [Act.put, List.setIfInBounds_toArray, List.set_cons_zero, List.set_cons_succ, i64_w, i32_w]
                       rfl
                      refine pure_ (i := 13) (N := some 68) (v := undef) (a' := ?_) #[true,true,true,true,true,true,true,true,true,true,true,true,true,true,false,false,false,false] rfl rfl (any_of HT_.out (by kernel_rfl)) (fun _ _ _ h => h) (Or.inr ⟨by rfl, rfl⟩) ?_ ?_
                      rotate_left
                      ·simp only [Act.put, List.setIfInBounds_toArray, List.set_cons_zero, List.set_cons_succ, i64_w, i32_w]
                       rfl
                      refine pure_ (i := 14) (N := some 69) (v := undef) (a' := ?_) #[true,true,true,true,true,true,true,true,true,true,true,true,true,true,true,false,false,false] rfl rfl (any_of HT_.out (by kernel_rfl)) (fun _ _ _ h => h) (Or.inr ⟨by rfl, rfl⟩) ?_ ?_
                      rotate_left
                      ·simp only [Act.put, List.setIfInBounds_toArray, List.set_cons_zero, List.set_cons_succ, i64_w, i32_w]
                       rfl
                      refine pure_ (i := 15) (N := some 70) (v := undef) (a' := ?_) #[true,true,true,true,true,true,true,true,true,true,true,true,true,true,true,true,false,false] rfl rfl (any_of HT_.out (by kernel_rfl)) (fun _ _ _ h => h) (Or.inr ⟨by rfl, rfl⟩) ?_ ?_
                      rotate_left
                      ·simp only [Act.put, List.setIfInBounds_toArray, List.set_cons_zero, List.set_cons_succ, i64_w, i32_w]
                       rfl
                      refine pure_ (i := 16) (N := some 71) (v := ?_) (a' := ?_) #[true,true,true,true,true,true,true,true,true,true,true,true,true,true,true,true,true,false] rfl rfl (any_of HT_.out (by kernel_rfl)) (fun _ _ _ h => h) (Or.inl ⟨by rfl, ?_⟩) ?_ ?_
                      rotate_left
                      ·intro w'
                       go_simp
                       with_reducible rfl
                      rotate_left
                      ·simp only [Act.put, List.setIfInBounds_toArray, List.set_cons_zero, List.set_cons_succ, i64_w, i32_w]
                       rfl
                      refine pure_ (i := 17) (N := some 72) (v := ?_) (a' := ?_) #[true,true,true,true,true,true,true,true,true,true,true,true,true,true,true,true,true,true] rfl rfl (any_of HT_.out (by kernel_rfl)) (fun _ _ _ h => h) (Or.inl ⟨by rfl, ?_⟩) ?_ ?_
                      rotate_left
                      ·intro w'
                       go_simp
                       with_reducible rfl
                      rotate_left
                      ·simp only [Act.put, List.setIfInBounds_toArray, List.set_cons_zero, List.set_cons_succ, i64_w, i32_w]
                       rfl
                      refine done_ (done_of HT_.out (by kernel_rfl)) ?_
                      try go_wp2
                      go_roundg k5
                      case measure => have := HK1.out; have := HJ6.out; have := HK3.out; have := HJ12.out; have := HK5.out; omega
                      case rel => exact ⟨(wrap64 (x50_5 + 1)), (by first | rfl | (simp; done) | (simp [*]; done)), H', ⟨by have := HK1.out; have := HJ6.out; have := HK3.out; have := HJ12.out; have := HK5.out; omega⟩, ⟨by (with_reducible repeat (first | refine blk_drewN ?_ _ | refine blk_drew ?_ | refine blk_alloc ?_ _)); exact BK123.out⟩, ⟨by repeat (first | (with_reducible first | exact HB.out | apply below_alloc | apply pw_below_drewN | apply below_drew1 | refine below_set ?_ GE123.out | refine below_set ?_ GE125.out) | exact HB.out)⟩⟩
                    ·rw [if_neg c25] at H
                     have c25b0 : (t126 == 0) = false := beq_eq_false_iff_ne.mpr c25
                     have c25b1 : (t126 != 0) = true := bne_iff_ne.mpr c25
                     obtain rfl := Option.some.inj H
                     have p124 : 0 ≤ (x50_5 : Int) := of_decide_eq_true (by first | (with_reducible assumption) | assumption)
                     have q124 : x50_5 < (((rd_T39 l0 x32_3).f1).length : Int) := of_decide_eq_true (by first | (with_reducible assumption) | assumption)
                     obtain ⟨ad124, e124, hx124_0, hx124_1⟩ := at_T33 HR122_1.out x50_5 p124 q124
                     cases e124
                     replace hx124_0 := (HB.out.cell (World.block_lt_of_cell? w _ hx124_0)).trans hx124_0
                     replace hx124_1 := (HB.out.cell (World.block_lt_of_cell? w _ hx124_1)).trans hx124_1
                     replace p124 := eq_true p124
                     replace q124 := eq_true q124
                     try go_wp2_with (first | ((with_reducible refine gate_dst (N := 10) rfl ?_); refine box_event ?hg (N := 10) ?hd (cs := #[.int .i64 0, .int .i64 0]) (t := 33) ?hr ?_; (case hd => rfl); (case hg => rfl); (case hr => first | (go_simp; done) | (go_simp; rfl)); intro gb125 hg w52 hbox hb; have n0_ := Aside0.mk (blk_below (g := gb123) (o := .cells #[.int .i64 ((rd_T39 l0 x32_3).f0), .slice (some ad124) ((rd_T39 l0 x32_3).f1).length c122_1] 39 (0, 0)) (by (with_reducible repeat (first | refine blk_drewN ?_ _ | refine blk_drew ?_ | refine blk_alloc ?_ _)); exact BK123.out) hb); have n1_ := Aside0.mk (below_step (by repeat (first | (with_reducible first | exact HB.out | apply below_alloc | apply pw_below_drewN | apply below_drew1 | refine below_set ?_ GE123.out) | exact HB.out)) hb); have n2_ := Aside0.mk (hbox); have n3_ := Aside0.mk ((by rw [hg]; exact (below_size (by repeat (first | (with_reducible first | exact HB.out | apply below_alloc | apply pw_below_drewN | apply below_drew1 | refine below_set ?_ GE123.out) | exact HB.out))) : w.heap.size ≤ gb125)); have n4_ := Aside0.mk ((by rw [hg]; exact (below_size (by repeat (first | (with_reducible first | exact HB.out | apply below_alloc | apply pw_below_drewN | apply below_drew1 | refine below_set ?_ GE123.out) | exact HB.out))) : w.heap.size ≤ gb125)); have n5_ := Aside0.mk ((by rw [hg]; exact Nat.ne_of_lt (blk_lt (g := gb123) (o := .cells #[.int .i64 ((rd_T39 l0 x32_3).f0), .slice (some ad124) ((rd_T39 l0 x32_3).f1).length c122_1] 39 (0, 0)) (by (with_reducible repeat (first | refine blk_drewN ?_ _ | refine blk_drew ?_ | refine blk_alloc ?_ _)); exact BK123.out)) : gb123 ≠ gb125)); have n6_ := Aside0.mk ((by rw [hg]; exact Nat.ne_of_gt (blk_lt (g := gb123) (o := .cells #[.int .i64 ((rd_T39 l0 x32_3).f0), .slice (some ad124) ((rd_T39 l0 x32_3).f1).length c122_1] 39 (0, 0)) (by (with_reducible repeat (first | refine blk_drewN ?_ _ | refine blk_drew ?_ | refine blk_alloc ?_ _)); exact BK123.out)) : gb125 ≠ gb123)); clear BK123; clear HB; have BK123 := n0_; have HB := n1_; have BK125 := n2_; have GW125 := n3_; have GE125 := n4_; have NB123_125 := n5_; have NB125_123 := n6_; clear n0_ n1_ n2_ n3_ n4_ n5_ n6_; clear hb hbox hg; have hnb53 := NB125_123.out; have hnc53 := NB123_125.out; have hcz54_0 : w52.cell? ⟨gb125, 0, none⟩ = some (.int .i64 0) := (blk_cell BK125.out 0).trans rfl; have hcz54_1 : w52.cell? ⟨gb125, 1, none⟩ = some (.int .i64 0) := (blk_cell BK125.out 1).trans rfl; have hfz54_0 := blk_frozen BK125.out 0; have hfz54_1 := blk_frozen BK125.out 1))
                     have n0_ : Aside0 (((w52.setCell ⟨gb125, 0, none⟩ (.int .i64 ((rd_T33 ((rd_T39 l0 x32_3).f1) x50_5).f0))).setCell ⟨gb125, 1, none⟩ (.int .i64 ((rd_T33 ((rd_T39 l0 x32_3).f1) x50_5).f1))).heap[gb123]? = some (.cells #[.int .i64 ((rd_T39 l0 x32_3).f0), .slice (some ad124) ((rd_T39 l0 x32_3).f1).length c122_1] 39 (0, 0))) := ⟨by (with_reducible repeat (first | refine blk_drewN ?_ _ | refine blk_drew ?_ | refine blk_alloc ?_ _)); refine blk_far ?_ NB123_125.out _; (with_reducible repeat (first | refine blk_drewN ?_ _ | refine blk_drew ?_ | refine blk_alloc ?_ _)); refine blk_far ?_ NB123_125.out _; (with_reducible repeat (first | refine blk_drewN ?_ _ | refine blk_drew ?_ | refine blk_alloc ?_ _)); exact BK123.out⟩
                     have n1_ : Aside0 (((w52.setCell ⟨gb125, 0, none⟩ (.int .i64 ((rd_T33 ((rd_T39 l0 x32_3).f1) x50_5).f0))).setCell ⟨gb125, 1, none⟩ (.int .i64 ((rd_T33 ((rd_T39 l0 x32_3).f1) x50_5).f1))).heap[gb125]? = some (.cells #[.int .i64 ((rd_T33 ((rd_T39 l0 x32_3).f1) x50_5).f0), .int .i64 ((rd_T33 ((rd_T39 l0 x32_3).f1) x50_5).f1)] 33 (0, 0))) := ⟨by (with_reducible repeat (first | refine blk_drewN ?_ _ | refine blk_drew ?_ | refine blk_alloc ?_ _)); refine blk_put (cs := #[.int .i64 ((rd_T33 ((rd_T39 l0 x32_3).f1) x50_5).f0), .int .i64 0]) ?_ 1 _ rfl; (with_reducible repeat (first | refine blk_drewN ?_ _ | refine blk_drew ?_ | refine blk_alloc ?_ _)); refine blk_put (cs := #[.int .i64 0, .int .i64 0]) ?_ 0 _ rfl; (with_reducible repeat (first | refine blk_drewN ?_ _ | refine blk_drew ?_ | refine blk_alloc ?_ _)); exact BK125.out⟩
                     have n2_ : Aside0 (Below w.heap.size w ((w52.setCell ⟨gb125, 0, none⟩ (.int .i64 ((rd_T33 ((rd_T39 l0 x32_3).f1) x50_5).f0))).setCell ⟨gb125, 1, none⟩ (.int .i64 ((rd_T33 ((rd_T39 l0 x32_3).f1) x50_5).f1)))) := ⟨by repeat (first | (with_reducible first | exact HB.out | apply below_alloc | apply pw_below_drewN | apply below_drew1 | refine below_set ?_ GE123.out | refine below_set ?_ GE125.out) | exact HB.out)⟩
                     (try clear BK123)
                     (try clear BK125)
                     (try clear HB)
                     generalize ((w52.setCell ⟨gb125, 0, none⟩ (.int .i64 ((rd_T33 ((rd_T39 l0 x32_3).f1) x50_5).f0))).setCell ⟨gb125, 1, none⟩ (.int .i64 ((rd_T33 ((rd_T39 l0 x32_3).f1) x50_5).f1))) = w55 at n0_ n1_ n2_ ⊢
                     have BK123 := n0_
                     have BK125 := n1_
                     have HB := n2_
                     clear n0_ n1_ n2_
                     have n0_ := Aside0.mk (blk_drew BK123.out)
                     have n1_ := Aside0.mk (blk_drew BK125.out)
                     have n2_ := Aside0.mk (below_drew1 HB.out)
                     clear BK123
                     clear BK125
                     clear HB
                     have BK123 := n0_
                     have BK125 := n1_
                     have HB := n2_
                     clear n0_ n1_ n2_
                     refine start_ (n := 18) (S := fun w' => w'.cell? ⟨gb125, 0, none⟩ = some (.int .i64 ((rd_T33 ((rd_T39 l0 x32_3).f1) x50_5).f0)) ∧ w'.cell? ⟨gb125, 1, none⟩ = some (.int .i64 ((rd_T33 ((rd_T39 l0 x32_3).f1) x50_5).f1))) (ds := []) #[false,false,false,false,false,false,false,false,false,false,false,false,false,false,false,false,false,false] (by kernel_rfl) rfl rfl ⟨(blk_cell BK125.out 0).trans rfl, (blk_cell BK125.out 1).trans rfl⟩ (fun hHeld => ?_); refine with_tabW deps_Check.tab19 deps_Check.bits19 (fun HT_ HW_ => ?_)
                     generalize w55.drew = w56 at BK123 BK125 HB hHeld ⊢
                     refine take_ (i := 0) (N := some 55) (v := ?_) (a' := ?_) #[true,false,false,false,false,false,false,false,false,false,false,false,false,false,false,false,false,false] rfl rfl (take_ofW HT_.out HW_.out (by kernel_rfl)) (fun _ _ _ h => h) (Or.inl ⟨by rfl, ?_⟩) hHeld ?_ ?_
                     rotate_left
                     ·rintro w' ⟨s0, s1⟩
                      go_simp
                      with_reducible rfl
                     rotate_left
                     ·simp only [Act.put, List.setIfInBounds_toArray, List.set_cons_zero, List.set_cons_succ, i64_w, i32_w]
                      rfl
                     refine one_ (i := 1) (N := some 56) #[true,true,false,false,false,false,false,false,false,false,false,false,false,false,false,false,false,false] rfl rfl (one_of HT_.out (by kernel_rfl)) (by decide) (fun K hK => ?_)
                     refine goes_ Try.func23 (by kernel_rfl) rfl #[.agg #[.int .i64 ((rd_T33 ((rd_T39 l0 x32_3).f1) x50_5).f0), .int .i64 ((rd_T33 ((rd_T39 l0 x32_3).f1) x50_5).f1)]] (by rfl) rfl rfl (by (try simp only [List.map_toArray, List.map_cons, List.map_nil]); first | done | rfl | (simp only [List.length_drop, List.length_take]; rfl)) ?_
                     with_reducible refine (stamp_Check.calls ((rd_T33 ((rd_T39 l0 x32_3).f1) x50_5).f0) ((rd_T33 ((rd_T39 l0 x32_3).f1) x50_5).f1) t126 _ A24.out).mono ?_
                     rintro e w57 ⟨rfl, hb⟩
                     refine ⟨_, rfl, ?_⟩
                     have n0_ := Aside0.mk (blk_below (g := gb123) (o := .cells #[.int .i64 ((rd_T39 l0 x32_3).f0), .slice (some ad124) ((rd_T39 l0 x32_3).f1).length c122_1] 39 (0, 0)) (by (with_reducible repeat (first | refine blk_drewN ?_ _ | refine blk_drew ?_ | refine blk_alloc ?_ _)); exact BK123.out) hb)
                     have n1_ := Aside0.mk (blk_below (g := gb125) (o := .cells #[.int .i64 ((rd_T33 ((rd_T39 l0 x32_3).f1) x50_5).f0), .int .i64 ((rd_T33 ((rd_T39 l0 x32_3).f1) x50_5).f1)] 33 (0, 0)) (by (with_reducible repeat (first | refine blk_drewN ?_ _ | refine blk_drew ?_ | refine blk_alloc ?_ _)); exact BK125.out) hb)
                     have n2_ := Aside0.mk (below_step (by repeat (first | (with_reducible first | exact HB.out | apply below_alloc | apply pw_below_drewN | apply below_drew1 | refine below_set ?_ GE123.out | refine below_set ?_ GE125.out) | exact HB.out)) hb)
                     clear BK123
                     clear BK125
                     clear HB
                     have BK123 := n0_
                     have BK125 := n1_
                     have HB := n2_
                     clear n0_ n1_ n2_
                     (try clear hb)
                     (try clear hb2)
                     (try clear hk)
                     (try clear hi)
                     refine hK.out _ _ ⟨(blk_cell BK125.out 0).trans rfl, (blk_cell BK125.out 1).trans rfl⟩ (fun hHeld => ?_)
                     clear hK K
                     refine norm_ (a' := ?_) ?_ ?_
                     rotate_left
                     ·show Act.put _ (some 56) _ = _
                      simp only [Act.put, List.setIfInBounds_toArray, List.set_cons_zero, List.set_cons_succ, i64_w, i32_w]
                      rfl
                     refine pure_ (i := 2) (N := some 57) (v := ?_) (a' := ?_) #[true,true,true,false,false,false,false,false,false,false,false,false,false,false,false,false,false,false] rfl rfl (any_of HT_.out (by kernel_rfl)) (fun _ _ _ h => h) (Or.inl ⟨by rfl, ?_⟩) ?_ ?_
                     rotate_left
                     ·intro w'
                      go_simp
                      with_reducible rfl
                     rotate_left
                     ·simp only [Act.put, List.setIfInBounds_toArray, List.set_cons_zero, List.set_cons_succ, i64_w, i32_w]
                      rfl
                     refine pure_ (i := 3) (N := some 58) (v := ?_) (a' := ?_) #[true,true,true,true,false,false,false,false,false,false,false,false,false,false,false,false,false,false] rfl rfl (any_of HT_.out (by kernel_rfl)) (fun _ _ _ h => h) (Or.inl ⟨by rfl, ?_⟩) ?_ ?_
                     rotate_left
                     ·intro w'
                      go_simp
                      with_reducible rfl
                     rotate_left
                     ·simp only [Act.put, List.setIfInBounds_toArray, List.set_cons_zero, List.set_cons_succ, i64_w, i32_w]
                      rfl
                     refine pure_ (i := 4) (N := some 59) (v := undef) (a' := ?_) #[true,true,true,true,true,false,false,false,false,false,false,false,false,false,false,false,false,false] rfl rfl (any_of HT_.out (by kernel_rfl)) (fun _ _ _ h => h) (Or.inr ⟨by rfl, rfl⟩) ?_ ?_
                     rotate_left
                     ·simp only [Act.put, List.setIfInBounds_toArray, List.set_cons_zero, List.set_cons_succ, i64_w, i32_w]
                      rfl
                     refine pure_ (i := 5) (N := some 60) (v := undef) (a' := ?_) #[true,true,true,true,true,true,false,false,false,false,false,false,false,false,false,false,false,false] rfl rfl (any_of HT_.out (by kernel_rfl)) (fun _ _ _ h => h) (Or.inr ⟨by rfl, rfl⟩) ?_ ?_
                     rotate_left
                     ·simp only [Act.put, List.setIfInBounds_toArray, List.set_cons_zero, List.set_cons_succ, i64_w, i32_w]
                      rfl
                     refine pure_ (i := 6) (N := some 61) (v := undef) (a' := ?_) #[true,true,true,true,true,true,true,false,false,false,false,false,false,false,false,false,false,false] rfl rfl (any_of HT_.out (by kernel_rfl)) (fun _ _ _ h => h) (Or.inr ⟨by rfl, rfl⟩) ?_ ?_
                     rotate_left
                     ·simp only [Act.put, List.setIfInBounds_toArray, List.set_cons_zero, List.set_cons_succ, i64_w, i32_w]
                      rfl
                     refine pure_ (i := 7) (N := some 62) (v := undef) (a' := ?_) #[true,true,true,true,true,true,true,true,false,false,false,false,false,false,false,false,false,false] rfl rfl (any_of HT_.out (by kernel_rfl)) (fun _ _ _ h => h) (Or.inr ⟨by rfl, rfl⟩) ?_ ?_
                     rotate_left
                     ·simp only [Act.put, List.setIfInBounds_toArray, List.set_cons_zero, List.set_cons_succ, i64_w, i32_w]
                      rfl
                     refine pure_ (i := 8) (N := some 63) (v := undef) (a' := ?_) #[true,true,true,true,true,true,true,true,true,false,false,false,false,false,false,false,false,false] rfl rfl (any_of HT_.out (by kernel_rfl)) (fun _ _ _ h => h) (Or.inr ⟨by rfl, rfl⟩) ?_ ?_
                     rotate_left
                     ·simp only [Act.put, List.setIfInBounds_toArray, List.set_cons_zero, List.set_cons_succ, i64_w, i32_w]
                      rfl
                     refine pure_ (i := 9) (N := some 64) (v := undef) (a' := ?_) #[true,true,true,true,true,true,true,true,true,true,false,false,false,false,false,false,false,false] rfl rfl (any_of HT_.out (by kernel_rfl)) (fun _ _ _ h => h) (Or.inr ⟨by rfl, rfl⟩) ?_ ?_
                     rotate_left
                     ·simp only [Act.put, List.setIfInBounds_toArray, List.set_cons_zero, List.set_cons_succ, i64_w, i32_w]
                      rfl
                     refine pure_ (i := 10) (N := some 65) (v := undef) (a' := ?_) #[true,true,true,true,true,true,true,true,true,true,true,false,false,false,false,false,false,false] rfl rfl (any_of HT_.out (by kernel_rfl)) (fun _ _ _ h => h) (Or.inr ⟨by rfl, rfl⟩) ?_ ?_
                     rotate_left
                     ·simp only [Act.put, List.setIfInBounds_toArray, List.set_cons_zero, List.set_cons_succ, i64_w, i32_w]
                      rfl
                     refine pure_ (i := 11) (N := some 66) (v := undef) (a' := ?_) #[true,true,true,true,true,true,true,true,true,true,true,true,false,false,false,false,false,false] rfl rfl (any_of HT_.out (by kernel_rfl)) (fun _ _ _ h => h) (Or.inr ⟨by rfl, rfl⟩) ?_ ?_
                     rotate_left
                     ·simp only [Act.put, List.setIfInBounds_toArray, List.set_cons_zero, List.set_cons_succ, i64_w, i32_w]
                      rfl
                     refine pure_ (i := 12) (N := some 67) (v := undef) (a' := ?_) #[true,true,true,true,true,true,true,true,true,true,true,true,true,false,false,false,false,false] rfl rfl (any_of HT_.out (by kernel_rfl)) (fun _ _ _ h => h) (Or.inr ⟨by rfl, rfl⟩) ?_ ?_
                     rotate_left
                     ·simp only [Act.put, List.setIfInBounds_toArray, List.set_cons_zero, List.set_cons_succ, i64_w, i32_w]
                      rfl
                     refine pure_ (i := 13) (N := some 68) (v := undef) (a' := ?_) #[true,true,true,true,true,true,true,true,true,true,true,true,true,true,false,false,false,false] rfl rfl (any_of HT_.out (by kernel_rfl)) (fun _ _ _ h => h) (Or.inr ⟨by rfl, rfl⟩) ?_ ?_
                     rotate_left
                     ·simp only [Act.put, List.setIfInBounds_toArray, List.set_cons_zero, List.set_cons_succ, i64_w, i32_w]
                      rfl
                     refine pure_ (i := 14) (N := some 69) (v := undef) (a' := ?_) #[true,true,true,true,true,true,true,true,true,true,true,true,true,true,true,false,false,false] rfl rfl (any_of HT_.out (by kernel_rfl)) (fun _ _ _ h => h) (Or.inr ⟨by rfl, rfl⟩) ?_ ?_
                     rotate_left
                     ·simp only [Act.put, List.setIfInBounds_toArray, List.set_cons_zero, List.set_cons_succ, i64_w, i32_w]
                      rfl
                     refine pure_ (i := 15) (N := some 70) (v := undef) (a' := ?_) #[true,true,true,true,true,true,true,true,true,true,true,true,true,true,true,true,false,false] rfl rfl (any_of HT_.out (by kernel_rfl)) (fun _ _ _ h => h) (Or.inr ⟨by rfl, rfl⟩) ?_ ?_
                     rotate_left
                     ·simp only [Act.put, List.setIfInBounds_toArray, List.set_cons_zero, List.set_cons_succ, i64_w, i32_w]
                      rfl
                     refine pure_ (i := 16) (N := some 71) (v := undef) (a' := ?_) #[true,true,true,true,true,true,true,true,true,true,true,true,true,true,true,true,true,false] rfl rfl (any_of HT_.out (by kernel_rfl)) (fun _ _ _ h => h) (Or.inr ⟨by rfl, rfl⟩) ?_ ?_
                     rotate_left
                     ·simp only [Act.put, List.setIfInBounds_toArray, List.set_cons_zero, List.set_cons_succ, i64_w, i32_w]
                      rfl
                     refine pure_ (i := 17) (N := some 72) (v := ?_) (a' := ?_) #[true,true,true,true,true,true,true,true,true,true,true,true,true,true,true,true,true,true] rfl rfl (any_of HT_.out (by kernel_rfl)) (fun _ _ _ h => h) (Or.inl ⟨by rfl, ?_⟩) ?_ ?_
                     rotate_left
                     ·intro w'
                      go_simp
                      with_reducible rfl
                     rotate_left
                     ·simp only [Act.put, List.setIfInBounds_toArray, List.set_cons_zero, List.set_cons_succ, i64_w, i32_w]
                      rfl
                     refine done_ (done_of HT_.out (by kernel_rfl)) ?_
                     try go_wp2
                     go_ret
                     exact ⟨by first | rfl | (simp [errW_none, errW_some] <;> rfl) | (simp [*, errW_none, errW_some] <;> rfl), by repeat (first | (with_reducible first | exact HB.out | apply below_alloc | apply pw_below_drewN | apply below_drew1 | refine below_set ?_ GE123.out | refine below_set ?_ GE125.out) | exact HB.out)⟩
                   ·rw [if_neg c23] at H
                    exact absurd H (by simp)
                  ·rw [if_neg c22] at H
                   exact absurd H (by simp)
                 ·rw [if_neg c21] at H
                  have c21b0 : decide (x50_5 < (((rd_T39 l0 x32_3).f1).length : Int)) = false := decide_eq_false c21
                  clear c21
                  have H' := Aside0.mk H
                  clear H
                  go_wp2
                  go_roundg k5
                  case measure => have := HK1.out; have := HJ6.out; have := HK3.out; have := HJ12.out; have := HK5.out; omega
                  case rel => exact ⟨(((rd_T39 l0 x32_3).f0)), (wrap64 (x32_3 + 1)), (by first | rfl | (simp; done) | (simp [*]; done)), (by first | rfl | (simp; done) | (simp [*]; done)), H', ⟨by have := HK1.out; have := HJ6.out; have := HK3.out; have := HJ12.out; have := HK5.out; omega⟩, ⟨by repeat (first | (with_reducible first | exact HB.out | apply below_alloc | apply pw_below_drewN | apply below_drew1 | refine below_set ?_ GE123.out) | exact HB.out)⟩⟩
           ·rw [if_neg c12] at H
            exact absurd H (by simp)
          ·rw [if_neg c11] at H
           exact absurd H (by simp)
         ·rw [if_neg c10] at H
          have c10b0 : decide (x32_3 < (l0.length : Int)) = false := decide_eq_false c10
          clear c10
          obtain rfl := Option.some.inj H
          go_wp2
          go_ret
          exact ⟨by first | rfl | (simp [errW_none, errW_some] <;> rfl) | (simp [*, errW_none, errW_some] <;> rfl), by repeat (first | (with_reducible first | exact HB.out | apply below_alloc | apply pw_below_drewN | apply below_drew1) | exact HB.out)⟩
end Go.Proofs.Ytaedlmeaconflaa.P
end
section
set_option linter.unusedVariables false
set_option linter.unusedSimpArgs false
namespace Go.Proofs.Ytaedlmeaconflaa.P
open Go.RowKit Go.Proofs.YtaedlmeaconflaaW.PrintWords Go.Proofs.YtaedlmeaconflaaW.PrintLast Go.Proofs.YtaedlmeaconflaaW.PrintMore
attribute [local go_sem] max2_int min2_int max_two min_two max_three min_three max_four min_four   -- for this text's walks alone
set_option linter.unusedVariables false
set_option linter.unusedSimpArgs false
def folkmootlaw06_num.f (a0 : Int) : Option (Int) := some a0
set_option maxHeartbeats 8000000 in
set_option maxRecDepth 100000 in
theorem folkmootlaw06_num.calls (a0 : Int) (r : Int) (w : World) (h : folkmootlaw06_num.f a0 = some r) :
  Calls Try.prog 6 #[.int .i64 a0] w fun e w' => e = .returned (.int .i64 r) ∧ Drawn0 w w' := by
 have H : (some a0) = some r := h
 clear h
 obtain rfl := Option.some.inj H
 go_enter Try.func6, Try.ntmps6
 go_wp2
 go_ret
 exact ⟨by first | rfl | (simp; done) | (simp [*]; done), by repeat (first | exact Drawn0.refl _ | apply Drawn0.step)⟩
end Go.Proofs.Ytaedlmeaconflaa.P
end
section
set_option linter.unusedVariables false
set_option linter.unusedSimpArgs false
namespace Go.Proofs.Ytaedlmeaconflaa.P
def leBytes : Nat → Nat → List Int
  | 0, _ => []
  | k + 1, n => ((n % 256 : Nat) : Int) :: leBytes k (n / 256)
theorem leBytes_len : ∀ k n, (leBytes k n).length = k
  | 0, _ => rfl
  | k + 1, n => by simp [leBytes, leBytes_len k]
theorem leBytes_snoc : ∀ k n, leBytes (k + 1) n = leBytes k n ++ [((n / 256 ^ k % 256 : Nat) : Int)]
  | 0, n => by simp [leBytes]
  | k + 1, n => by
    rw [leBytes, leBytes_snoc k (n / 256), leBytes, Nat.div_div_eq_div_mul, Nat.pow_succ, Nat.mul_comm 256]
    rfl
def leNum : List Int → Nat
  | [] => 0
  | b :: r => b.toNat + 256 * leNum r
def bytesOk (xs : List Int) : Prop := ∀ x ∈ xs, 0 ≤ x ∧ x < 256
theorem leNum_lt : ∀ (xs : List Int), bytesOk xs → leNum xs < 256 ^ xs.length
  | [], _ => by simp [leNum]
  | b :: r, h => by
    have h1 := leNum_lt r (fun x hx => h x (List.mem_cons_of_mem _ hx))
    have h2 := h b (List.mem_cons_self ..)
    rw [List.length_cons, Nat.pow_succ]
    unfold leNum
    omega
theorem leNum_snoc (xs : List Int) (b : Int) : leNum (xs ++ [b]) = leNum xs + 256 ^ xs.length * b.toNat := by
  induction xs with
  | nil => simp [leNum]
  | cons a r ih =>
    rw [List.cons_append, leNum, ih, leNum, List.length_cons, Nat.pow_succ, Nat.mul_add, ← Nat.mul_assoc]
    rw [Nat.mul_comm 256 (256 ^ r.length)]
    omega
theorem leNum_leBytes : ∀ k n, leNum (leBytes k n) = n % 256 ^ k
  | 0, n => by simp [leBytes, leNum, Nat.mod_one]
  | k + 1, n => by
    rw [leBytes, leNum, leNum_leBytes k, Nat.pow_succ, Nat.mul_comm (256 ^ k) 256, Nat.mod_mul]
    simp only [Int.toNat_natCast]
theorem or_join {k acc b : Nat} (hk : k < 8) (ha : acc < 256 ^ k) (hb : b < 256) : bits .or .u64 (acc : Int) (IntKind.u64.wrap (IntKind.u64.wrap (b : Int) * 2 ^ (8 * k))) = ((acc + 256 ^ k * b : Nat) : Int) := by
  have hp : (2 : Nat) ^ (8 * k) = 256 ^ k := by rw [Nat.pow_mul]
  have h1 : 256 ^ k * b + 256 ^ k ≤ 256 ^ 8 := by
    rw [← Nat.mul_succ]
    refine Nat.le_trans (Nat.mul_le_mul_left _ (show b + 1 ≤ 256 by omega)) ?_
    rw [← Nat.pow_succ]
    exact Nat.pow_le_pow_right (by decide) (by omega)
  have h2 : (256 : Nat) ^ 8 = 18446744073709551616 := by decide
  have e1 : IntKind.u64.wrap (b : Int) = b := Go.IntWalk.u64_in _ (by omega)
  have e2 : (b : Int) * 2 ^ (8 * k) = ((256 ^ k * b : Nat) : Int) := by
    rw [← hp, Int.natCast_mul, Int.mul_comm]; simp
  have e3 : IntKind.u64.wrap ((256 ^ k * b : Nat) : Int) = ((256 ^ k * b : Nat) : Int) := Go.IntWalk.u64_in _ (by omega)
  rw [e1, e2, e3]
  have hw : ∀ n : Int, 0 ≤ n → n < 2 ^ 64 → IntKind.u64.wrap n = n := fun n h0 h1 => Go.IntWalk.u64_in n (by omega)
  rw [(bits_nat .u64 64 (by decide) hw acc (256 ^ k * b) (by omega) (by omega)).2, ← hp, Nat.or_comm, ← Nat.two_pow_add_eq_or_of_lt (by omega) b, Nat.add_comm]
def u64 (x : Int) : Nat := (x % 18446744073709551616).toNat
def i64 (n : Nat) : Int := if n < 9223372036854775808 then n else (n : Int) - 18446744073709551616
theorem u64_lt (x : Int) : u64 x < 18446744073709551616 := by unfold u64; omega
theorem i64_u64 {x : Int} (h0 : -9223372036854775808 ≤ x) (h1 : x ≤ 9223372036854775807) : i64 (u64 x) = x := by unfold i64 u64; split <;> omega
def laidI (x : Int) : List Int := leBytes 8 (u64 x)
theorem laidI_len (x : Int) : (laidI x).length = 8 := leBytes_len _ _
end Go.Proofs.Ytaedlmeaconflaa.P
end
section
set_option linter.unusedVariables false
set_option linter.unusedSimpArgs false
namespace Go.Proofs.Ytaedlmeaconflaa.P
open Go.RowKit Go.Proofs.YtaedlmeaconflaaW.PrintWords Go.Proofs.YtaedlmeaconflaaW.PrintLast Go.Proofs.YtaedlmeaconflaaW.PrintMore
theorem infoB : (Try.prog.info? 5).map (fun i => (i.zero, i.size, i.bytes)) = some (some (.int .u8 0), 1, 1) := by kernel_rfl
theorem stop_append {P : Program} {ops : Array Oper} {rest : List Oper} {o : Oper} {a : Go.Act} {Q : Exit → Go.Act → World → Prop} {w : World} {xs : Array Operand} {ts : Array TypeId} (_ho : o.op = .call { callee := .builtin .append, args := xs, argTypes := ts })
    (h : RowKit.Hid (wpList P ops Q (o :: rest) a w)) : wpList P ops Q (o :: rest) a w := h.out
abbrev ptr (g : Nat) : Value := .pointer (some ⟨g, 0, none⟩)
def RowB (w : World) (base : Nat) (v : Value) (xs : List Int) : Prop := w.ownsRow base 5 1 v xs.length (nums .u8 xs)
theorem RowB.upd {w w' : World} {S : Nat → Prop} {b : Nat} {v : Value} {xs : List Int} (h : RowB w b v xs) (hu : Upd w w' S) (hs : ∀ k, v.ownBlock = some k → ¬ S k) : RowB w' b v xs := by
  obtain ⟨h0, h⟩ := h
  refine ⟨h0, ?_⟩
  rcases h with h | ⟨g, cap, cur, rfl, h1, h2, h3⟩
  · exact .inl h
  · refine .inr ⟨g, cap, cur, rfl, h1, ?_, h3⟩
    have hlt : g < w.heap.size := (Array.getElem?_eq_some_iff.1 h2).1
    exact (hu.block g hlt (hs g (by simp [Value.ownBlock]))).trans h2
theorem RowB.ge {w : World} {b : Nat} {v : Value} {xs : List Int} (h : RowB w b v xs) : ∀ k, v.ownBlock = some k → b ≤ k ∧ k < w.heap.size := by
  obtain ⟨h0, h⟩ := h
  intro k hk
  rcases h with ⟨rfl, _⟩ | ⟨g, cap, cur, rfl, h1, h2, h3⟩
  · simp [Value.ownBlock] at hk
  · simp [Value.ownBlock] at hk
    subst hk
    exact ⟨h1, (Array.getElem?_eq_some_iff.1 h2).1⟩
theorem RowB.below {w w' : World} {b : Nat} {v : Value} {xs : List Int} (h : RowB w b v xs) (hb : Below w.heap.size w w') : RowB w' b v xs := h.upd (Upd.of_below hb (fun _ => False)) (fun _ _ h => h)
structure PenIs (w : World) (base g : Nat) (xs : List Int) : Prop where
  ge : base ≤ g
  ex : ∃ v, Blk w g 50 #[v] ∧ RowB w base v xs ∧ v.ownBlock ≠ some g
theorem PenIs.lt {w : World} {base g : Nat} {xs : List Int} (h : PenIs w base g xs) : g < w.heap.size := by
  obtain ⟨v, hb, _⟩ := h.ex
  exact hb.lt
theorem PenIs.upd {w w' : World} {S : Nat → Prop} {base g : Nat} {xs : List Int} (h : PenIs w base g xs) (hu : Upd w w' S) (hs : ∀ k, base ≤ k → ¬ S k) : PenIs w' base g xs := by
  obtain ⟨v, hb, hr, hn⟩ := h.ex
  exact ⟨h.ge, v, hb.upd hu (hs g h.ge), hr.upd hu (fun k hk => hs k (hr.ge k hk).1), hn⟩
theorem PenIs.below {w w' : World} {base g : Nat} {xs : List Int} (h : PenIs w base g xs) (hb : Below w.heap.size w w') : PenIs w' base g xs := h.upd (Upd.of_below hb (fun _ => False)) (fun _ _ h => h)
theorem PenIs.new (w : World) : PenIs (w.alloc (.cells #[.slice none 0 0] 50)) w.heap.size w.heap.size [] :=
  ⟨Nat.le_refl _, .slice none 0 0, Blk.new w 50 _, ⟨rfl, .inl ⟨rfl, rfl⟩⟩, by simp [Value.ownBlock]⟩
theorem RowB.ne {w : World} {b g : Nat} {v : Value} {xs : List Int} {t : TypeId} {cs : Array Value} (h : RowB w b v xs) (hB : Blk w g t cs) (ht : t ≠ 5) : v.ownBlock ≠ some g := by
  intro e
  obtain ⟨_, h⟩ := h
  rcases h with ⟨rfl, _⟩ | ⟨g', cap, cur, rfl, h1, h2, h3⟩
  · simp [Value.ownBlock] at e
  · simp [Value.ownBlock] at e
    subst e
    unfold Blk at hB
    rw [h2] at hB
    injection hB with hB
    injection hB with _ hB
    exact ht hB.symm
theorem PenIs.laid {w w1 : World} {base g : Nat} {ys : List Int} {v v1 : Value} (hge : base ≤ g) (hB : Blk w g 50 #[v]) (hn : v.ownBlock ≠ some g) (ho : RowB w1 base v1 ys) (hg : w.grownBy w1 v.ownBlock) : PenIs (w1.setCell ⟨g, 0, none⟩ v1) base g ys := by
  have hB1 := hB.grown hg (fun e => hn e.symm)
  have hne : v1.ownBlock ≠ some g := ho.ne hB1 (by decide)
  refine ⟨hge, v1, hB1.set_ 0 v1, ?_, hne⟩
  exact ho.upd ((Upd.refl w1 (· = g)).setCell (p := ⟨g, 0, none⟩) (.inl rfl) v1) (fun k hk e => hne (e ▸ hk))
def KeepT (w w' : World) : Prop := ∀ (b : Nat) (t : TypeId) (cs : Array Value), t ≠ 5 → t ≠ 50 → Blk w b t cs → Blk w' b t cs
structure KB (base : Nat) (w w' : World) : Prop where
  b : Below base w w'
  k : KeepT w w'
theorem KB.refl (base : Nat) (w : World) : KB base w w := ⟨Below.refl _ _, fun _ _ _ _ _ h => h⟩
theorem KB.trans {base : Nat} {a b c : World} (h : KB base a b) (h' : KB base b c) : KB base a c := ⟨h.b.trans h'.b, fun g t cs h1 h2 hb => h'.k g t cs h1 h2 (h.k g t cs h1 h2 hb)⟩
theorem KB.of_below {base : Nat} {a b : World} (h : Below a.heap.size a b) (hb : base ≤ a.heap.size) : KB base a b := ⟨h.mono hb, fun g t cs _ _ hB => hB.below h hB.lt⟩
theorem KB.step {base g : Nat} {w wr w1 : World} {v v1 : Value} {Y : List Int} (h : KB base w wr) (hbl : Below base w w1) (hBk : Blk wr g 50 #[v]) (hr : RowB wr base v Y) (hg : wr.grownBy w1 v.ownBlock) (hge : base ≤ g) : KB base w (w1.setCell ⟨g, 0, none⟩ v1) :=
  ⟨hbl.setCell hge _, fun b t cs h1 h2 hB => by
    have hr1 := h.k b t cs h1 h2 hB
    have hr2 := hr1.grown hg (fun e => (hr.ne hr1 h1) e.symm)
    exact hr2.far (p := ⟨g, 0, none⟩) (hr1.ne_ hBk h2) _⟩
section
variable {base g : Nat} {xs : List Int}
def LowA (w : World) (base g : Nat) (xs : List Int) (n many : Nat) (nv kv : Value) (wr : World) : Prop := ∃ k : Nat, kv = .int .i64 k ∧ k ≤ many ∧ nv = .int .u64 ((n / 256 ^ k : Nat) : Int) ∧ PenIs wr base g (xs ++ leBytes k n) ∧ KB base w wr
set_option maxHeartbeats 1000000 in
theorem low_any (n : Nat) (many : Nat) (hm : many ≤ 8) (hn : n < 18446744073709551616) (w : World) (h : PenIs w base g xs) (hl : xs.length ≤ 140000000000000) : Calls Try.prog 40 #[ptr g, .int .u64 (n : Int), .int .i64 (many : Int)] w fun e w' => e = .returned (.tuple #[]) ∧ PenIs w' base g (xs ++ leBytes many n) ∧ KB base w w' := by
  have H := Lib.hid h; clear h
  go_enter Try.func40, Try.ntmps40
  go_wp2
  go_loopw [1, 9] (fun nv kv wr => LowA w base g xs n many nv kv wr) (fun _ k _ => many - (intOf k).toNat)
  case atStart => exact ⟨0, rfl, Nat.zero_le _, by simp, by simpa [leBytes] using H.out, KB.refl _ _⟩
  case round =>
    obtain ⟨k, rfl, hk, rfl, hP, hB⟩ := hrel
    by_cases hlt : k < many
    · obtain ⟨v, hBk, hr, hn0⟩ := hP.ex
      have hge := hP.ge
      have hsn := leBytes_snoc k n
      have hdv : n / 256 ^ (k + 1) = n / 256 ^ k / 256 := by rw [Nat.div_div_eq_div_mul, Nat.pow_succ]
      have hlY : (xs ++ leBytes k n).length ≤ 140000000000008 := by rw [List.length_append, leBytes_len]; omega
      have hsn' : xs ++ leBytes (k + 1) n = (xs ++ leBytes k n) ++ [((n / 256 ^ k % 256 : Nat) : Int)] := by rw [hsn, List.append_assoc]
      have hmlt : n / 256 ^ k < 18446744073709551616 := Nat.lt_of_le_of_lt (Nat.div_le_self _ _) hn
      obtain ⟨m, hm'⟩ : ∃ m, n / 256 ^ k = m := ⟨_, rfl⟩
      obtain ⟨Y, hY⟩ : ∃ Y, xs ++ leBytes k n = Y := ⟨_, rfl⟩
      rw [hm'] at hdv hsn' hmlt ⊢
      rw [hY] at hr hlY hsn'
      have HS := Lib.hid (And.intro hdv (And.intro hsn' (And.intro hBk (And.intro hr (And.intro hn0 (And.intro hge hB))))))
      obtain ⟨A, c, rfl, _⟩ := own_reads hr
      have hc0 : wr.cell? ⟨g, 0, none⟩ = some (.slice A Y.length c) := hBk.cell 0
      have hBx := Lib.hid hBk
      have HL := Lib.hid (show (Y.length + 1) * 1 ≤ 140737488355328 by omega)
      have HG := Lib.hid (show base ≤ wr.heap.size from Nat.le_trans hge (Nat.le_of_lt hBk.lt))
      clear hP hr hsn hdv hsn' hBk hn0 hge hm' hY hB
      go_wp2_with (first | ((with_reducible refine gate_builtin (b := .append) (xs := #[.tmp 15, .tmp 18]) rfl ?_); at_builtin; refine stop_append rfl ?_))
      refine Lib.hid ?_
      refine print_append_num (w0 := w) base rfl (.tmp 15) (.tmp 18) 22 5 .u8 1 rfl Try.underlying22 infoB (by decide) (.slice A Y.length c) Y (((m : Nat) : Int) % 256) rfl rfl HS.out.2.2.2.1 HS.out.2.2.2.2.2.2.b HG.out HL.out ?_
      intro v1 w1 ho hbl hg hat
      have hB1 := hBx.out.grown hg (fun e => HS.out.2.2.2.2.1 e.symm)
      have hz1 := hB1.frozen 0
      have hc1 : w1.cell? ⟨g, 0, none⟩ = some (.slice A Y.length c) := hB1.cell 0
      have HO1 := Lib.hid (And.intro ho (And.intro hbl (And.intro hg hat)))
      obtain ⟨A1, c1, rfl⟩ := own_slice ho
      clear ho hbl hg hat hB1 hc0
      go_wp2
      obtain ⟨ho, hbl, hg, hat⟩ := HO1.out
      obtain ⟨hdv, hsn', hBk, hr, hn0, hge, hB⟩ := HS.out
      have hP1 := PenIs.laid hge hBk hn0 ho hg
      go_roundw
      case rel => exact ⟨k + 1, by go_num, by omega, by rw [hdv]; simp, by rw [hsn']; simpa using hP1, hB.step hbl hBk hr hg hge⟩
      case measure => simp [intOf]; omega
    · obtain rfl : k = many := by omega
      go_wp2
      (try simp only [Exit.inBlock, Exit.then]); refine bodyPost_end (results_none rfl _ _ _) rfl ?_
      exact ⟨rfl, hP, hB⟩
theorem rd_nat (xs : List Int) {k : Nat} (hk : k < xs.length) : Go.Proofs.YtaedlmeaconflaaW.PrintWords.rd xs (k : Int) = xs[k] := by simp [Go.Proofs.YtaedlmeaconflaaW.PrintWords.rd, List.getD_eq_getElem?_getD, List.getElem?_eq_getElem hk]
def laidIs (l : List Int) : List Int := (l.map laidI).flatten
theorem laidIs_len (l : List Int) : (laidIs l).length = 8 * l.length := by
  induction l with
  | nil => rfl
  | cons x l ih => unfold laidIs at ih ⊢; rw [List.map_cons, List.flatten_cons, List.length_append, ih, laidI_len, List.length_cons]; omega
theorem laidIs_snoc (l : List Int) {k : Nat} (hk : k < l.length) : laidIs (l.take (k + 1)) = laidIs (l.take k) ++ laidI l[k] := by
  unfold laidIs
  rw [List.take_succ_eq_append_getElem hk, List.map_append, List.flatten_append]; simp
def IntA (w : World) (base g : Nat) (xs : List Int) (l : List Int) (kv : Value) (wr : World) : Prop := ∃ k : Nat, kv = .int .i64 k ∧ k ≤ l.length ∧ PenIs wr base g (xs ++ laidIs (l.take k)) ∧ KB base w wr
theorem u64_cast (x : Int) : ((u64 x : Nat) : Int) = x % 18446744073709551616 := by unfold u64; omega
set_option maxHeartbeats 1000000 in
theorem pnInt_any (A : Option Addr) (c : Nat) (l : List Int) (w : World) (h : PenIs w base g xs) (hC : ∀ W, KB base w W → Kd.C (Kd.int .i64) W A l.length l) (hl : xs.length + 8 * l.length ≤ 140000000000000) : Calls Try.prog 20 #[ptr g, .slice A l.length c] w fun e w' => e = .returned (.tuple #[]) ∧ PenIs w' base g (xs ++ laidIs l) ∧ KB base w w' := by
  have HC := Lib.hid hC; have H := Lib.hid h; clear h hC
  go_enter Try.func20, Try.ntmps20
  go_wp2
  go_loopw [8] (fun kv wr => IntA w base g xs l kv wr) (fun k _ => l.length - (intOf k).toNat)
  case atStart => exact ⟨0, rfl, Nat.zero_le _, by simpa [laidIs] using H.out, KB.refl _ _⟩
  case round =>
    obtain ⟨k, rfl, hk, hP, hB⟩ := hrel
    by_cases hlt : k < l.length
    · obtain ⟨ad, rfl, hcell⟩ := Kd.at_int (HC.out wr hB) (k : Int) (by omega) (by omega)
      rw [rd_nat l hlt] at hcell
      simp only [Int.toNat_natCast] at hcell
      have hsn := laidIs_snoc l hlt
      have hY : (xs ++ laidIs (l.take k)).length ≤ 140000000000000 := by rw [List.length_append, laidIs_len, List.length_take]; omega
      have hlow := low_any (u64 l[k]) 8 (by omega) (u64_lt _) wr hP hY
      rw [u64_cast, List.append_assoc, show leBytes 8 (u64 l[k]) = laidI l[k] from rfl, ← hsn] at hlow
      generalize l[k] = x at *
      have HLOW := Lib.hid hlow; have HB := Lib.hid hB
      clear hlow hsn hP hB
      go_wp2_with fail
      refine HLOW.out.mono ?_
      rintro e w1 ⟨rfl, hP1, hB1⟩
      go_wp2_with fail
      go_roundw
      case rel => exact ⟨k + 1, by go_num, by omega, hP1, HB.out.trans hB1⟩
      case measure => simp [intOf]; omega
    · obtain rfl : k = l.length := by omega
      rw [List.take_length] at hP
      go_wp2
      (try simp only [Exit.inBlock, Exit.then]); refine bodyPost_end (results_none rfl _ _ _) rfl ?_
      exact ⟨rfl, hP, hB⟩
end
theorem own_lit0 (W : World) {b : Nat} (hb : b ≤ W.heap.size) : RowB (W.alloc (.cells #[] 5)) b (.slice (some ⟨W.heap.size, 0, none⟩) 0 0) [] :=
  ⟨rfl, .inr ⟨W.heap.size, 0, #[], rfl, hb, heap_alloc_new W _, Nat.le_refl _, Nat.zero_le _, rfl, rfl⟩⟩
set_option maxHeartbeats 1000000 in
theorem bclone_any (A : Option Addr) (c : Nat) (xs : List Int) (w : World) (hr : ReadsInt w .u8 A xs.length xs) (hb : xs.length * 1 ≤ 140737488355328) :
    Calls Try.prog 32 #[.slice A xs.length c] w fun e w' => ∃ v, e = .returned v ∧ RowB w' w.heap.size v xs ∧ Below w.heap.size w w' := by
  have q22 : ∀ (w : World) (a : Option Addr) (n c n' c' : Nat), (binOp .eql 22 (.slice a n c) (.slice none n' c')).run Try.prog w = .ok (.bool a.isNone) w := fun w a n c n' c' => Lib.run_eql_slice_nil w _ _ a n c n' c' Try.underlying22
  rcases A with _ | ad
  · have h0 : xs = [] := by
      rcases xs with _ | ⟨x, xs⟩
      · rfl
      · obtain ⟨_, h, _⟩ := hr.2.2 (by simp)
        cases h
    subst h0
    go_enter Try.func32, Try.ntmps32
    go_wp2
    go_ret
    exact ⟨_, rfl, ⟨rfl, .inl ⟨rfl, rfl⟩⟩, Below.refl _ _⟩
  · have HR := Lib.hid hr; have HB := Lib.hid hb
    clear hr hb
    go_enter Try.func32, Try.ntmps32
    go_wp2_with (first | ((with_reducible refine gate_builtin (b := .append) (xs := #[.tmp 5, .tmp 6]) rfl ?_); at_builtin; refine stop_append rfl ?_))
    refine Lib.hid ?_
    refine print_append_row (w0 := w) w.heap.size rfl (.tmp 5) (.tmp 6) 22 5 .u8 1 rfl Try.underlying22 infoB (by decide) (.slice (some ⟨w.heap.size, 0, none⟩) 0 0) [] xs (some ad) xs.length c rfl rfl (own_lit0 w (Nat.le_refl _)) (HR.out.below ((Below.refl _ _).alloc (Nat.le_refl _) _)) ((Below.refl _ _).alloc (Nat.le_refl _) _) (by simp) (by simpa using HB.out) ?_
    intro v1 w1 ho hbl _ _
    simp only [List.nil_append] at ho
    have HO := Lib.hid (And.intro ho hbl)
    obtain ⟨A1, c1, rfl⟩ := own_slice ho
    clear ho hbl
    go_wp2
    go_ret
    exact ⟨_, rfl, HO.out.1, HO.out.2⟩
section
variable {base g : Nat} {xs : List Int}
theorem pnBytes_any (w : World) (h : PenIs w base g xs) (hl : xs.length ≤ 140000000000000) : Calls Try.prog 22 #[ptr g] w fun e w' => ∃ v, e = .returned v ∧ RowB w' w.heap.size v xs ∧ Below w.heap.size w w' := by
  obtain ⟨v, hB, hr, hn⟩ := h.ex
  obtain ⟨A, c, rfl, hrd⟩ := own_reads hr
  have hc0 : w.cell? ⟨g, 0, none⟩ = some (.slice A xs.length c) := hB.cell 0
  have hcl := bclone_any A c xs w hrd (by omega)
  have HCL := Lib.hid hcl
  clear h hB hr hn hrd hcl
  go_enter Try.func22, Try.ntmps22
  go_wp2_with fail
  refine HCL.out.mono ?_
  rintro e w1 ⟨v1, rfl, ho, hb⟩
  have HO := Lib.hid (And.intro ho hb)
  obtain ⟨A1, c1, rfl⟩ := own_slice ho
  clear ho hb
  go_wp2
  go_ret
  exact ⟨_, rfl, HO.out.1, HO.out.2⟩
end
end Go.Proofs.Ytaedlmeaconflaa.P
end
