/- what the claim's row stands on, part 8. -/
import Derived.Test.YtgmlenpcchhmbaaGreatZe2
import Derived.Test.YtgmlenpcchhmbaaGreatZe5
import Derived.Test.YtgmlenpcchhmbaaGreatZe6
import Derived.Test.YtgmlenpcchhmbaaGreatZe7
import Derived.Test.YtgmlenpcchhmbaaGreatZe4
import Derived.Test.YtgmlenpcchhmbaaGreatZe3
section
set_option linter.unusedVariables false
set_option linter.unusedSimpArgs false
namespace Go.Proofs.YtgmlenpcchhmbaaGreat.P
open Go.RowKit Go.Proofs.YtgmlenpcchhmbaaGreatW.PrintWords Go.Proofs.YtgmlenpcchhmbaaGreatW.PrintLast Go.Proofs.YtgmlenpcchhmbaaGreatW.PrintMore
attribute [local go_sem] max2_int min2_int max_two min_two max_three min_three max_four min_four   -- for this text's walks alone
def txn_set.l0 : Nat → List Int → List (S71) → List (S63) → Int → Int → Option ((List (S71)))
 | 0, _, _, _, _, _ => none
 | k + 1, x1, x5, x8, x9, x10 => if x10 < x9 then (if 0 ≤ x10 then (if x10 < (x8.length : Int) then ((slices_Contains_int_int.f k x1 ((rd_T63 x8 x10).f0)).bind fun t709 => (if t709 = true then (if ((rd_T63 x8 x10).f0) = 2 then (if x5.length < 4398046511104 then (txn_set.l0 k x1 (x5 ++ [(⟨(rd_T63 x8 x10).f1, (rd_T63 x8 x10).f2⟩ : S71)]) x8 x9 (wrap64 (x10 + 1))) else (none)) else (if ((rd_T63 x8 x10).f0) = 6 then ((span_Point.f ((rd_T63 x8 x10).f1)).bind fun bt713 => ((span_Point.f ((rd_T63 x8 x10).f2)).bind fun bt715 => ((some (([(⟨bt713.1, bt713.2⟩ : S71), (⟨bt715.1, bt715.2⟩ : S71)] : List (S71)) : List (S71))).bind fun y717 => (if x5.length + y717.length < 4398046511104 then (txn_set.l0 k x1 (x5 ++ y717) x8 x9 (wrap64 (x10 + 1))) else (none))))) else ((span_Point.f ((rd_T63 x8 x10).f1)).bind fun bt723 => (if x5.length < 4398046511104 then (txn_set.l0 k x1 (x5 ++ [(⟨bt723.1, bt723.2⟩ : S71)]) x8 x9 (wrap64 (x10 + 1))) else (none))))) else (txn_set.l0 k x1 x5 x8 x9 (wrap64 (x10 + 1))))) else (none)) else (none)) else ((span_Union.f x5).bind fun t704 => (some t704))
def txn_set.f (k : Nat) (l0 : List (S63)) (l1 : List Int) : Option ((List (S71))) := txn_set.l0 k l1 ([] : List (S71)) l0 (l0.length : Int) 0
def txn_set.T10 : Bool × List (List Nat × List Nat) := (true, [([], []), ([], []), ([1], [1]), ([2], [2]), ([], []), ([4], [4]), ([5, 3], [5]), ([3, 6], [3, 6]), ([0, 7, 6], [0, 7]), ([8, 8, 0, 1, 2, 3, 4, 5, 6, 7, 8], [0, 8])])
def txn_set.B10 : List Nat := [0, 0, 2, 6, 0, 16, 62, 126, 255, 511]
theorem txn_set.tab10 : rtab .any (opsOf Tryz.f86 10) = txn_set.T10 := by kernel_rfl
theorem txn_set.bits10 : waitsOk txn_set.T10.2 txn_set.B10 = true := by kernel_rfl
set_option maxHeartbeats 8000000 in
set_option maxRecDepth 100000 in
theorem txn_set.calls (k : Nat) (A0 : Option Addr) (c0 : Nat) (l0 : List (S63)) (A1 : Option Addr) (c1 : Nat) (l1 : List Int) (r : List (S71)) (w : World) (hr0 : Kd.C k63 w A0 l0.length l0) (hc0 : l0.length ≤ c0) (hr1 : Kd.C (Kd.int .i64) w A1 l1.length l1) (hc1 : l1.length ≤ c1) (h : txn_set.f k l0 l1 = some r) :
  Calls Tryz.prog 86 #[.slice A0 l0.length c0, .slice A1 l1.length c1] w fun e w' => ∃ v0_ : Value, e = .returned (v0_) ∧ Kd.R k71 71 w' w.heap.size (fun _ => True) v0_ r ∧ Below w.heap.size w w' := by
 have hu63 := Tryz.underlying63
 have hu71 := Tryz.underlying71
 have HR0 := Aside0.mk hr0
 have HC0 := Aside0.mk hc0
 clear hr0 hc0
 have HR1 := Aside0.mk hr1
 have HC1 := Aside0.mk hc1
 clear hr1 hc1
 have HB := Aside0.mk (Below.refl w.heap.size w)
 have H : (txn_set.l0 k l1 ([] : List (S71)) l0 (l0.length : Int) 0) = some r := h
 clear h
 have H' := Aside0.mk H
 clear H
 go_enter Tryz.func86, Tryz.ntmps86
 go_wp2
 go_loopg [5, 10] k (fun kq v5 v10 w' => ∃ (x5_1 : List (S71)) (x10_1 : Int), v10 = .int .i64 x10_1 ∧ Aside0 (txn_set.l0 kq l1 x5_1 l0 (l0.length : Int) x10_1 = some r) ∧ Aside0 (kq ≤ k) ∧ Aside0 (Kd.R k71 71 w' w.heap.size (fun _ => True) v5 x5_1) ∧ Aside0 (Below w.heap.size w w'))
 case atStart => exact ⟨(([] : List (S71))), (0), (by first | rfl | (rw [bl_gt] <;> rfl) | (simp; done) | (simp [*]; done)), H', ⟨Nat.le_refl _⟩, ⟨by first | exact Kd.R_nil _ _ _ _ _ | exact Kd.N_nil _ _ _ _ _ | exact Kd.V_nil _ _ _ _ _ | exact Kd.Q_nil _ _ _ _ _ | exact Kd.S_nil _ _ _ _ _⟩, ⟨bB_⟩⟩
 case round =>
  clear H'
  try clear c1
  try clear p2
  obtain ⟨x5_1, x10_1, rfl, HA, HK1, HO_5, HB⟩ := hrel
  cases gk with
  | zero => exact absurd HA.out (by simp [txn_set.l0])
  | succ k1 =>
   have H := HA.out
   clear HA
   simp only [txn_set.l0] at H
   by_cases c3 : x10_1 < (l0.length : Int)
   ·rw [if_pos c3] at H
    have c3b0 : decide (x10_1 < (l0.length : Int)) = true := decide_eq_true c3
    clear c3
    by_cases c4 : 0 ≤ x10_1
    ·rw [if_pos c4] at H
     have c4b0 : decide (0 ≤ x10_1) = true := decide_eq_true c4
     clear c4
     by_cases c5 : x10_1 < (l0.length : Int)
     ·rw [if_pos c5] at H
      have c5b0 : decide (x10_1 < (l0.length : Int)) = true := decide_eq_true c5
      clear c5
      replace H := Option.bind_eq_some_iff.mp H
      obtain ⟨t709, A60, H⟩ := H
      replace H : (if t709 = true then (if ((rd_T63 l0 x10_1).f0) = 2 then (if x5_1.length < 4398046511104 then (txn_set.l0 k1 l1 (x5_1 ++ [(⟨(rd_T63 l0 x10_1).f1, (rd_T63 l0 x10_1).f2⟩ : S71)]) l0 (l0.length : Int) (wrap64 (x10_1 + 1))) else (none)) else (if ((rd_T63 l0 x10_1).f0) = 6 then ((span_Point.f ((rd_T63 l0 x10_1).f1)).bind fun bt713 => ((span_Point.f ((rd_T63 l0 x10_1).f2)).bind fun bt715 => ((some (([(⟨bt713.1, bt713.2⟩ : S71), (⟨bt715.1, bt715.2⟩ : S71)] : List (S71)) : List (S71))).bind fun y717 => (if x5_1.length + y717.length < 4398046511104 then (txn_set.l0 k1 l1 (x5_1 ++ y717) l0 (l0.length : Int) (wrap64 (x10_1 + 1))) else (none))))) else ((span_Point.f ((rd_T63 l0 x10_1).f1)).bind fun bt723 => (if x5_1.length < 4398046511104 then (txn_set.l0 k1 l1 (x5_1 ++ [(⟨bt723.1, bt723.2⟩ : S71)]) l0 (l0.length : Int) (wrap64 (x10_1 + 1))) else (none))))) else (txn_set.l0 k1 l1 x5_1 l0 (l0.length : Int) (wrap64 (x10_1 + 1)))) = some r := H
      have A6 := Aside0.mk A60
      clear A60
      by_cases c7 : t709 = true
      ·subst c7
       have H1 : (if ((rd_T63 l0 x10_1).f0) = 2 then (if x5_1.length < 4398046511104 then (txn_set.l0 k1 l1 (x5_1 ++ [(⟨(rd_T63 l0 x10_1).f1, (rd_T63 l0 x10_1).f2⟩ : S71)]) l0 (l0.length : Int) (wrap64 (x10_1 + 1))) else (none)) else (if ((rd_T63 l0 x10_1).f0) = 6 then ((span_Point.f ((rd_T63 l0 x10_1).f1)).bind fun bt713 => ((span_Point.f ((rd_T63 l0 x10_1).f2)).bind fun bt715 => ((some (([(⟨bt713.1, bt713.2⟩ : S71), (⟨bt715.1, bt715.2⟩ : S71)] : List (S71)) : List (S71))).bind fun y717 => (if x5_1.length + y717.length < 4398046511104 then (txn_set.l0 k1 l1 (x5_1 ++ y717) l0 (l0.length : Int) (wrap64 (x10_1 + 1))) else (none))))) else ((span_Point.f ((rd_T63 l0 x10_1).f1)).bind fun bt723 => (if x5_1.length < 4398046511104 then (txn_set.l0 k1 l1 (x5_1 ++ [(⟨bt723.1, bt723.2⟩ : S71)]) l0 (l0.length : Int) (wrap64 (x10_1 + 1))) else (none))))) = some r := by rw [if_pos rfl] at H; exact H
       clear H
       have H := H1
       clear H1
       by_cases c8 : ((rd_T63 l0 x10_1).f0) = 2
       ·rw [if_pos c8] at H
        have c8b0 : (((rd_T63 l0 x10_1).f0) == 2) = true := beq_iff_eq.mpr c8
        have c8b1 : (((rd_T63 l0 x10_1).f0) != 2) = false := bne_eq_false_iff_eq.mpr c8
        clear c8
        by_cases c9 : x5_1.length < 4398046511104
        ·rw [if_pos c9] at H
         have LMc9 := Aside0.mk c9
         clear c9
         obtain ⟨y710, hy710⟩ : ∃ y_ : List (S71), y_ = (x5_1 ++ [(⟨(rd_T63 l0 x10_1).f1, (rd_T63 l0 x10_1).f2⟩ : S71)]) := ⟨_, rfl⟩
         replace H : (txn_set.l0 k1 l1 y710 l0 (l0.length : Int) (wrap64 (x10_1 + 1))) = some r := by first | (rw [hy710]; with_reducible exact H) | (have H2_ := (Option.bind_some _ _).symm.trans H; rw [hy710]; with_reducible exact H2_) | (have H2_ := (Option.bind_some _ _).symm.trans H; with_reducible exact H2_) | with_reducible exact H | (rw [hy710]; exact H) | exact H
         have Ny710 := Aside0.mk hy710
         clear hy710
         have H' := Aside0.mk H
         clear H
         have p707 : 0 ≤ (x10_1 : Int) := of_decide_eq_true (by first | (with_reducible assumption) | assumption)
         have q707 : x10_1 < (l0.length : Int) := of_decide_eq_true (by first | (with_reducible assumption) | assumption)
         obtain ⟨ad707, e707, hx707_0, hx707_1, hx707_2, hx707_3⟩ := at_T63 HR0.out x10_1 p707 q707
         cases e707
         replace hx707_0 := (HB.out.cell (World.block_lt_of_cell? w _ hx707_0)).trans hx707_0
         replace hx707_1 := (HB.out.cell (World.block_lt_of_cell? w _ hx707_1)).trans hx707_1
         replace hx707_2 := (HB.out.cell (World.block_lt_of_cell? w _ hx707_2)).trans hx707_2
         replace hx707_3 := (HB.out.cell (World.block_lt_of_cell? w _ hx707_3)).trans hx707_3
         replace p707 := eq_true p707
         replace q707 := eq_true q707
         go_wp2_with (first | ((with_reducible refine gate_dst (N := 7) rfl ?_); refine box_event ?hg (N := 7) ?hd (cs := #[.int .i64 0, .string (⟨#[]⟩ : ByteArray), .string (⟨#[]⟩ : ByteArray), .int .u64 0]) (t := 63) ?hr ?_; (case hd => rfl); (case hg => rfl); (case hr => first | (go_simp; done) | (go_simp; rfl)); intro gb708 hg w10 hbox hb; have n0_ := Aside0.mk (Kd.R_below (rR_ HO_5.out) hb); have n1_ := Aside0.mk (below_step bB_ hb); have n2_ := Aside0.mk (hbox); have n3_ := Aside0.mk ((by rw [hg]; exact (below_size bB_) : w.heap.size ≤ gb708)); have n4_ := Aside0.mk ((by rw [hg]; exact (below_size bB_) : w.heap.size ≤ gb708)); clear HO_5; clear HB; have HO_5 := n0_; have HB := n1_; have BK708 := n2_; have GW708 := n3_; have GE708 := n4_; clear n0_ n1_ n2_ n3_ n4_; clear hb hbox hg; have hcz11_0 : w10.cell? ⟨gb708, 0, none⟩ = some (.int .i64 0) := (blk_cell BK708.out 0).trans rfl; have hcz11_1 : w10.cell? ⟨gb708, 1, none⟩ = some (.string (⟨#[]⟩ : ByteArray)) := (blk_cell BK708.out 1).trans rfl; have hcz11_2 : w10.cell? ⟨gb708, 2, none⟩ = some (.string (⟨#[]⟩ : ByteArray)) := (blk_cell BK708.out 2).trans rfl; have hcz11_3 : w10.cell? ⟨gb708, 3, none⟩ = some (.int .u64 0) := (blk_cell BK708.out 3).trans rfl; have hfz11_0 := blk_frozen BK708.out 0; have hfz11_1 := blk_frozen BK708.out 1; have hfz11_2 := blk_frozen BK708.out 2; have hfz11_3 := blk_frozen BK708.out 3) | ((with_reducible refine gate_callee (f := 129) rfl ?_); refine goesL_ (some 24) rfl rfl Tryz.func129 (by kernel_rfl) rfl #[.slice A1 l1.length c1, .int .i64 ((rd_T63 l0 x10_1).f0)] rfl (by (try simp only [List.map_toArray, List.map_cons, List.map_nil]); first | done | rfl | (simp only [List.length_drop, List.length_take]; rfl)) ?_; (with_reducible refine (slices_Contains_int_int.calls k1 _ _ l1 ((rd_T63 l0 x10_1).f0) true _ ?side1 ?side2 A6.out).mono ?_); (case side1 => exact Kd.C_below HR1.out (by repeat (first | (with_reducible first | exact HB.out | apply below_alloc | apply pw_below_drewN | apply below_drew1 | refine below_set ?_ GE708.out) | exact HB.out))); (case side2 => exact HC1.out); rintro e w' ⟨rfl, ⟨nd, rfl⟩⟩; refine ⟨_, rfl, ?_⟩) | ((with_reducible refine gate_builtin (b := .append) (xs := #[.tmp 30, .tmp 36]) rfl ?_); at_builtin; refine Kd.R_append k71 (w0 := w) w.heap.size rfl (.tmp 30) (.tmp 36) 40 71 (.agg #[(.string ⟨#[]⟩), (.string ⟨#[]⟩)]) 32 rfl Tryz.underlying40 info71 rfl (by decide) (by omega) u5 x5_1 (⟨(rd_T63 l0 x10_1).f1, (rd_T63 l0 x10_1).f2⟩ : S71) [.string ((rd_T63 l0 x10_1).f1), .string ((rd_T63 l0 x10_1).f2)] (fun _ => True) (fun _ => False) rfl (by first | (go_simp; done) | (go_simp; rfl)) ?aP (fun _ hk => hk.elim) ?aF ?aO ?aB ?aS ?aL ?_; (case aP => exact k71_mkM _ _ _ (⟨(rd_T63 l0 x10_1).f1, (rd_T63 l0 x10_1).f2⟩ : S71)); (case aB => exact (by repeat (first | (with_reducible first | exact HB.out | apply below_alloc | apply pw_below_drewN | apply below_drew1 | refine below_set ?_ GE708.out) | exact HB.out))); (case aF => exact (fun _ _ => trivial)); (case aO => exact (by (with_reducible repeat (first | apply Kd.R_alloc | apply Kd.R_drewN | apply Kd.R_drew)); exact Kd.R_mono (Kd.R_far (p := ⟨gb708, 3, none⟩) (Kd.R_far (p := ⟨gb708, 2, none⟩) (Kd.R_far (p := ⟨gb708, 1, none⟩) (Kd.R_far (p := ⟨gb708, 0, none⟩) (Kd.R_types HO_5.out BK708.out (by decide)) (fun _ hk => hk.2) (.int .i64 ((rd_T63 l0 x10_1).f0))) (fun _ hk => hk.2) (.string ((rd_T63 l0 x10_1).f1))) (fun _ hk => hk.2) (.string ((rd_T63 l0 x10_1).f2))) (fun _ hk => hk.2) (.int .u64 ((rd_T63 l0 x10_1).f3))) (fun _ hk => trivial))); (case aS => exact (below_size (by repeat (first | (with_reducible first | exact HB.out | apply below_alloc | apply pw_below_drewN | apply below_drew1 | refine below_set ?_ GE708.out) | exact HB.out)))); (case aL => have := LMc9.out; omega); intro v711 w12 ho hb hg hat; rw [← Ny710.out] at ho; have n0_ := Aside0.mk (blk_grown (g := gb708) (o := .cells #[.int .i64 ((rd_T63 l0 x10_1).f0), .string ((rd_T63 l0 x10_1).f1), .string ((rd_T63 l0 x10_1).f2), .int .u64 ((rd_T63 l0 x10_1).f3)] 63 (0, 0)) (by (with_reducible repeat (first | refine blk_drewN ?_ _ | refine blk_drew ?_ | refine blk_alloc ?_ _)); refine blk_put (cs := #[.int .i64 ((rd_T63 l0 x10_1).f0), .string ((rd_T63 l0 x10_1).f1), .string ((rd_T63 l0 x10_1).f2), .int .u64 0]) ?_ 3 _ rfl; (with_reducible repeat (first | refine blk_drewN ?_ _ | refine blk_drew ?_ | refine blk_alloc ?_ _)); refine blk_put (cs := #[.int .i64 ((rd_T63 l0 x10_1).f0), .string ((rd_T63 l0 x10_1).f1), .string (⟨#[]⟩ : ByteArray), .int .u64 0]) ?_ 2 _ rfl; (with_reducible repeat (first | refine blk_drewN ?_ _ | refine blk_drew ?_ | refine blk_alloc ?_ _)); refine blk_put (cs := #[.int .i64 ((rd_T63 l0 x10_1).f0), .string (⟨#[]⟩ : ByteArray), .string (⟨#[]⟩ : ByteArray), .int .u64 0]) ?_ 1 _ rfl; (with_reducible repeat (first | refine blk_drewN ?_ _ | refine blk_drew ?_ | refine blk_alloc ?_ _)); refine blk_put (cs := #[.int .i64 0, .string (⟨#[]⟩ : ByteArray), .string (⟨#[]⟩ : ByteArray), .int .u64 0]) ?_ 0 _ rfl; (with_reducible repeat (first | refine blk_drewN ?_ _ | refine blk_drew ?_ | refine blk_alloc ?_ _)); exact BK708.out) hg (Kd.R_ne HO_5.out BK708.out (by decide))); have n1_ := Aside0.mk (hb); have n2_ := Aside0.mk (ho); clear BK708; clear HB; clear HO_5; have BK708 := n0_; have HB := n1_; have HO712 := n2_; clear n0_ n1_ n2_; clear ho hb hg hat))
         go_roundg k1
         case measure => have := HK1.out; omega
         case rel => exact ⟨(y710), (wrap64 (x10_1 + 1)), (by first | rfl | (rw [bl_gt] <;> rfl) | (simp; done) | (simp [*]; done)), H', ⟨by have := HK1.out; omega⟩, ⟨rR_ HO712.out⟩, ⟨by repeat (first | (with_reducible first | exact HB.out | apply below_alloc | apply pw_below_drewN | apply below_drew1 | refine below_set ?_ GE708.out) | exact HB.out)⟩⟩
        ·rw [if_neg c9] at H
         exact absurd H (by simp)
       ·rw [if_neg c8] at H
        have c8b0 : (((rd_T63 l0 x10_1).f0) == 2) = false := beq_eq_false_iff_ne.mpr c8
        have c8b1 : (((rd_T63 l0 x10_1).f0) != 2) = true := bne_iff_ne.mpr c8
        by_cases c13 : ((rd_T63 l0 x10_1).f0) = 6
        ·rw [if_pos c13] at H
         have c13b0 : (((rd_T63 l0 x10_1).f0) == 6) = true := beq_iff_eq.mpr c13
         have c13b1 : (((rd_T63 l0 x10_1).f0) != 6) = false := bne_eq_false_iff_eq.mpr c13
         clear c13
         replace H := Option.bind_eq_some_iff.mp H
         obtain ⟨⟨t713, t714⟩, A140, H⟩ := H
         replace H : ((span_Point.f ((rd_T63 l0 x10_1).f2)).bind fun bt715 => ((some (([(⟨t713, t714⟩ : S71), (⟨bt715.1, bt715.2⟩ : S71)] : List (S71)) : List (S71))).bind fun y717 => (if x5_1.length + y717.length < 4398046511104 then (txn_set.l0 k1 l1 (x5_1 ++ y717) l0 (l0.length : Int) (wrap64 (x10_1 + 1))) else (none)))) = some r := H
         have A14 := Aside0.mk A140
         clear A140
         replace H := Option.bind_eq_some_iff.mp H
         obtain ⟨⟨t715, t716⟩, A150, H⟩ := H
         replace H : ((some (([(⟨t713, t714⟩ : S71), (⟨t715, t716⟩ : S71)] : List (S71)) : List (S71))).bind fun y717 => (if x5_1.length + y717.length < 4398046511104 then (txn_set.l0 k1 l1 (x5_1 ++ y717) l0 (l0.length : Int) (wrap64 (x10_1 + 1))) else (none))) = some r := H
         have A15 := Aside0.mk A150
         clear A150
         obtain ⟨y717, hy717⟩ : ∃ y_ : List (S71), y_ = (([(⟨t713, t714⟩ : S71), (⟨t715, t716⟩ : S71)] : List (S71))) := ⟨_, rfl⟩
         replace H : (if x5_1.length + y717.length < 4398046511104 then (txn_set.l0 k1 l1 (x5_1 ++ y717) l0 (l0.length : Int) (wrap64 (x10_1 + 1))) else (none)) = some r := by first | (rw [hy717]; with_reducible exact H) | (have H2_ := (Option.bind_some _ _).symm.trans H; rw [hy717]; with_reducible exact H2_) | (have H2_ := (Option.bind_some _ _).symm.trans H; with_reducible exact H2_) | with_reducible exact H | (rw [hy717]; exact H) | exact H
         have Ny717 := Aside0.mk hy717
         clear hy717
         by_cases c16 : x5_1.length + y717.length < 4398046511104
         ·rw [if_pos c16] at H
          have LMc16 := Aside0.mk c16
          clear c16
          obtain ⟨y720, hy720⟩ : ∃ y_ : List (S71), y_ = (x5_1 ++ y717) := ⟨_, rfl⟩
          replace H : (txn_set.l0 k1 l1 y720 l0 (l0.length : Int) (wrap64 (x10_1 + 1))) = some r := by first | (rw [hy720]; with_reducible exact H) | (have H2_ := (Option.bind_some _ _).symm.trans H; rw [hy720]; with_reducible exact H2_) | (have H2_ := (Option.bind_some _ _).symm.trans H; with_reducible exact H2_) | with_reducible exact H | (rw [hy720]; exact H) | exact H
          have Ny720 := Aside0.mk hy720
          clear hy720
          have H' := Aside0.mk H
          clear H
          have p707 : 0 ≤ (x10_1 : Int) := of_decide_eq_true (by first | (with_reducible assumption) | assumption)
          have q707 : x10_1 < (l0.length : Int) := of_decide_eq_true (by first | (with_reducible assumption) | assumption)
          obtain ⟨ad707, e707, hx707_0, hx707_1, hx707_2, hx707_3⟩ := at_T63 HR0.out x10_1 p707 q707
          cases e707
          replace hx707_0 := (HB.out.cell (World.block_lt_of_cell? w _ hx707_0)).trans hx707_0
          replace hx707_1 := (HB.out.cell (World.block_lt_of_cell? w _ hx707_1)).trans hx707_1
          replace hx707_2 := (HB.out.cell (World.block_lt_of_cell? w _ hx707_2)).trans hx707_2
          replace hx707_3 := (HB.out.cell (World.block_lt_of_cell? w _ hx707_3)).trans hx707_3
          replace p707 := eq_true p707
          replace q707 := eq_true q707
          try go_wp2_with (first | ((with_reducible refine gate_dst (N := 7) rfl ?_); refine box_event ?hg (N := 7) ?hd (cs := #[.int .i64 0, .string (⟨#[]⟩ : ByteArray), .string (⟨#[]⟩ : ByteArray), .int .u64 0]) (t := 63) ?hr ?_; (case hd => rfl); (case hg => rfl); (case hr => first | (go_simp; done) | (go_simp; rfl)); intro gb708 hg w17 hbox hb; have n0_ := Aside0.mk (Kd.R_below (rR_ HO_5.out) hb); have n1_ := Aside0.mk (below_step bB_ hb); have n2_ := Aside0.mk (hbox); have n3_ := Aside0.mk ((by rw [hg]; exact (below_size bB_) : w.heap.size ≤ gb708)); have n4_ := Aside0.mk ((by rw [hg]; exact (below_size bB_) : w.heap.size ≤ gb708)); clear HO_5; clear HB; have HO_5 := n0_; have HB := n1_; have BK708 := n2_; have GW708 := n3_; have GE708 := n4_; clear n0_ n1_ n2_ n3_ n4_; clear hb hbox hg; have hcz18_0 : w17.cell? ⟨gb708, 0, none⟩ = some (.int .i64 0) := (blk_cell BK708.out 0).trans rfl; have hcz18_1 : w17.cell? ⟨gb708, 1, none⟩ = some (.string (⟨#[]⟩ : ByteArray)) := (blk_cell BK708.out 1).trans rfl; have hcz18_2 : w17.cell? ⟨gb708, 2, none⟩ = some (.string (⟨#[]⟩ : ByteArray)) := (blk_cell BK708.out 2).trans rfl; have hcz18_3 : w17.cell? ⟨gb708, 3, none⟩ = some (.int .u64 0) := (blk_cell BK708.out 3).trans rfl; have hfz18_0 := blk_frozen BK708.out 0; have hfz18_1 := blk_frozen BK708.out 1; have hfz18_2 := blk_frozen BK708.out 2; have hfz18_3 := blk_frozen BK708.out 3) | ((with_reducible refine gate_callee (f := 129) rfl ?_); refine goesL_ (some 24) rfl rfl Tryz.func129 (by kernel_rfl) rfl #[.slice A1 l1.length c1, .int .i64 ((rd_T63 l0 x10_1).f0)] rfl (by (try simp only [List.map_toArray, List.map_cons, List.map_nil]); first | done | rfl | (simp only [List.length_drop, List.length_take]; rfl)) ?_; (with_reducible refine (slices_Contains_int_int.calls k1 _ _ l1 ((rd_T63 l0 x10_1).f0) true _ ?side1 ?side2 A6.out).mono ?_); (case side1 => exact Kd.C_below HR1.out (by repeat (first | (with_reducible first | exact HB.out | apply below_alloc | apply pw_below_drewN | apply below_drew1 | refine below_set ?_ GE708.out) | exact HB.out))); (case side2 => exact HC1.out); rintro e w' ⟨rfl, ⟨nd, rfl⟩⟩; refine ⟨_, rfl, ?_⟩))
          have n0_ : Aside0 (Kd.R k71 71 ((((w17.setCell ⟨gb708, 0, none⟩ (.int .i64 ((rd_T63 l0 x10_1).f0))).setCell ⟨gb708, 1, none⟩ (.string ((rd_T63 l0 x10_1).f1))).setCell ⟨gb708, 2, none⟩ (.string ((rd_T63 l0 x10_1).f2))).setCell ⟨gb708, 3, none⟩ (.int .u64 ((rd_T63 l0 x10_1).f3))) w.heap.size (fun _ => True) u5 x5_1) := ⟨by (with_reducible repeat (first | apply Kd.R_alloc | apply Kd.R_drewN | apply Kd.R_drew)); exact Kd.R_mono (Kd.R_far (p := ⟨gb708, 3, none⟩) (Kd.R_far (p := ⟨gb708, 2, none⟩) (Kd.R_far (p := ⟨gb708, 1, none⟩) (Kd.R_far (p := ⟨gb708, 0, none⟩) (Kd.R_types HO_5.out BK708.out (by decide)) (fun _ hk => hk.2) (.int .i64 ((rd_T63 l0 x10_1).f0))) (fun _ hk => hk.2) (.string ((rd_T63 l0 x10_1).f1))) (fun _ hk => hk.2) (.string ((rd_T63 l0 x10_1).f2))) (fun _ hk => hk.2) (.int .u64 ((rd_T63 l0 x10_1).f3))) (fun _ hk => trivial)⟩
          have n1_ : Aside0 (((((w17.setCell ⟨gb708, 0, none⟩ (.int .i64 ((rd_T63 l0 x10_1).f0))).setCell ⟨gb708, 1, none⟩ (.string ((rd_T63 l0 x10_1).f1))).setCell ⟨gb708, 2, none⟩ (.string ((rd_T63 l0 x10_1).f2))).setCell ⟨gb708, 3, none⟩ (.int .u64 ((rd_T63 l0 x10_1).f3))).heap[gb708]? = some (.cells #[.int .i64 ((rd_T63 l0 x10_1).f0), .string ((rd_T63 l0 x10_1).f1), .string ((rd_T63 l0 x10_1).f2), .int .u64 ((rd_T63 l0 x10_1).f3)] 63 (0, 0))) := ⟨by (with_reducible repeat (first | refine blk_drewN ?_ _ | refine blk_drew ?_ | refine blk_alloc ?_ _)); refine blk_put (cs := #[.int .i64 ((rd_T63 l0 x10_1).f0), .string ((rd_T63 l0 x10_1).f1), .string ((rd_T63 l0 x10_1).f2), .int .u64 0]) ?_ 3 _ rfl; (with_reducible repeat (first | refine blk_drewN ?_ _ | refine blk_drew ?_ | refine blk_alloc ?_ _)); refine blk_put (cs := #[.int .i64 ((rd_T63 l0 x10_1).f0), .string ((rd_T63 l0 x10_1).f1), .string (⟨#[]⟩ : ByteArray), .int .u64 0]) ?_ 2 _ rfl; (with_reducible repeat (first | refine blk_drewN ?_ _ | refine blk_drew ?_ | refine blk_alloc ?_ _)); refine blk_put (cs := #[.int .i64 ((rd_T63 l0 x10_1).f0), .string (⟨#[]⟩ : ByteArray), .string (⟨#[]⟩ : ByteArray), .int .u64 0]) ?_ 1 _ rfl; (with_reducible repeat (first | refine blk_drewN ?_ _ | refine blk_drew ?_ | refine blk_alloc ?_ _)); refine blk_put (cs := #[.int .i64 0, .string (⟨#[]⟩ : ByteArray), .string (⟨#[]⟩ : ByteArray), .int .u64 0]) ?_ 0 _ rfl; (with_reducible repeat (first | refine blk_drewN ?_ _ | refine blk_drew ?_ | refine blk_alloc ?_ _)); exact BK708.out⟩
          have n2_ : Aside0 (Below w.heap.size w ((((w17.setCell ⟨gb708, 0, none⟩ (.int .i64 ((rd_T63 l0 x10_1).f0))).setCell ⟨gb708, 1, none⟩ (.string ((rd_T63 l0 x10_1).f1))).setCell ⟨gb708, 2, none⟩ (.string ((rd_T63 l0 x10_1).f2))).setCell ⟨gb708, 3, none⟩ (.int .u64 ((rd_T63 l0 x10_1).f3)))) := ⟨by repeat (first | (with_reducible first | exact HB.out | apply below_alloc | apply pw_below_drewN | apply below_drew1 | refine below_set ?_ GE708.out) | exact HB.out)⟩
          (try clear HO_5)
          (try clear BK708)
          (try clear HB)
          generalize ((((w17.setCell ⟨gb708, 0, none⟩ (.int .i64 ((rd_T63 l0 x10_1).f0))).setCell ⟨gb708, 1, none⟩ (.string ((rd_T63 l0 x10_1).f1))).setCell ⟨gb708, 2, none⟩ (.string ((rd_T63 l0 x10_1).f2))).setCell ⟨gb708, 3, none⟩ (.int .u64 ((rd_T63 l0 x10_1).f3))) = w19 at n0_ n1_ n2_ ⊢
          have HO_5 := n0_
          have BK708 := n1_
          have HB := n2_
          clear n0_ n1_ n2_
          (try (rw [drewN_self w19]; generalize hq_ : World.drewN w19 _ = w19; have n0_ : Aside0 (Kd.R k71 71 w19 w.heap.size (fun _ => True) u5 x5_1) := ⟨by rw [← hq_]; exact (rR_ HO_5.out)⟩; have n1_ : Aside0 (w19.heap[gb708]? = some (.cells #[.int .i64 ((rd_T63 l0 x10_1).f0), .string ((rd_T63 l0 x10_1).f1), .string ((rd_T63 l0 x10_1).f2), .int .u64 ((rd_T63 l0 x10_1).f3)] 63 (0, 0))) := ⟨by rw [← hq_]; exact (by (with_reducible repeat (first | refine blk_drewN ?_ _ | refine blk_drew ?_ | refine blk_alloc ?_ _)); exact BK708.out)⟩; have n2_ : Aside0 (Below w.heap.size w w19) := ⟨by rw [← hq_]; exact (by repeat (first | (with_reducible first | exact HB.out | apply below_alloc | apply pw_below_drewN | apply below_drew1 | refine below_set ?_ GE708.out) | exact HB.out))⟩; clear HO_5 BK708 HB hq_; have HO_5 := n0_; have BK708 := n1_; have HB := n2_; clear n0_ n1_ n2_))
          have n0_ := Aside0.mk (Kd.R_drew HO_5.out)
          have n1_ := Aside0.mk (blk_drew BK708.out)
          have n2_ := Aside0.mk (below_drew1 HB.out)
          clear HO_5
          clear BK708
          clear HB
          have HO_5 := n0_
          have BK708 := n1_
          have HB := n2_
          clear n0_ n1_ n2_
          refine start_ (n := 10) (S := fun w' => w'.cell? ⟨gb708, 0, none⟩ = some (.int .i64 ((rd_T63 l0 x10_1).f0)) ∧ w'.cell? ⟨gb708, 1, none⟩ = some (.string ((rd_T63 l0 x10_1).f1)) ∧ w'.cell? ⟨gb708, 2, none⟩ = some (.string ((rd_T63 l0 x10_1).f2)) ∧ w'.cell? ⟨gb708, 3, none⟩ = some (.int .u64 ((rd_T63 l0 x10_1).f3))) (ds := []) #[false,false,false,false,false,false,false,false,false,false] (by kernel_rfl) rfl rfl ⟨(blk_cell BK708.out 0).trans rfl, (blk_cell BK708.out 1).trans rfl, (blk_cell BK708.out 2).trans rfl, (blk_cell BK708.out 3).trans rfl⟩ (fun hHeld => ?_); refine with_tabW txn_set.tab10 txn_set.bits10 (fun HT_ HW_ => ?_)
          generalize w19.drew = w20 at HO_5 BK708 HB hHeld ⊢
          refine pu_ 0 42 ?_
          refine pu_ 1 43 ?_
          refine pu_ 4 46 ?_
          refine ta_ 2 44 hHeld ?_
          refine ta_ 5 47 hHeld ?_
          refine one_ (i := 3) (N := some 45) #[true,true,true,true,true,true,false,false,false,false] rfl rfl (one_of HT_.out (by kernel_rfl)) (by decide) (fun K hK => ?_)
          refine goes_ Tryz.func130 (by kernel_rfl) rfl #[.string ((rd_T63 l0 x10_1).f1)] (by rfl) rfl rfl (by (try simp only [List.map_toArray, List.map_cons, List.map_nil]); first | done | rfl | (simp only [List.length_drop, List.length_take]; rfl)) ?_
          with_reducible refine (span_Point.calls ((rd_T63 l0 x10_1).f1) t713 t714 _ A14.out).mono ?_
          rintro e w21 ⟨rfl, hb⟩
          refine ⟨_, rfl, ?_⟩
          have n0_ := Aside0.mk (Kd.R_below (rR_ HO_5.out) hb)
          have n1_ := Aside0.mk (blk_below (g := gb708) (o := .cells #[.int .i64 ((rd_T63 l0 x10_1).f0), .string ((rd_T63 l0 x10_1).f1), .string ((rd_T63 l0 x10_1).f2), .int .u64 ((rd_T63 l0 x10_1).f3)] 63 (0, 0)) (by (with_reducible repeat (first | refine blk_drewN ?_ _ | refine blk_drew ?_ | refine blk_alloc ?_ _)); exact BK708.out) hb)
          have n2_ := Aside0.mk (below_step (by repeat (first | (with_reducible first | exact HB.out | apply below_alloc | apply pw_below_drewN | apply below_drew1 | refine below_set ?_ GE708.out) | exact HB.out)) hb)
          clear HO_5
          clear BK708
          clear HB
          have HO_5 := n0_
          have BK708 := n1_
          have HB := n2_
          clear n0_ n1_ n2_
          (try clear hb)
          (try clear hb2)
          (try clear hk)
          (try clear hi)
          refine hK.out _ _ ⟨(blk_cell BK708.out 0).trans rfl, (blk_cell BK708.out 1).trans rfl, (blk_cell BK708.out 2).trans rfl, (blk_cell BK708.out 3).trans rfl⟩ (fun hHeld => ?_)
          clear hK K
          refine norm_ (a' := ?_) ?_ ?_
          rotate_left
          ·show Act.put _ (some 45) _ = _
           simp only [Act.put, List.setIfInBounds_toArray, List.set_cons_zero, List.set_cons_succ, i64_w, i32_w]
           rfl
          refine one_ (i := 6) (N := some 48) #[true,true,true,true,true,true,true,false,false,false] rfl rfl (one_of HT_.out (by kernel_rfl)) (by decide) (fun K hK => ?_)
          refine goes_ Tryz.func130 (by kernel_rfl) rfl #[.string ((rd_T63 l0 x10_1).f2)] (by rfl) rfl rfl (by (try simp only [List.map_toArray, List.map_cons, List.map_nil]); first | done | rfl | (simp only [List.length_drop, List.length_take]; rfl)) ?_
          with_reducible refine (span_Point.calls ((rd_T63 l0 x10_1).f2) t715 t716 _ A15.out).mono ?_
          rintro e w22 ⟨rfl, hb⟩
          refine ⟨_, rfl, ?_⟩
          have n0_ := Aside0.mk (Kd.R_below (rR_ HO_5.out) hb)
          have n1_ := Aside0.mk (blk_below (g := gb708) (o := .cells #[.int .i64 ((rd_T63 l0 x10_1).f0), .string ((rd_T63 l0 x10_1).f1), .string ((rd_T63 l0 x10_1).f2), .int .u64 ((rd_T63 l0 x10_1).f3)] 63 (0, 0)) (by (with_reducible repeat (first | refine blk_drewN ?_ _ | refine blk_drew ?_ | refine blk_alloc ?_ _)); exact BK708.out) hb)
          have n2_ := Aside0.mk (below_step (by repeat (first | (with_reducible first | exact HB.out | apply below_alloc | apply pw_below_drewN | apply below_drew1 | refine below_set ?_ GE708.out) | exact HB.out)) hb)
          clear HO_5
          clear BK708
          clear HB
          have HO_5 := n0_
          have BK708 := n1_
          have HB := n2_
          clear n0_ n1_ n2_
          (try clear hb)
          (try clear hb2)
          (try clear hk)
          (try clear hi)
          refine hK.out _ _ ⟨(blk_cell BK708.out 0).trans rfl, (blk_cell BK708.out 1).trans rfl, (blk_cell BK708.out 2).trans rfl, (blk_cell BK708.out 3).trans rfl⟩ (fun hHeld => ?_)
          clear hK K
          refine norm_ (a' := ?_) ?_ ?_
          rotate_left
          ·show Act.put _ (some 48) _ = _
           simp only [Act.put, List.setIfInBounds_toArray, List.set_cons_zero, List.set_cons_succ, i64_w, i32_w]
           rfl
          refine one_ (i := 7) (N := some 49) #[true,true,true,true,true,true,true,true,false,false] rfl rfl (one_of HT_.out (by kernel_rfl)) (by decide) (fun K hK => ?_)
          refine Kd.R_lit_step k71 _ 71 ?hg (N := 49) ?hd (xs := ([(⟨t713, t714⟩ : S71), (⟨t715, t716⟩ : S71)] : List (S71))) (inner := [.string t713, .string t714, .string t715, .string t716]) (ok := fun _ => True) (okp := fun _ => True) ?hr ?hp (fun _ hk => hk) trivial (Below.refl _ _) (Nat.le_refl _) (by simp) ?_; (case hd => rfl); (case hg => rfl); (case hr => first | (go_simp; done) | (go_simp; rfl)); (case hp => exact (Reps.c2 (show Kd.M k71 _ _ _ (⟨t713, t714⟩ : S71) [.string t713, .string t714] from (k71_mkM _ _ _ (⟨t713, t714⟩ : S71) )) (Reps.c2 (show Kd.M k71 _ _ _ (⟨t715, t716⟩ : S71) [.string t715, .string t716] from (k71_mkM _ _ _ (⟨t715, t716⟩ : S71) )) (Reps.none _ _))))
          intro v718 w23 ho24 hb hg_ hnew_
          clear hg_ hnew_
          (first | rw [← Ny717.out] at ho24 | (simp only [Int.reduceToNat] at ho24; rw [← Ny717.out] at ho24))
          have n0_ := Aside0.mk (Kd.R_elder' (rR_ HO_5.out) (Kd.R_base ho24) hb)
          have n1_ := Aside0.mk (Kd.R_lower (Kd.R_new' ho24 (Kd.R_lt (rR_ HO_5.out))) (below_size (by repeat (first | (with_reducible first | exact HB.out | apply below_alloc | apply pw_below_drewN | apply below_drew1 | refine below_set ?_ GE708.out) | exact HB.out))))
          have n2_ := Aside0.mk (blk_below (g := gb708) (o := .cells #[.int .i64 ((rd_T63 l0 x10_1).f0), .string ((rd_T63 l0 x10_1).f1), .string ((rd_T63 l0 x10_1).f2), .int .u64 ((rd_T63 l0 x10_1).f3)] 63 (0, 0)) (by (with_reducible repeat (first | refine blk_drewN ?_ _ | refine blk_drew ?_ | refine blk_alloc ?_ _)); exact BK708.out) hb)
          have n3_ := Aside0.mk (below_step (by repeat (first | (with_reducible first | exact HB.out | apply below_alloc | apply pw_below_drewN | apply below_drew1 | refine below_set ?_ GE708.out) | exact HB.out)) hb)
          clear HO_5
          clear BK708
          clear HB
          have HO_5 := n0_
          have HO719 := n1_
          have BK708 := n2_
          have HB := n3_
          clear n0_ n1_ n2_ n3_
          clear hb ho24
          obtain ⟨Ao26, co26, eo26⟩ := Kd.R_slice HO719.out
          (first | subst eo26 | (injection eo26 with f1_ f2_ f3_; have f4_ := f1_.symm; have f5_ := f3_.symm; clear f1_ f2_ f3_; subst f4_; subst f5_))
          refine hK.out _ _ ⟨(blk_cell BK708.out 0).trans rfl, (blk_cell BK708.out 1).trans rfl, (blk_cell BK708.out 2).trans rfl, (blk_cell BK708.out 3).trans rfl⟩ (fun hHeld => ?_)
          clear hK K
          refine norm_ (a' := ?_) ?_ ?_
          rotate_left
          ·show Act.put _ (some 49) _ = _
           simp only [Act.put, List.setIfInBounds_toArray, List.set_cons_zero, List.set_cons_succ, i64_w, i32_w]
           rfl
          refine one_ (i := 8) (N := some 50) #[true,true,true,true,true,true,true,true,true,false] rfl rfl (one_of HT_.out (by kernel_rfl)) (by decide) (fun K hK => ?_)
          refine Kd.R_append_rows_step k71 (w0 := w) w.heap.size (by rfl) (.tmp 42) (.tmp 49) 40 71 (.agg #[(.string ⟨#[]⟩), (.string ⟨#[]⟩)]) 32 rfl Tryz.underlying40 info71 rfl (by decide) (by omega) u5 x5_1 y717 _ _ _ (fun k_ => some k_ ≠ (.slice Ao26 y717.length co26 : Value).ownBlock) (fun _ => False) rfl rfl ?aO ?aR (fun _ _ h => h) (fun _ h => h.elim) ?aF ?aB ?aS ?aL ?_
          (case aR => repeat (first | exact (Kd.R_reads' HO719.out).2.2 | (with_reducible refine Kd.C_alloc ?_ _) | (with_reducible refine Kd.C_drewN ?_ _) | (with_reducible refine Kd.C_drew ?_)))
          (case aB => exact (by repeat (first | (with_reducible first | exact HB.out | apply below_alloc | apply pw_below_drewN | apply below_drew1 | refine below_set ?_ GE708.out) | exact HB.out)))
          (case aF => exact (fun k_ hk => Kd.fresh' (Kd.R_lt (rR_ HO719.out)) k_ hk))
          (case aO => exact (by (with_reducible repeat (first | apply Kd.R_alloc | apply Kd.R_drewN | apply Kd.R_drew)); exact Kd.R_mono HO_5.out (fun _ hk => hk.2)))
          (case aS => exact (below_size (by repeat (first | (with_reducible first | exact HB.out | apply below_alloc | apply pw_below_drewN | apply below_drew1 | refine below_set ?_ GE708.out) | exact HB.out))))
          (case aL => have := LMc16.out; omega)
          intro v721 w25 ho hb hg hat
          rw [← Ny720.out] at ho
          have n0_ := Aside0.mk (blk_grown (g := gb708) (o := .cells #[.int .i64 ((rd_T63 l0 x10_1).f0), .string ((rd_T63 l0 x10_1).f1), .string ((rd_T63 l0 x10_1).f2), .int .u64 ((rd_T63 l0 x10_1).f3)] 63 (0, 0)) (by (with_reducible repeat (first | refine blk_drewN ?_ _ | refine blk_drew ?_ | refine blk_alloc ?_ _)); exact BK708.out) hg (Kd.R_ne HO_5.out BK708.out (by decide)))
          have n1_ := Aside0.mk (Kd.R_after (ok := (fun _ => True)) (rR_ HO719.out) hg hat)
          have n2_ := Aside0.mk (hb)
          have n3_ := Aside0.mk (ho)
          clear BK708
          clear HO719
          clear HB
          clear HO_5
          have BK708 := n0_
          have HO719 := n1_
          have HB := n2_
          have HO722 := n3_
          clear n0_ n1_ n2_ n3_
          clear ho hb hg hat
          refine hK.out _ _ ⟨(blk_cell BK708.out 0).trans rfl, (blk_cell BK708.out 1).trans rfl, (blk_cell BK708.out 2).trans rfl, (blk_cell BK708.out 3).trans rfl⟩ (fun hHeld => ?_)
          clear hK K
          refine norm_ (a' := ?_) ?_ ?_
          rotate_left
          ·show Act.put _ (some 50) _ = _
           simp only [Act.put, List.setIfInBounds_toArray, List.set_cons_zero, List.set_cons_succ, i64_w, i32_w]
           rfl
          refine pu_ 9 5 ?_
          refine done_ (done_of HT_.out (by kernel_rfl)) ?_
          try go_wp2
          go_roundg k1
          case measure => have := HK1.out; omega
          case rel => exact ⟨(y720), (wrap64 (x10_1 + 1)), (by first | rfl | (rw [bl_gt] <;> rfl) | (simp; done) | (simp [*]; done)), H', ⟨by have := HK1.out; omega⟩, ⟨by (with_reducible repeat (first | apply Kd.R_alloc | apply Kd.R_drewN | apply Kd.R_drew)); exact Kd.R_mono HO722.out (fun _ hk => trivial)⟩, ⟨by repeat (first | (with_reducible first | exact HB.out | apply below_alloc | apply pw_below_drewN | apply below_drew1 | refine below_set ?_ GE708.out) | exact HB.out)⟩⟩
         ·rw [if_neg c16] at H
          exact absurd H (by simp)
        ·rw [if_neg c13] at H
         have c13b0 : (((rd_T63 l0 x10_1).f0) == 6) = false := beq_eq_false_iff_ne.mpr c13
         have c13b1 : (((rd_T63 l0 x10_1).f0) != 6) = true := bne_iff_ne.mpr c13
         replace H := Option.bind_eq_some_iff.mp H
         obtain ⟨⟨t723, t724⟩, A270, H⟩ := H
         replace H : (if x5_1.length < 4398046511104 then (txn_set.l0 k1 l1 (x5_1 ++ [(⟨t723, t724⟩ : S71)]) l0 (l0.length : Int) (wrap64 (x10_1 + 1))) else (none)) = some r := H
         have A27 := Aside0.mk A270
         clear A270
         by_cases c28 : x5_1.length < 4398046511104
         ·rw [if_pos c28] at H
          have LMc28 := Aside0.mk c28
          clear c28
          obtain ⟨y725, hy725⟩ : ∃ y_ : List (S71), y_ = (x5_1 ++ [(⟨t723, t724⟩ : S71)]) := ⟨_, rfl⟩
          replace H : (txn_set.l0 k1 l1 y725 l0 (l0.length : Int) (wrap64 (x10_1 + 1))) = some r := by first | (rw [hy725]; with_reducible exact H) | (have H2_ := (Option.bind_some _ _).symm.trans H; rw [hy725]; with_reducible exact H2_) | (have H2_ := (Option.bind_some _ _).symm.trans H; with_reducible exact H2_) | with_reducible exact H | (rw [hy725]; exact H) | exact H
          have Ny725 := Aside0.mk hy725
          clear hy725
          have H' := Aside0.mk H
          clear H
          have p707 : 0 ≤ (x10_1 : Int) := of_decide_eq_true (by first | (with_reducible assumption) | assumption)
          have q707 : x10_1 < (l0.length : Int) := of_decide_eq_true (by first | (with_reducible assumption) | assumption)
          obtain ⟨ad707, e707, hx707_0, hx707_1, hx707_2, hx707_3⟩ := at_T63 HR0.out x10_1 p707 q707
          cases e707
          replace hx707_0 := (HB.out.cell (World.block_lt_of_cell? w _ hx707_0)).trans hx707_0
          replace hx707_1 := (HB.out.cell (World.block_lt_of_cell? w _ hx707_1)).trans hx707_1
          replace hx707_2 := (HB.out.cell (World.block_lt_of_cell? w _ hx707_2)).trans hx707_2
          replace hx707_3 := (HB.out.cell (World.block_lt_of_cell? w _ hx707_3)).trans hx707_3
          replace p707 := eq_true p707
          replace q707 := eq_true q707
          go_wp2_with (first | ((with_reducible refine gate_dst (N := 7) rfl ?_); refine box_event ?hg (N := 7) ?hd (cs := #[.int .i64 0, .string (⟨#[]⟩ : ByteArray), .string (⟨#[]⟩ : ByteArray), .int .u64 0]) (t := 63) ?hr ?_; (case hd => rfl); (case hg => rfl); (case hr => first | (go_simp; done) | (go_simp; rfl)); intro gb708 hg w29 hbox hb; have n0_ := Aside0.mk (Kd.R_below (rR_ HO_5.out) hb); have n1_ := Aside0.mk (below_step bB_ hb); have n2_ := Aside0.mk (hbox); have n3_ := Aside0.mk ((by rw [hg]; exact (below_size bB_) : w.heap.size ≤ gb708)); have n4_ := Aside0.mk ((by rw [hg]; exact (below_size bB_) : w.heap.size ≤ gb708)); clear HO_5; clear HB; have HO_5 := n0_; have HB := n1_; have BK708 := n2_; have GW708 := n3_; have GE708 := n4_; clear n0_ n1_ n2_ n3_ n4_; clear hb hbox hg; have hcz30_0 : w29.cell? ⟨gb708, 0, none⟩ = some (.int .i64 0) := (blk_cell BK708.out 0).trans rfl; have hcz30_1 : w29.cell? ⟨gb708, 1, none⟩ = some (.string (⟨#[]⟩ : ByteArray)) := (blk_cell BK708.out 1).trans rfl; have hcz30_2 : w29.cell? ⟨gb708, 2, none⟩ = some (.string (⟨#[]⟩ : ByteArray)) := (blk_cell BK708.out 2).trans rfl; have hcz30_3 : w29.cell? ⟨gb708, 3, none⟩ = some (.int .u64 0) := (blk_cell BK708.out 3).trans rfl; have hfz30_0 := blk_frozen BK708.out 0; have hfz30_1 := blk_frozen BK708.out 1; have hfz30_2 := blk_frozen BK708.out 2; have hfz30_3 := blk_frozen BK708.out 3) | ((with_reducible refine gate_callee (f := 129) rfl ?_); refine goesL_ (some 24) rfl rfl Tryz.func129 (by kernel_rfl) rfl #[.slice A1 l1.length c1, .int .i64 ((rd_T63 l0 x10_1).f0)] rfl (by (try simp only [List.map_toArray, List.map_cons, List.map_nil]); first | done | rfl | (simp only [List.length_drop, List.length_take]; rfl)) ?_; (with_reducible refine (slices_Contains_int_int.calls k1 _ _ l1 ((rd_T63 l0 x10_1).f0) true _ ?side1 ?side2 A6.out).mono ?_); (case side1 => exact Kd.C_below HR1.out (by repeat (first | (with_reducible first | exact HB.out | apply below_alloc | apply pw_below_drewN | apply below_drew1 | refine below_set ?_ GE708.out) | exact HB.out))); (case side2 => exact HC1.out); rintro e w' ⟨rfl, ⟨nd, rfl⟩⟩; refine ⟨_, rfl, ?_⟩) | ((with_reducible refine gate_callee (f := 130) rfl ?_); refine goesL_ (some 17) rfl rfl Tryz.func130 (by kernel_rfl) rfl #[.string ((rd_T63 l0 x10_1).f1)] rfl (by (try simp only [List.map_toArray, List.map_cons, List.map_nil]); first | done | rfl | (simp only [List.length_drop, List.length_take]; rfl)) ?_; (with_reducible refine (span_Point.calls ((rd_T63 l0 x10_1).f1) t723 t724 _ A27.out).mono ?_); rintro e w31 ⟨rfl, hb⟩; refine ⟨_, rfl, ?_⟩; have n0_ := Aside0.mk (Kd.R_below (by (with_reducible repeat (first | apply Kd.R_alloc | apply Kd.R_drewN | apply Kd.R_drew)); exact (Kd.R_mono (Kd.R_far (p := ⟨gb708, 3, none⟩) (Kd.R_far (p := ⟨gb708, 2, none⟩) (Kd.R_far (p := ⟨gb708, 1, none⟩) (Kd.R_far (p := ⟨gb708, 0, none⟩) (Kd.R_types HO_5.out BK708.out (by decide)) (fun _ hk => hk.2) (.int .i64 ((rd_T63 l0 x10_1).f0))) (fun _ hk => hk.2) (.string ((rd_T63 l0 x10_1).f1))) (fun _ hk => hk.2) (.string ((rd_T63 l0 x10_1).f2))) (fun _ hk => hk.2) (.int .u64 ((rd_T63 l0 x10_1).f3))) (fun _ h_ => h_.1))) hb); have n1_ := Aside0.mk (blk_below (g := gb708) (o := .cells #[.int .i64 ((rd_T63 l0 x10_1).f0), .string ((rd_T63 l0 x10_1).f1), .string ((rd_T63 l0 x10_1).f2), .int .u64 ((rd_T63 l0 x10_1).f3)] 63 (0, 0)) (by (with_reducible repeat (first | refine blk_drewN ?_ _ | refine blk_drew ?_ | refine blk_alloc ?_ _)); refine blk_put (cs := #[.int .i64 ((rd_T63 l0 x10_1).f0), .string ((rd_T63 l0 x10_1).f1), .string ((rd_T63 l0 x10_1).f2), .int .u64 0]) ?_ 3 _ rfl; (with_reducible repeat (first | refine blk_drewN ?_ _ | refine blk_drew ?_ | refine blk_alloc ?_ _)); refine blk_put (cs := #[.int .i64 ((rd_T63 l0 x10_1).f0), .string ((rd_T63 l0 x10_1).f1), .string (⟨#[]⟩ : ByteArray), .int .u64 0]) ?_ 2 _ rfl; (with_reducible repeat (first | refine blk_drewN ?_ _ | refine blk_drew ?_ | refine blk_alloc ?_ _)); refine blk_put (cs := #[.int .i64 ((rd_T63 l0 x10_1).f0), .string (⟨#[]⟩ : ByteArray), .string (⟨#[]⟩ : ByteArray), .int .u64 0]) ?_ 1 _ rfl; (with_reducible repeat (first | refine blk_drewN ?_ _ | refine blk_drew ?_ | refine blk_alloc ?_ _)); refine blk_put (cs := #[.int .i64 0, .string (⟨#[]⟩ : ByteArray), .string (⟨#[]⟩ : ByteArray), .int .u64 0]) ?_ 0 _ rfl; (with_reducible repeat (first | refine blk_drewN ?_ _ | refine blk_drew ?_ | refine blk_alloc ?_ _)); exact BK708.out) hb); have n2_ := Aside0.mk (below_step (by repeat (first | (with_reducible first | exact HB.out | apply below_alloc | apply pw_below_drewN | apply below_drew1 | refine below_set ?_ GE708.out) | exact HB.out)) hb); clear HO_5; clear BK708; clear HB; have HO_5 := n0_; have BK708 := n1_; have HB := n2_; clear n0_ n1_ n2_; (try clear hb); (try clear hb2); (try clear hk); (try clear hi)) | ((with_reducible refine gate_builtin (b := .append) (xs := #[.tmp 14, .tmp 18]) rfl ?_); at_builtin; refine Kd.R_append k71 (w0 := w) w.heap.size rfl (.tmp 14) (.tmp 18) 40 71 (.agg #[(.string ⟨#[]⟩), (.string ⟨#[]⟩)]) 32 rfl Tryz.underlying40 info71 rfl (by decide) (by omega) u5 x5_1 (⟨t723, t724⟩ : S71) [.string t723, .string t724] (fun _ => True) (fun _ => False) rfl rfl ?aP (fun _ hk => hk.elim) ?aF ?aO ?aB ?aS ?aL ?_; (case aP => exact k71_mkM _ _ _ (⟨t723, t724⟩ : S71)); (case aB => exact (by repeat (first | (with_reducible first | exact HB.out | apply below_alloc | apply pw_below_drewN | apply below_drew1 | refine below_set ?_ GE708.out) | exact HB.out))); (case aF => exact (fun _ _ => trivial)); (case aO => exact (rR_ HO_5.out)); (case aS => exact (below_size (by repeat (first | (with_reducible first | exact HB.out | apply below_alloc | apply pw_below_drewN | apply below_drew1 | refine below_set ?_ GE708.out) | exact HB.out)))); (case aL => have := LMc28.out; omega); intro v726 w32 ho hb hg hat; rw [← Ny725.out] at ho; have n0_ := Aside0.mk (blk_grown (g := gb708) (o := .cells #[.int .i64 ((rd_T63 l0 x10_1).f0), .string ((rd_T63 l0 x10_1).f1), .string ((rd_T63 l0 x10_1).f2), .int .u64 ((rd_T63 l0 x10_1).f3)] 63 (0, 0)) (by (with_reducible repeat (first | refine blk_drewN ?_ _ | refine blk_drew ?_ | refine blk_alloc ?_ _)); exact BK708.out) hg (Kd.R_ne HO_5.out BK708.out (by decide))); have n1_ := Aside0.mk (hb); have n2_ := Aside0.mk (ho); clear BK708; clear HB; clear HO_5; have BK708 := n0_; have HB := n1_; have HO727 := n2_; clear n0_ n1_ n2_; clear ho hb hg hat))
          go_roundg k1
          case measure => have := HK1.out; omega
          case rel => exact ⟨(y725), (wrap64 (x10_1 + 1)), (by first | rfl | (rw [bl_gt] <;> rfl) | (simp; done) | (simp [*]; done)), H', ⟨by have := HK1.out; omega⟩, ⟨rR_ HO727.out⟩, ⟨by repeat (first | (with_reducible first | exact HB.out | apply below_alloc | apply pw_below_drewN | apply below_drew1 | refine below_set ?_ GE708.out) | exact HB.out)⟩⟩
         ·rw [if_neg c28] at H
          exact absurd H (by simp)
      ·replace c7 := Bool.eq_false_iff.mpr c7
       subst c7
       have H1 : (txn_set.l0 k1 l1 x5_1 l0 (l0.length : Int) (wrap64 (x10_1 + 1))) = some r := by rw [if_neg (show ¬ (false = true) by decide)] at H; exact H
       clear H
       have H := H1
       clear H1
       have H' := Aside0.mk H
       clear H
       have p707 : 0 ≤ (x10_1 : Int) := of_decide_eq_true (by first | (with_reducible assumption) | assumption)
       have q707 : x10_1 < (l0.length : Int) := of_decide_eq_true (by first | (with_reducible assumption) | assumption)
       obtain ⟨ad707, e707, hx707_0, hx707_1, hx707_2, hx707_3⟩ := at_T63 HR0.out x10_1 p707 q707
       cases e707
       replace hx707_0 := (HB.out.cell (World.block_lt_of_cell? w _ hx707_0)).trans hx707_0
       replace hx707_1 := (HB.out.cell (World.block_lt_of_cell? w _ hx707_1)).trans hx707_1
       replace hx707_2 := (HB.out.cell (World.block_lt_of_cell? w _ hx707_2)).trans hx707_2
       replace hx707_3 := (HB.out.cell (World.block_lt_of_cell? w _ hx707_3)).trans hx707_3
       replace p707 := eq_true p707
       replace q707 := eq_true q707
       go_wp2_with (first | ((with_reducible refine gate_dst (N := 7) rfl ?_); refine box_event ?hg (N := 7) ?hd (cs := #[.int .i64 0, .string (⟨#[]⟩ : ByteArray), .string (⟨#[]⟩ : ByteArray), .int .u64 0]) (t := 63) ?hr ?_; (case hd => rfl); (case hg => rfl); (case hr => first | (go_simp; done) | (go_simp; rfl)); intro gb708 hg w33 hbox hb; have n0_ := Aside0.mk (Kd.R_below (rR_ HO_5.out) hb); have n1_ := Aside0.mk (below_step bB_ hb); have n2_ := Aside0.mk (hbox); have n3_ := Aside0.mk ((by rw [hg]; exact (below_size bB_) : w.heap.size ≤ gb708)); have n4_ := Aside0.mk ((by rw [hg]; exact (below_size bB_) : w.heap.size ≤ gb708)); clear HO_5; clear HB; have HO_5 := n0_; have HB := n1_; have BK708 := n2_; have GW708 := n3_; have GE708 := n4_; clear n0_ n1_ n2_ n3_ n4_; clear hb hbox hg; have hcz34_0 : w33.cell? ⟨gb708, 0, none⟩ = some (.int .i64 0) := (blk_cell BK708.out 0).trans rfl; have hcz34_1 : w33.cell? ⟨gb708, 1, none⟩ = some (.string (⟨#[]⟩ : ByteArray)) := (blk_cell BK708.out 1).trans rfl; have hcz34_2 : w33.cell? ⟨gb708, 2, none⟩ = some (.string (⟨#[]⟩ : ByteArray)) := (blk_cell BK708.out 2).trans rfl; have hcz34_3 : w33.cell? ⟨gb708, 3, none⟩ = some (.int .u64 0) := (blk_cell BK708.out 3).trans rfl; have hfz34_0 := blk_frozen BK708.out 0; have hfz34_1 := blk_frozen BK708.out 1; have hfz34_2 := blk_frozen BK708.out 2; have hfz34_3 := blk_frozen BK708.out 3) | ((with_reducible refine gate_callee (f := 129) rfl ?_); refine goesL_ (some 24) rfl rfl Tryz.func129 (by kernel_rfl) rfl #[.slice A1 l1.length c1, .int .i64 ((rd_T63 l0 x10_1).f0)] rfl (by (try simp only [List.map_toArray, List.map_cons, List.map_nil]); first | done | rfl | (simp only [List.length_drop, List.length_take]; rfl)) ?_; (with_reducible refine (slices_Contains_int_int.calls k1 _ _ l1 ((rd_T63 l0 x10_1).f0) false _ ?side1 ?side2 A6.out).mono ?_); (case side1 => exact Kd.C_below HR1.out (by repeat (first | (with_reducible first | exact HB.out | apply below_alloc | apply pw_below_drewN | apply below_drew1 | refine below_set ?_ GE708.out) | exact HB.out))); (case side2 => exact HC1.out); rintro e w' ⟨rfl, ⟨nd, rfl⟩⟩; refine ⟨_, rfl, ?_⟩))
       go_roundg k1
       case measure => have := HK1.out; omega
       case rel => exact ⟨(x5_1), (wrap64 (x10_1 + 1)), (by first | rfl | (rw [bl_gt] <;> rfl) | (simp; done) | (simp [*]; done)), H', ⟨by have := HK1.out; omega⟩, ⟨by (with_reducible repeat (first | apply Kd.R_alloc | apply Kd.R_drewN | apply Kd.R_drew)); exact Kd.R_mono (Kd.R_far (p := ⟨gb708, 3, none⟩) (Kd.R_far (p := ⟨gb708, 2, none⟩) (Kd.R_far (p := ⟨gb708, 1, none⟩) (Kd.R_far (p := ⟨gb708, 0, none⟩) (Kd.R_types HO_5.out BK708.out (by decide)) (fun _ hk => hk.2) (.int .i64 ((rd_T63 l0 x10_1).f0))) (fun _ hk => hk.2) (.string ((rd_T63 l0 x10_1).f1))) (fun _ hk => hk.2) (.string ((rd_T63 l0 x10_1).f2))) (fun _ hk => hk.2) (.int .u64 ((rd_T63 l0 x10_1).f3))) (fun _ hk => trivial)⟩, ⟨by repeat (first | (with_reducible first | exact HB.out | apply below_alloc | apply pw_below_drewN | apply below_drew1 | refine below_set ?_ GE708.out) | exact HB.out)⟩⟩
     ·rw [if_neg c5] at H
      exact absurd H (by simp)
    ·rw [if_neg c4] at H
     exact absurd H (by simp)
   ·rw [if_neg c3] at H
    have c3b0 : decide (x10_1 < (l0.length : Int)) = false := decide_eq_false c3
    clear c3
    replace H := Option.bind_eq_some_iff.mp H
    obtain ⟨t704, A350, H⟩ := H
    replace H : (some t704) = some r := H
    have A35 := Aside0.mk A350
    clear A350
    obtain rfl := Option.some.inj H
    obtain ⟨Ao36, co36, eo36⟩ := Kd.R_slice HO_5.out
    subst eo36
    go_wp2_with (first | ((with_reducible refine gate_callee (f := 88) rfl ?_); refine goesL_ (some 53) rfl rfl Tryz.func88 (by kernel_rfl) rfl #[.slice Ao36 x5_1.length co36] rfl (by (try simp only [List.map_toArray, List.map_cons, List.map_nil]); first | done | rfl | (simp only [List.length_drop, List.length_take]; rfl)) ?_; (with_reducible refine (span_Union.calls _ _ x5_1 t704 _ ?side1 ?side2 A35.out).mono ?_); (case side1 => repeat (first | exact (Kd.R_reads' HO_5.out).2.2 | (with_reducible refine Kd.C_alloc ?_ _) | (with_reducible refine Kd.C_drewN ?_ _) | (with_reducible refine Kd.C_drew ?_))); (case side2 => exact (Kd.R_reads' HO_5.out).2.1); rintro e w37 ⟨v705, rfl, ho0, hb⟩; refine ⟨_, rfl, ?_⟩; have n0_ := Aside0.mk (Kd.R_elder' (rR_ HO_5.out) (Kd.R_base ho0) hb); have n1_ := Aside0.mk (Kd.R_lower (Kd.R_new' ho0 (Kd.R_lt (rR_ HO_5.out))) (below_size bB_)); have n2_ := Aside0.mk (below_step bB_ hb); clear HO_5; clear HB; have HO_5 := n0_; have HO706 := n1_; have HB := n2_; clear n0_ n1_ n2_; (try clear hb); (try clear hb2); (try clear hk); (try clear hi); (try clear ho0)))
    go_ret
    exact ⟨_, by first | rfl | (rw [bl_gt] <;> rfl) | (simp [errW_none, errW_some] <;> rfl) | (simp [*, errW_none, errW_some] <;> rfl), by (with_reducible repeat (first | apply Kd.R_alloc | apply Kd.R_drewN | apply Kd.R_drew)); exact Kd.R_mono HO706.out (fun _ hk => trivial), bB_⟩
end Go.Proofs.YtgmlenpcchhmbaaGreat.P
end
section
set_option linter.unusedVariables false
set_option linter.unusedSimpArgs false
namespace Go.Proofs.YtgmlenpcchhmbaaGreat.P
open Go.RowKit Go.Proofs.YtgmlenpcchhmbaaGreatW.PrintWords Go.Proofs.YtgmlenpcchhmbaaGreatW.PrintLast
theorem index_l0 (ks : List Int) (x : Int) (hl : ks.length ≤ 100) : ∀ (m i : Nat), i + m = ks.length → Ev (fun k => slices_Index_int_int.l0 k ks x (ks.length : Int) (i : Int)) (if (ks.drop i).contains x = true then ((i + (ks.drop i).idxOf x : Nat) : Int) else -1)
  | 0, i, h => by
    refine Ev.succ ?_
    simp only [slices_Index_int_int.l0]
    rw [List.drop_of_length_le (by omega)]
    exact Ev.no (by omega) (Ev.some _)
  | m + 1, i, h => by
    have hi : i < ks.length := by omega
    have hrd : rd ks (i : Int) = ks[i] := by unfold rd; rw [Int.toNat_natCast, List.getD_eq_getElem?_getD, List.getElem?_eq_getElem hi]; rfl
    have hd : ks.drop i = ks[i] :: ks.drop (i + 1) := (List.drop_eq_getElem_cons hi)
    refine Ev.succ ?_
    simp only [slices_Index_int_int.l0]
    rw [w64_succ (by omega), hrd, hd]
    refine Ev.yes (by omega) (Ev.yes (by omega) (Ev.yes (by omega) (Ev.cond (fun e => ?_) (fun e => ?_))))
    · subst e
      rw [if_pos (by rw [List.contains_cons]; simp), List.idxOf_cons_self]
      exact Ev.some _
    · have ih := index_l0 ks x hl m (i + 1) (by omega)
      refine Ev.eq ih ?_
      have e2 : ¬ ks[i] = x := fun h => e h.symm
      have e3 : (ks[i] :: ks.drop (i + 1)).contains x = (ks.drop (i + 1)).contains x := by rw [List.contains_cons, beq_eq_false_iff_ne.2 e, Bool.false_or]
      have e4 : (ks[i] :: ks.drop (i + 1)).idxOf x = (ks.drop (i + 1)).idxOf x + 1 := by rw [List.idxOf_cons, beq_eq_false_iff_ne.2 e2]; rfl
      rw [e3, e4]
      split
      · omega
      · rfl
theorem ev_contains (ks : List Int) (x : Int) (hl : ks.length ≤ 100) : Ev (fun k => slices_Contains_int_int.f k ks x) (ks.contains x) := by
  unfold slices_Contains_int_int.f slices_Index_int_int.f
  refine Ev.bind (index_l0 ks x hl ks.length 0 (by omega)) ?_
  rw [List.drop_zero]
  by_cases h : ks.contains x = true
  · rw [if_pos h, h]
    have e : decide (((0 + ks.idxOf x : Nat) : Int) ≥ 0) = true := decide_eq_true (by omega)
    rw [e]; exact Ev.some _
  · rw [if_neg h, Bool.eq_false_iff.2 h]
    exact Ev.some _
theorem setSp_snoc (ks : List Int) (l : List S63) {i : Nat} (hi : i < l.length) : setSp ks (l.take (i + 1)) = setSp ks (l.take i) ++ (if ks.contains l[i].f0 = true then spO l[i] else []) := by
  rw [(List.take_append_getElem hi).symm]
  unfold setSp
  rw [List.filter_append, List.flatMap_append]
  congr 1
  by_cases h : ks.contains l[i].f0 = true
  · rw [if_pos h, List.filter_cons, if_pos h]; simp
  · rw [if_neg h, List.filter_cons, if_neg h]; simp
theorem spO_len (o : S63) : (spO o).length ≤ 2 := by
  unfold spO
  repeat' split
  all_goals simp
theorem setSp_len (ks : List Int) : ∀ (l : List S63) (i : Nat), i ≤ l.length → (setSp ks (l.take i)).length ≤ 2 * i
  | l, 0, _ => by simp [setSp]
  | l, i + 1, h => by
    rw [setSp_snoc ks l (by omega), List.length_append]
    have := setSp_len ks l i (by omega)
    have := spO_len l[i]
    split <;> simp <;> omega
theorem point_f (k : ByteArray) (h : k.size ≤ 16) : span_Point.f k = some ((ptS k).f0, (ptS k).f1) := by
  unfold span_Point.f
  rw [if_pos (by omega)]; rfl
theorem set_l0 (ks : List Int) (hk : ks.length ≤ 100) (l : List S63) (hl : l.length ≤ 8) (hs : ∀ o ∈ l, o.f1.size ≤ 16 ∧ o.f2.size ≤ 16) : ∀ (m i : Nat), i + m = l.length → Ev (fun k => txn_set.l0 k ks (setSp ks (l.take i)) l (l.length : Int) (i : Int)) (unionT (setSp ks l))
  | 0, i, h => by
    have hlen := setSp_len ks l l.length (Nat.le_refl _)
    rw [List.take_length] at hlen
    refine Ev.succ ?_
    simp only [txn_set.l0]
    rw [List.take_of_length_le (by omega)]
    refine Ev.no (by omega) (Ev.bind1 (r := unionT (setSp ks l)) ?_ (Ev.some _))
    unfold span_Union.f
    rw [if_pos (by omega)]
  | m + 1, i, h => by
    have hi : i < l.length := by omega
    have hrd : rd_T63 l (i : Int) = l[i] := by unfold rd_T63; rw [Int.toNat_natCast, List.getD_eq_getElem?_getD, List.getElem?_eq_getElem hi]; rfl
    have ih := set_l0 ks hk l hl hs m (i + 1) (by omega)
    rw [setSp_snoc ks l hi] at ih
    have hlen := setSp_len ks l i (by omega)
    obtain ⟨z1, z2⟩ := hs l[i] (List.getElem_mem hi)
    refine Ev.succ ?_
    simp only [txn_set.l0]
    rw [w64_succ (by omega), hrd]
    refine Ev.yes (by omega) (Ev.yes (by omega) (Ev.yes (by omega) (Ev.bind (ev_contains ks _ hk) (Ev.cond (fun hc => ?_) (fun hc => ?_)))))
    · rw [if_pos hc] at ih
      unfold spO at ih
      refine Ev.cond (fun h2 => ?_) (fun h2 => Ev.cond (fun h6 => ?_) (fun h6 => ?_))
      · rw [if_pos h2] at ih
        exact Ev.yes (by omega) ih
      · rw [if_neg h2, if_pos h6] at ih
        exact Ev.bind1 (point_f _ z1) (Ev.bind1 (point_f _ z2) (Ev.bind1 rfl (Ev.yes (by simp; omega) ih)))
      · rw [if_neg h2, if_neg h6] at ih
        exact Ev.bind1 (point_f _ z1) (Ev.yes (by omega) ih)
    · rw [if_neg hc, List.append_nil] at ih
      exact ih
theorem ev_set (ks : List Int) (hk : ks.length ≤ 100) (l : List S63) (hl : l.length ≤ 8) (hs : ∀ o ∈ l, o.f1.size ≤ 16 ∧ o.f2.size ≤ 16) : Ev (fun k => txn_set.f k l ks) (unionT (setSp ks l)) := by
  unfold txn_set.f
  exact set_l0 ks hk l hl hs l.length 0 (by omega)
end Go.Proofs.YtgmlenpcchhmbaaGreat.P
end
section
set_option linter.unusedVariables false
set_option linter.unusedSimpArgs false
namespace Go.Proofs.YtgmlenpcchhmbaaGreat.P
open Go.RowKit Go.Proofs.YtgmlenpcchhmbaaGreatW.PrintWords Go.Proofs.YtgmlenpcchhmbaaGreatW.PrintLast Go.Proofs.YtgmlenpcchhmbaaGreatW.PrintMore
attribute [local go_sem] max2_int min2_int max_two min_two max_three min_three max_four min_four   -- for this text's walks alone
def txn_Reads.f (k : Nat) (l0 : List (S63)) : Option ((List (S71))) := (txn_set.f k l0 (([1, 2, 4, 5, 6] : List Int))).bind fun t731 => (some t731)
set_option maxHeartbeats 8000000 in
set_option maxRecDepth 100000 in
theorem txn_Reads.calls (k : Nat) (A0 : Option Addr) (c0 : Nat) (l0 : List (S63)) (r : List (S71)) (w : World) (hr0 : Kd.C k63 w A0 l0.length l0) (hc0 : l0.length ≤ c0) (h : txn_Reads.f k l0 = some r) :
  Calls Tryz.prog 38 #[.slice A0 l0.length c0] w fun e w' => ∃ v0_ : Value, e = .returned (v0_) ∧ Kd.R k71 71 w' w.heap.size (fun _ => True) v0_ r ∧ Below w.heap.size w w' := by
 have HR0 := Aside0.mk hr0
 have HC0 := Aside0.mk hc0
 clear hr0 hc0
 have HB := Aside0.mk (Below.refl w.heap.size w)
 have H : ((txn_set.f k l0 (([1, 2, 4, 5, 6] : List Int))).bind fun t731 => (some t731)) = some r := h
 clear h
 obtain ⟨y728, hy728⟩ : ∃ y_ : List Int, y_ = (([1, 2, 4, 5, 6] : List Int)) := ⟨_, rfl⟩
 replace H : ((txn_set.f k l0 y728).bind fun t731 => (some t731)) = some r := by first | (rw [hy728]; with_reducible exact H) | (have H2_ := (Option.bind_some _ _).symm.trans H; rw [hy728]; with_reducible exact H2_) | (have H2_ := (Option.bind_some _ _).symm.trans H; with_reducible exact H2_) | with_reducible exact H | (rw [hy728]; exact H) | exact H
 have Ny728 := Aside0.mk hy728
 clear hy728
 replace H := Option.bind_eq_some_iff.mp H
 obtain ⟨t731, A20, H⟩ := H
 replace H : (some t731) = some r := H
 have A2 := Aside0.mk A20
 clear A20
 obtain rfl := Option.some.inj H
 go_enter Tryz.func38, Tryz.ntmps38
 go_wp2_with (first | ((with_reducible refine gate_dst (N := 4) rfl ?_); refine Kd.R_lit (Kd.int .i64) _ 3 ?hg (N := 4) ?hd (xs := ([1, 2, 4, 5, 6] : List Int)) (inner := [.int .i64 1, .int .i64 2, .int .i64 4, .int .i64 5, .int .i64 6]) (ok := fun _ => True) (okp := fun _ => True) ?hr ?hp (fun _ hk => hk) trivial (Below.refl _ _) (Nat.le_refl _) (by simp) ?_; (case hd => rfl); (case hg => rfl); (case hr => first | (go_simp; done) | (go_simp; rfl)); (case hp => exact (Reps.one (show Kd.M (Kd.int .i64) _ _ _ 1 [.int .i64 1] from rfl) (Reps.one (show Kd.M (Kd.int .i64) _ _ _ 2 [.int .i64 2] from rfl) (Reps.one (show Kd.M (Kd.int .i64) _ _ _ 4 [.int .i64 4] from rfl) (Reps.one (show Kd.M (Kd.int .i64) _ _ _ 5 [.int .i64 5] from rfl) (Reps.one (show Kd.M (Kd.int .i64) _ _ _ 6 [.int .i64 6] from rfl) (Reps.none _ _))))))); intro v729 w3 ho4 hb hg_ hnew_; clear hg_ hnew_; (first | rw [← Ny728.out] at ho4 | (simp only [Int.reduceToNat] at ho4; rw [← Ny728.out] at ho4)); have n0_ := Aside0.mk (Kd.R_lower ho4 (below_size bB_)); have n1_ := Aside0.mk (below_step bB_ hb); clear HB; have HO730 := n0_; have HB := n1_; clear n0_ n1_; clear hb ho4; obtain ⟨Ao5, co5, eo5⟩ := Kd.R_slice HO730.out; subst eo5) | ((with_reducible refine gate_callee (f := 86) rfl ?_); refine goesL_ (some 5) rfl rfl Tryz.func86 (by kernel_rfl) rfl #[.slice A0 l0.length c0, .slice Ao5 y728.length co5] rfl (by (try simp only [List.map_toArray, List.map_cons, List.map_nil]); first | done | rfl | (simp only [List.length_drop, List.length_take]; rfl)) ?_; (with_reducible refine (txn_set.calls k _ _ l0 _ _ y728 t731 _ ?side1 ?side2 ?side3 ?side4 A2.out).mono ?_); (case side1 => repeat (first | exact (Kd.C_below HR0.out HB.out) | (with_reducible refine Kd.C_alloc ?_ _) | (with_reducible refine Kd.C_drewN ?_ _) | (with_reducible refine Kd.C_drew ?_))); (case side2 => exact HC0.out); (case side3 => repeat (first | exact (Kd.R_reads' HO730.out).2.2 | (with_reducible refine Kd.C_alloc ?_ _) | (with_reducible refine Kd.C_drewN ?_ _) | (with_reducible refine Kd.C_drew ?_))); (case side4 => exact (Kd.R_reads' HO730.out).2.1); rintro e w6 ⟨v732, rfl, ho0, hb⟩; refine ⟨_, rfl, ?_⟩; have n0_ := Aside0.mk (Kd.R_below (rR_ HO730.out) hb); have n1_ := Aside0.mk (Kd.R_lower ho0 (below_size bB_)); have n2_ := Aside0.mk (below_step bB_ hb); clear HO730; clear HB; have HO730 := n0_; have HO733 := n1_; have HB := n2_; clear n0_ n1_ n2_; (try clear hb); (try clear hb2); (try clear hk); (try clear hi); (try clear ho0)))
 go_ret
 exact ⟨_, by first | rfl | (rw [bl_gt] <;> rfl) | (simp [errW_none, errW_some] <;> rfl) | (simp [*, errW_none, errW_some] <;> rfl), by (with_reducible repeat (first | apply Kd.R_alloc | apply Kd.R_drewN | apply Kd.R_drew)); exact HO733.out, bB_⟩
end Go.Proofs.YtgmlenpcchhmbaaGreat.P
end
section
set_option linter.unusedVariables false
set_option linter.unusedSimpArgs false
namespace Go.Proofs.YtgmlenpcchhmbaaGreat.P
open Go.RowKit Go.Proofs.YtgmlenpcchhmbaaGreatW.PrintWords Go.Proofs.YtgmlenpcchhmbaaGreatW.PrintLast Go.Proofs.YtgmlenpcchhmbaaGreatW.PrintMore
attribute [local go_sem] max2_int min2_int max_two min_two max_three min_three max_four min_four   -- for this text's walks alone
def txn_Writes.f (k : Nat) (l0 : List (S63)) : Option ((List (S71))) := (txn_set.f k l0 (([3, 4, 5, 6] : List Int))).bind fun t737 => (some t737)
set_option maxHeartbeats 8000000 in
set_option maxRecDepth 100000 in
theorem txn_Writes.calls (k : Nat) (A0 : Option Addr) (c0 : Nat) (l0 : List (S63)) (r : List (S71)) (w : World) (hr0 : Kd.C k63 w A0 l0.length l0) (hc0 : l0.length ≤ c0) (h : txn_Writes.f k l0 = some r) :
  Calls Tryz.prog 39 #[.slice A0 l0.length c0] w fun e w' => ∃ v0_ : Value, e = .returned (v0_) ∧ Kd.R k71 71 w' w.heap.size (fun _ => True) v0_ r ∧ Below w.heap.size w w' := by
 have HR0 := Aside0.mk hr0
 have HC0 := Aside0.mk hc0
 clear hr0 hc0
 have HB := Aside0.mk (Below.refl w.heap.size w)
 have H : ((txn_set.f k l0 (([3, 4, 5, 6] : List Int))).bind fun t737 => (some t737)) = some r := h
 clear h
 obtain ⟨y734, hy734⟩ : ∃ y_ : List Int, y_ = (([3, 4, 5, 6] : List Int)) := ⟨_, rfl⟩
 replace H : ((txn_set.f k l0 y734).bind fun t737 => (some t737)) = some r := by first | (rw [hy734]; with_reducible exact H) | (have H2_ := (Option.bind_some _ _).symm.trans H; rw [hy734]; with_reducible exact H2_) | (have H2_ := (Option.bind_some _ _).symm.trans H; with_reducible exact H2_) | with_reducible exact H | (rw [hy734]; exact H) | exact H
 have Ny734 := Aside0.mk hy734
 clear hy734
 replace H := Option.bind_eq_some_iff.mp H
 obtain ⟨t737, A20, H⟩ := H
 replace H : (some t737) = some r := H
 have A2 := Aside0.mk A20
 clear A20
 obtain rfl := Option.some.inj H
 go_enter Tryz.func39, Tryz.ntmps39
 go_wp2_with (first | ((with_reducible refine gate_dst (N := 4) rfl ?_); refine Kd.R_lit (Kd.int .i64) _ 3 ?hg (N := 4) ?hd (xs := ([3, 4, 5, 6] : List Int)) (inner := [.int .i64 3, .int .i64 4, .int .i64 5, .int .i64 6]) (ok := fun _ => True) (okp := fun _ => True) ?hr ?hp (fun _ hk => hk) trivial (Below.refl _ _) (Nat.le_refl _) (by simp) ?_; (case hd => rfl); (case hg => rfl); (case hr => first | (go_simp; done) | (go_simp; rfl)); (case hp => exact (Reps.one (show Kd.M (Kd.int .i64) _ _ _ 3 [.int .i64 3] from rfl) (Reps.one (show Kd.M (Kd.int .i64) _ _ _ 4 [.int .i64 4] from rfl) (Reps.one (show Kd.M (Kd.int .i64) _ _ _ 5 [.int .i64 5] from rfl) (Reps.one (show Kd.M (Kd.int .i64) _ _ _ 6 [.int .i64 6] from rfl) (Reps.none _ _)))))); intro v735 w3 ho4 hb hg_ hnew_; clear hg_ hnew_; (first | rw [← Ny734.out] at ho4 | (simp only [Int.reduceToNat] at ho4; rw [← Ny734.out] at ho4)); have n0_ := Aside0.mk (Kd.R_lower ho4 (below_size bB_)); have n1_ := Aside0.mk (below_step bB_ hb); clear HB; have HO736 := n0_; have HB := n1_; clear n0_ n1_; clear hb ho4; obtain ⟨Ao5, co5, eo5⟩ := Kd.R_slice HO736.out; subst eo5) | ((with_reducible refine gate_callee (f := 86) rfl ?_); refine goesL_ (some 5) rfl rfl Tryz.func86 (by kernel_rfl) rfl #[.slice A0 l0.length c0, .slice Ao5 y734.length co5] rfl (by (try simp only [List.map_toArray, List.map_cons, List.map_nil]); first | done | rfl | (simp only [List.length_drop, List.length_take]; rfl)) ?_; (with_reducible refine (txn_set.calls k _ _ l0 _ _ y734 t737 _ ?side1 ?side2 ?side3 ?side4 A2.out).mono ?_); (case side1 => repeat (first | exact (Kd.C_below HR0.out HB.out) | (with_reducible refine Kd.C_alloc ?_ _) | (with_reducible refine Kd.C_drewN ?_ _) | (with_reducible refine Kd.C_drew ?_))); (case side2 => exact HC0.out); (case side3 => repeat (first | exact (Kd.R_reads' HO736.out).2.2 | (with_reducible refine Kd.C_alloc ?_ _) | (with_reducible refine Kd.C_drewN ?_ _) | (with_reducible refine Kd.C_drew ?_))); (case side4 => exact (Kd.R_reads' HO736.out).2.1); rintro e w6 ⟨v738, rfl, ho0, hb⟩; refine ⟨_, rfl, ?_⟩; have n0_ := Aside0.mk (Kd.R_below (rR_ HO736.out) hb); have n1_ := Aside0.mk (Kd.R_lower ho0 (below_size bB_)); have n2_ := Aside0.mk (below_step bB_ hb); clear HO736; clear HB; have HO736 := n0_; have HO739 := n1_; have HB := n2_; clear n0_ n1_ n2_; (try clear hb); (try clear hb2); (try clear hk); (try clear hi); (try clear ho0)))
 go_ret
 exact ⟨_, by first | rfl | (rw [bl_gt] <;> rfl) | (simp [errW_none, errW_some] <;> rfl) | (simp [*, errW_none, errW_some] <;> rfl), by (with_reducible repeat (first | apply Kd.R_alloc | apply Kd.R_drewN | apply Kd.R_drew)); exact HO739.out, bB_⟩
end Go.Proofs.YtgmlenpcchhmbaaGreat.P
end
section
set_option linter.unusedVariables false
set_option linter.unusedSimpArgs false
namespace Go.Proofs.YtgmlenpcchhmbaaGreat.P
open Go.RowKit Go.Proofs.YtgmlenpcchhmbaaGreatW.PrintWords Go.Proofs.YtgmlenpcchhmbaaGreatW.PrintLast Go.Proofs.YtgmlenpcchhmbaaGreatW.PrintMore
attribute [local go_sem] max2_int min2_int max_two min_two max_three min_three max_four min_four   -- for this text's walks alone
end Go.Proofs.YtgmlenpcchhmbaaGreat.P
end
section
set_option linter.unusedVariables false
set_option linter.unusedSimpArgs false
namespace Go.Proofs.YtgmlenpcchhmbaaGreat.P
open Go.RowKit Go.Proofs.YtgmlenpcchhmbaaGreatW.PrintWords Go.Proofs.YtgmlenpcchhmbaaGreatW.PrintLast
theorem hasSs_unionT (l : List S71) (k : ByteArray) : hasSs (unionT l) k = hasSs l k := by
  have hpm : ((l.filter fun x => !emptyS x).mergeSort fun x y => !klt y.f0 x.f0).Perm (l.filter fun x => !emptyS x) := List.mergeSort_perm _ _
  have hsm : ((l.filter fun x => !emptyS x).mergeSort fun x y => !klt y.f0 x.f0).Pairwise fun x y => klt y.f0 x.f0 = false := by
    have := List.pairwise_mergeSort (le := fun (x y : S71) => !klt y.f0 x.f0) (fun a b c h1 h2 => by
      simp only [Bool.not_eq_true'] at *
      exact kle_trans h1 h2) (fun a b => by
      cases h : klt b.f0 a.f0 with
      | false => rfl
      | true => simp [klt_asymm h]) (l.filter fun x => !emptyS x)
    exact this.imp fun h => by simpa using h
  exact (unionT_of hpm hsm).2.1 k
theorem hasSs_setSp {ks : List Int} {l : List S63} {o : S63} (ho : o ∈ l) (hc : ks.contains o.f0 = true) {k : ByteArray} (hk : hasSs (spO o) k = true) : hasSs (setSp ks l) k = true := by
  obtain ⟨s, hs, e⟩ := List.any_eq_true.1 hk
  exact List.any_eq_true.2 ⟨s, List.mem_flatMap.2 ⟨o, List.mem_filter.2 ⟨ho, hc⟩, hs⟩, e⟩
theorem hasS_pt (k : ByteArray) : hasS (ptS k) k = true := by
  unfold ptS
  rw [hasS_one]; exact decide_eq_true rfl
theorem spO_key (o : S63) (h : o.f0 ≠ 2) : hasSs (spO o) o.f1 = true := by
  unfold spO
  rw [if_neg h]
  split
  · show (hasS (ptS o.f1) o.f1 || _) = true
    rw [hasS_pt]; rfl
  · rw [hasSs_one, hasS_pt]
theorem spO_to (o : S63) (h : o.f0 = 6) : hasSs (spO o) o.f2 = true := by
  unfold spO
  rw [if_neg (by omega), if_pos h]
  show (hasS (ptS o.f1) o.f2 || (hasS (ptS o.f2) o.f2 || _)) = true
  rw [hasS_pt]; simp
abbrev rK : List Int := [1, 2, 4, 5, 6]
abbrev wK : List Int := [3, 4, 5, 6]
theorem needs_of {l : List S63} {o : S63} (ho : o ∈ l) : Needs (unionT (setSp rK l)) o := by
  refine ⟨fun h => ?_, fun h => ?_, fun h k hk => ?_⟩
  · rw [hasSs_unionT]
    refine hasSs_setSp ho ?_ (spO_key o (by omega))
    rcases h with h | h | h | h <;> rw [h] <;> decide
  · rw [hasSs_unionT]
    exact hasSs_setSp ho (by rw [h]; decide) (spO_to o h)
  · rw [hasSs_unionT]
    refine hasSs_setSp ho (by rw [h]; decide) ?_
    unfold spO
    rw [if_pos h, hasSs_one]; exact hk
theorem c_step (o : S63) (s : St) : ∀ x ∈ (stepS o s).c, x ∈ s.c ∨ (x.1 = o.f1 ∧ (o.f0 = 3 ∨ o.f0 = 4 ∨ o.f0 = 5 ∨ o.f0 = 6)) ∨ (x.1 = o.f2 ∧ o.f0 = 6) := by
  intro x hx
  unfold stepS at hx
  split at hx
  · rename_i h
    rcases mem_putL hx with rfl | hx
    · exact .inr (.inl ⟨rfl, .inl h⟩)
    · exact .inl hx
  · split at hx
    · rename_i h
      rcases mem_putL hx with rfl | hx
      · exact .inr (.inl ⟨rfl, .inr (.inl h)⟩)
      · exact .inl hx
    · split at hx
      · rename_i h
        rcases mem_putL hx with rfl | hx
        · exact .inr (.inl ⟨rfl, .inr (.inr (.inl h))⟩)
        · exact .inl hx
      · split at hx
        · rename_i h
          split at hx
          · rcases mem_putL hx with rfl | hx
            · exact .inr (.inr ⟨rfl, h⟩)
            · rcases mem_putL hx with rfl | hx
              · exact .inr (.inl ⟨rfl, .inr (.inr (.inr h))⟩)
              · exact .inl hx
          · exact .inl hx
        · exact .inl hx
theorem c_run (L : List S63) : ∀ (l : List S63) (s : St), (∀ o ∈ l, o ∈ L) → (∀ x ∈ s.c, hasSs (setSp wK L) x.1 = true) → ∀ x ∈ (runS l s).c, hasSs (setSp wK L) x.1 = true
  | [], _, _, h => h
  | o :: l, s, hl, h => c_run L l (stepS o s) (fun x hx => hl x (List.mem_cons_of_mem _ hx)) fun x hx => by
    have ho := hl o (List.mem_cons_self ..)
    rcases c_step o s x hx with hx | ⟨e, hk⟩ | ⟨e, hk⟩
    · exact h x hx
    · rw [e]
      refine hasSs_setSp ho ?_ (spO_key o (by omega))
      rcases hk with h | h | h | h <;> rw [h] <;> decide
    · rw [e]; exact hasSs_setSp ho (by rw [hk]; decide) (spO_to o hk)
theorem wsame_l0 (d : List S69) (hd : d.length ≤ 9223372036854775807) : ∀ (m i : Nat), i + m = d.length → Ev (fun k => folkmootref08_WritesSame.l0 k d d (i : Int)) true
  | 0, i, h => by
    refine Ev.succ ?_
    simp only [folkmootref08_WritesSame.l0]
    exact Ev.no (by omega) (Ev.some _)
  | m + 1, i, h => by
    refine Ev.succ ?_
    simp only [folkmootref08_WritesSame.l0]
    rw [w64_succ (by omega)]
    exact Ev.yes (by omega) (Ev.yes (by omega) (Ev.yes (by omega) (Ev.no (by simp) (wsame_l0 d hd m (i + 1) (by omega)))))
theorem ev_wsame (d : List S69) (hd : d.length ≤ 9223372036854775807) : Ev (fun k => folkmootref08_WritesSame.f k d d) true := by
  unfold folkmootref08_WritesSame.f
  exact Ev.yes rfl (wsame_l0 d hd d.length 0 (by omega))
theorem union_len (l : List S71) : (unionT l).length ≤ l.length := by
  have h1 := foldU_le ((l.filter fun x => !emptyS x).mergeSort fun x y => !klt y.f0 x.f0) []
  have h2 : (l.filter fun x => !emptyS x).length ≤ l.length := List.length_filter_le _ _
  rw [List.length_mergeSort, List.length_nil] at h1
  unfold unionT mergeU
  omega
theorem setSp_le (ks : List Int) (l : List S63) : (setSp ks l).length ≤ 2 * l.length := by
  have := setSp_len ks l l.length (Nat.le_refl _)
  rwa [List.take_length] at this
theorem ev_reads (l : List S63) (hl : l.length ≤ 8) (hs : ∀ o ∈ l, o.f1.size ≤ 16 ∧ o.f2.size ≤ 16) : Ev (fun k => txn_Reads.f k l) (unionT (setSp rK l)) := by
  unfold txn_Reads.f
  exact Ev.bind (ev_set rK (by decide) l hl hs) (Ev.some _)
theorem ev_writes (l : List S63) (hl : l.length ≤ 8) (hs : ∀ o ∈ l, o.f1.size ≤ 16 ∧ o.f2.size ≤ 16) : Ev (fun k => txn_Writes.f k l) (unionT (setSp wK l)) := by
  unfold txn_Writes.f
  exact Ev.bind (ev_set wK (by decide) l hl hs) (Ev.some _)
end Go.Proofs.YtgmlenpcchhmbaaGreat.P
end
section
set_option linter.unusedVariables false
set_option linter.unusedSimpArgs false
namespace Go.Proofs.YtgmlenpcchhmbaaGreat.P
open Go.RowKit Go.Sort Go.Shelf Go.Proofs.YtgmlenpcchhmbaaGreatW.PrintWords Go.Proofs.YtgmlenpcchhmbaaGreatW.PrintLast Go.Proofs.YtgmlenpcchhmbaaGreatW.PrintMore
def leastE (e f : ByteArray) : ByteArray := if e = emptyB ∨ (f ≠ emptyB ∧ klt f e = true) then f else e
theorem least_any (e f : ByteArray) (w : World) : Calls Tryz.prog 158 #[.string e, .string f] w fun x w' => x = .returned (.string (leastE e f)) ∧ w' = w := by
  obtain ⟨v, hv⟩ : ∃ v, leastE e f = v := ⟨_, rfl⟩
  rw [hv]
  have hE : ∀ x : ByteArray, x ≠ emptyB → x.toList.isEmpty = false := fun x hx => by
    cases h : x.toList with
    | nil => exact absurd ((toList_nil _).1 h) hx
    | cons y l => rfl
  have hb : klt f e = Op.bytesLess f.toList e.toList := (klt_list f e).symm
  by_cases he : e = emptyB
  · have e1 : e.toList.isEmpty = true := by rw [(toList_nil _).2 he]; rfl
    obtain rfl : v = f := by rw [← hv]; unfold leastE; simp [he]
    clear he hv hb hE
    go_enter Tryz.func158, Tryz.ntmps158
    go_wp2
    go_ret
    exact ⟨rfl, rfl⟩
  · have e1 := hE e he
    by_cases hf : f = emptyB
    · have f1 : f.toList.isEmpty = true := by rw [(toList_nil _).2 hf]; rfl
      obtain rfl : v = e := by rw [← hv]; unfold leastE; simp [he, hf]
      clear he hv hb hf hE
      go_enter Tryz.func158, Tryz.ntmps158
      go_wp2
      go_ret
      exact ⟨rfl, rfl⟩
    · have f1 := hE f hf
      cases hk : klt f e with
      | true =>
        obtain rfl : v = f := by rw [← hv]; unfold leastE; simp [hf, hk]
        rw [hk] at hb
        have hb2 := hb.symm
        clear he hv hb hf hE hk
        go_enter Tryz.func158, Tryz.ntmps158
        go_wp2
        go_ret
        exact ⟨rfl, rfl⟩
      | false =>
        obtain rfl : v = e := by rw [← hv]; unfold leastE; simp [he, hk]
        rw [hk] at hb
        have hb2 := hb.symm
        clear he hv hb hf hE hk
        go_enter Tryz.func158, Tryz.ntmps158
        go_wp2
        go_ret
        exact ⟨rfl, rfl⟩
def cutS (s t : S71) : S71 := ⟨if klt s.f0 t.f0 = true then t.f0 else s.f0, leastE s.f1 t.f1⟩
theorem hasS_cut (s t : S71) (k : ByteArray) : hasS (cutS s t) k = (hasS s k && hasS t k) := by
  rw [Bool.eq_iff_iff, Bool.and_eq_true, hasS_iff, hasS_iff, hasS_iff]
  unfold cutS leastE
  simp only
  have h1 : klt k (if klt s.f0 t.f0 = true then t.f0 else s.f0) = false ↔ klt k s.f0 = false ∧ klt k t.f0 = false := by
    by_cases h : klt s.f0 t.f0 = true
    · rw [if_pos h]
      exact ⟨fun g => ⟨kle_trans (klt_asymm h) g, g⟩, fun g => g.2⟩
    · rw [if_neg h]
      exact ⟨fun g => ⟨g, kle_trans (Bool.eq_false_iff.2 h) g⟩, fun g => g.1⟩
  have h2 : ((if s.f1 = emptyB ∨ (t.f1 ≠ emptyB ∧ klt t.f1 s.f1 = true) then t.f1 else s.f1) = emptyB ∨ klt k (if s.f1 = emptyB ∨ (t.f1 ≠ emptyB ∧ klt t.f1 s.f1 = true) then t.f1 else s.f1) = true) ↔ (s.f1 = emptyB ∨ klt k s.f1 = true) ∧ (t.f1 = emptyB ∨ klt k t.f1 = true) := by
    by_cases e1 : s.f1 = emptyB
    · rw [if_pos (.inl e1)]
      exact ⟨fun g => ⟨.inl e1, g⟩, fun g => g.2⟩
    · by_cases e2 : t.f1 = emptyB
      · rw [if_neg (by rintro (h | h); exact e1 h; exact h.1 e2)]
        exact ⟨fun g => ⟨g, .inl e2⟩, fun g => g.1⟩
      · by_cases h : klt t.f1 s.f1 = true
        · rw [if_pos (.inr ⟨e2, h⟩)]
          refine ⟨fun g => ⟨.inr (klt_trans (g.resolve_left e2) h), g⟩, fun g => g.2⟩
        · rw [if_neg (by rintro (g | g); exact e1 g; exact h g.2)]
          refine ⟨fun g => ⟨g, .inr (klt_kle (g.resolve_left e1) (Bool.eq_false_iff.2 h))⟩, fun g => g.1⟩
  rw [h1, h2]
  exact ⟨fun ⟨⟨a, b⟩, c, d⟩ => ⟨⟨a, c⟩, b, d⟩, fun ⟨⟨a, c⟩, b, d⟩ => ⟨⟨a, b⟩, c, d⟩⟩
end Go.Proofs.YtgmlenpcchhmbaaGreat.P
end
section
set_option linter.unusedVariables false
set_option linter.unusedSimpArgs false
namespace Go.Proofs.YtgmlenpcchhmbaaGreat.P
def cutL : List S71 → List S71 → List S71
  | [], _ => []
  | _ :: _, [] => []
  | s :: a, t :: b => (if noneS (cutS s t) = true then [] else [cutS s t]) ++ (if (cutS s t).f1 = s.f1 then cutL a (t :: b) else cutL (s :: a) b)
  termination_by a b => a.length + b.length
theorem canon_tail {x : S71} {l : List S71} (h : CanonU (x :: l)) : CanonU l := ⟨fun s hs => h.1 s (List.mem_cons_of_mem _ hs), (List.pairwise_cons.1 h.2).2⟩
theorem hasS_none {s : S71} (h : noneS s = true) (k : ByteArray) : hasS s k = false := by
  cases e : hasS s k with
  | false => rfl
  | true =>
    obtain ⟨h1, h2⟩ := (hasS_iff s k).1 e
    have : noneS s = false := by
      rw [noneS_false]
      rcases h2 with h2 | h2
      · exact .inl h2
      · exact .inr (kle_klt h1 h2)
    rw [this] at h; cases h
theorem rest_none {x y : S71} {l : List S71} (h : CanonU (y :: l)) (hxy : y.f1 = emptyB ∨ (x.f1 ≠ emptyB ∧ klt y.f1 x.f1 = false)) {k : ByteArray} (hk : hasS x k = true) : hasSs l k = false := by
  cases e : hasSs l k with
  | false => rfl
  | true =>
    obtain ⟨z, hz, hzk⟩ := List.any_eq_true.1 e
    have h1 := (List.pairwise_cons.1 h.2).1 z hz
    have h2 := ((hasS_iff z k).1 hzk).1
    have h3 := ((hasS_iff x k).1 hk).2
    rcases hxy with hxy | ⟨g1, g2⟩
    · exact absurd hxy h1.1
    · have h4 := h3.resolve_left g1
      have h5 := klt_kle h1.2 h2
      have h6 := klt_trans h5 h4
      rw [h6] at g2; cases g2
theorem hasSs_cons (s : S71) (l : List S71) (k : ByteArray) : hasSs (s :: l) k = (hasS s k || hasSs l k) := rfl
theorem cutL_has : ∀ (n : Nat) (a b : List S71), a.length + b.length ≤ n → CanonU a → CanonU b → ∀ k, hasSs (cutL a b) k = (hasSs a k && hasSs b k)
  | _, [], b, _, _, _, k => by rw [cutL]; rfl
  | _, s :: a, [], _, _, _, k => by rw [cutL]; simp [hasSs]
  | 0, s :: a, t :: b, h, _, _, _ => by simp at h
  | n + 1, s :: a, t :: b, h, ha, hb, k => by
    have hone : hasSs (if noneS (cutS s t) = true then [] else [cutS s t]) k = (hasS s k && hasS t k) := by
      rw [← hasS_cut]
      split
      · rename_i e; rw [hasS_none e]; rfl
      · rw [hasSs_one]
    rw [cutL, hasSs_app, hone]
    simp only [List.length_cons] at h
    by_cases e : (cutS s t).f1 = s.f1
    · rw [if_pos e, cutL_has n a (t :: b) (by simp only [List.length_cons]; omega) (canon_tail ha) hb k, hasSs_cons s a, hasSs_cons t b]
      have hr : hasS s k = true → hasSs b k = false := fun hk => by
        refine rest_none hb ?_ hk
        unfold cutS leastE at e
        simp only at e
        by_cases c : s.f1 = emptyB ∨ (t.f1 ≠ emptyB ∧ klt t.f1 s.f1 = true)
        · rw [if_pos c] at e
          rcases c with c | c
          · exact .inl (e.trans c)
          · rw [e, klt_irrefl] at c; exact absurd c.2 (by simp)
        · by_cases ct : t.f1 = emptyB
          · exact .inl ct
          · refine .inr ⟨fun h => c (.inl h), ?_⟩
            cases hh : klt t.f1 s.f1 with
            | false => rfl
            | true => exact absurd (.inr ⟨ct, hh⟩) c
      cases h1 : hasS s k with
      | true => rw [hr h1]; cases hasS t k <;> cases hasSs a k <;> rfl
      | false => cases hasS t k <;> cases hasSs a k <;> cases hasSs b k <;> rfl
    · rw [if_neg e, cutL_has n (s :: a) b (by simp only [List.length_cons]; omega) ha (canon_tail hb) k, hasSs_cons s a, hasSs_cons t b]
      have hr : hasS t k = true → hasSs a k = false := fun hk => by
        refine rest_none ha ?_ hk
        unfold cutS leastE at e
        simp only at e
        by_cases c : s.f1 = emptyB ∨ (t.f1 ≠ emptyB ∧ klt t.f1 s.f1 = true)
        · rcases c with c | c
          · exact .inl c
          · exact .inr ⟨c.1, klt_asymm c.2⟩
        · rw [if_neg c] at e; exact absurd rfl e
      cases h1 : hasS t k with
      | true => rw [hr h1]; cases hasS s k <;> cases hasSs b k <;> rfl
      | false => cases hasS s k <;> cases hasSs a k <;> cases hasSs b k <;> rfl
end Go.Proofs.YtgmlenpcchhmbaaGreat.P
end
section
set_option linter.unusedVariables false
set_option linter.unusedSimpArgs false
namespace Go.Proofs.YtgmlenpcchhmbaaGreat.P
def floorP (P : ByteArray → Bool) (p : List ByteArray) (k : ByteArray) : Bool := p.foldl (fun b m => if klt k m = true then b else P m) false
structure InvM (P : ByteArray → Bool) (p : List ByteArray) (st : Bool × List S71) : Prop where
  canon : CanonU st.2
  f0 : ∀ s ∈ st.2, s.f0 ∈ p
  f1 : ∀ s ∈ st.2, s.f1 ≠ emptyB → s.f1 ∈ p
  opn : st.1 = true → ∃ init f, st.2 = init ++ [⟨f, emptyB⟩]
  shut : st.1 = false → ∀ s ∈ st.2, s.f1 ≠ emptyB
  has : ∀ k, hasSs st.2 k = floorP P p k
theorem unionT_canon (l : List S71) : CanonU (unionT l) ∧ ∀ k, hasSs (unionT l) k = hasSs l k := by
  have hp := List.mergeSort_perm (l.filter fun x => !emptyS x) fun x y => !klt y.f0 x.f0
  have hs := List.pairwise_mergeSort (le := fun (x y : S71) => !klt y.f0 x.f0) (fun a b c h1 h2 => by
      simp only [Bool.not_eq_true'] at *
      exact kle_trans h1 h2) (fun a b => by
      cases h : klt b.f0 a.f0 with
      | false => rfl
      | true => simp [klt_asymm h]) (l.filter fun x => !emptyS x)
  obtain ⟨g1, g2, _⟩ := unionT_of hp (hs.imp fun h => by simpa using h)
  exact ⟨g1, g2⟩
end Go.Proofs.YtgmlenpcchhmbaaGreat.P
end
section
set_option linter.unusedVariables false
set_option linter.unusedSimpArgs false
namespace Go.Proofs.YtgmlenpcchhmbaaGreat.P
open Go.RowKit Go.Sort Go.Shelf Go.Proofs.YtgmlenpcchhmbaaGreatW.PrintWords Go.Proofs.YtgmlenpcchhmbaaGreatW.PrintLast Go.Proofs.YtgmlenpcchhmbaaGreatW.PrintMore
theorem RowSp.under {w w' : World} {b : Nat} {v : Value} {xs : List S71} (h : RowSp w b v xs) (hb : Below w.heap.size w w') : RowSp w' b v xs := pw_own_below h hb
theorem dropSp {A : Option Addr} {ca : Nat} {x : S71} {xs : List S71} (hc : (x :: xs).length ≤ ca) : ∃ A2 c2, xs.length ≤ c2 ∧ (∀ W : World, (Instr.slice 40 (.slice A (xs.length + 1) ca) (some (.int .i64 1)) none none).run Tryz.prog W = .ok (.slice A2 xs.length c2) W) ∧ ∀ W : World, Kd.C k71 W A (x :: xs).length (x :: xs) → Kd.C k71 W A2 xs.length xs := by
  obtain ⟨i0, hi0, _, hsz, _⟩ := info_parts info71
  simp only [List.length_cons] at hc
  refine ⟨(if ca = 1 then A else A.map (·.add (1 * 2))), ca - 1, by omega, fun W => ?_, fun W hC => ?_⟩
  rotate_left
  · have := Kd.C_drop (c := ca) (m := 1) hC (by simp) (by simpa using hc)
    rw [List.drop_one, List.tail_cons] at this
    exact this
  · have := cut_from (P := Tryz.prog) 40 71 .i64 Tryz.underlying40 hi0 2 hsz A (xs.length + 1) ca 1 (by omega) (by omega) W
    exact this
set_option maxHeartbeats 8000000 in
set_option maxRecDepth 100000 in
theorem cut_any (A : Option Addr) (c : Nat) (a : List S71) (B : Option Addr) (cb : Nat) (b : List S71) (w : World) (hr : Kd.C k71 w A a.length a) (hc : a.length ≤ c) (hs : Kd.C k71 w B b.length b) (hcb : b.length ≤ cb) (hab : a.length + b.length ≤ 1000000) :
    Calls Tryz.prog 137 #[.slice A a.length c, .slice B b.length cb] w fun e w' => ∃ v, e = .returned v ∧ RowSp w' w.heap.size v (cutL a b) ∧ Below w.heap.size w w' := by
  have HX := Lib.hid (And.intro hr (And.intro hc (And.intro hs (And.intro hcb hab))))
  clear hr hc hs hcb hab
  go_enter Tryz.func137, Tryz.ntmps137
  go_wp2_with fail
  go_loopw [0, 1, 4, 5, 13] (fun sa sb so _ _ wq => ∃ (a' b' out : List S71) (A' B' C' : Option Addr) (ca cc co : Nat), sa = .slice A' a'.length ca ∧ sb = .slice B' b'.length cc ∧ so = .slice C' out.length co ∧ RowKit.Hid (a'.length ≤ ca ∧ b'.length ≤ cc ∧ Kd.C k71 w A' a'.length a' ∧ Kd.C k71 w B' b'.length b' ∧ cutL a b = out ++ cutL a' b' ∧ a'.length + b'.length ≤ 1000000 ∧ out.length + a'.length + b'.length ≤ a.length + b.length ∧ RowSp wq w.heap.size (.slice C' out.length co) out ∧ Below w.heap.size w wq)) (fun sa sb _ _ _ _ => lenV sa + lenV sb)
  case atStart => exact ⟨a, b, [], A, B, none, c, cb, 0, rfl, rfl, rfl, Lib.hid ⟨HX.out.2.1, HX.out.2.2.2.1, HX.out.1, HX.out.2.2.1, rfl, HX.out.2.2.2.2, by simp, own_nil _ _ _ _, Below.refl _ _⟩⟩
  case round =>
    obtain ⟨a', b', out, A', B', C', ca, cc, co, rfl, rfl, rfl, HR⟩ := hrel
    rename World => wq
    rcases a' with _ | ⟨s, a'⟩
    · have HZ := Lib.hid (show cutL a b = out by rw [HR.out.2.2.2.2.1, cutL, List.append_nil])
      go_wp2
      go_ret
      exact ⟨_, rfl, by rw [HZ.out]; exact HR.out.2.2.2.2.2.2.2.1, HR.out.2.2.2.2.2.2.2.2⟩
    · rcases b' with _ | ⟨t, b'⟩
      · have HZ := Lib.hid (show cutL a b = out by rw [HR.out.2.2.2.2.1, cutL, List.append_nil])
        go_wp2
        go_ret
        exact ⟨_, rfl, by rw [HZ.out]; exact HR.out.2.2.2.2.2.2.2.1, HR.out.2.2.2.2.2.2.2.2⟩
      · obtain ⟨al, rfl, x0, x1⟩ := at_T71 HR.out.2.2.1 0 (by omega) (by simp)
        obtain ⟨bl, rfl, y0, y1⟩ := at_T71 HR.out.2.2.2.1 0 (by omega) (by simp)
        obtain ⟨s0, s1⟩ := s
        obtain ⟨t0, t1⟩ := t
        obtain ⟨M, hM⟩ : ∃ M, (if klt s0 t0 = true then t0 else s0) = M := ⟨_, rfl⟩
        obtain ⟨E, hE⟩ : ∃ E, leastE s1 t1 = E := ⟨_, rfl⟩
        have hcS : cutS ⟨s0, s1⟩ ⟨t0, t1⟩ = ⟨M, E⟩ := by unfold cutS; rw [← hM, ← hE]
        have hmx : ∀ (ats : Array TypeId) (ty : TypeId) (W : World), (Builtin.max_ ats ty #[.string s0, .string t0]).run Tryz.prog W = .ok (.string M) W := fun ats ty W => by rw [max_str, hM]
        have HLE := Lib.hid (fun (W : World) => (least_any s1 t1 W).mono (fun (e : Ending) (w' : World) (h : e = .returned (.string (leastE s1 t1)) ∧ w' = W) => (show e = .returned (.string E) ∧ w' = W from hE ▸ h)))
        have HCS := Lib.hid hcS
        obtain ⟨q, hq⟩ : ∃ q, emptyS ⟨M, E⟩ = q := ⟨_, rfl⟩
        have HEM := Lib.hid (fun (W : World) => (empty_any ⟨M, E⟩ W).mono (fun (e : Ending) (w' : World) (h : e = .returned (.bool (emptyS ⟨M, E⟩)) ∧ Below W.heap.size W w') => (show e = .returned (.bool q) ∧ Below W.heap.size W w' from hq ▸ h)))
        have HQ := Lib.hid hq
        have ea : al.add 0 = al := by cases al; rfl
        have eb : bl.add 0 = bl := by cases bl; rfl
        replace x0 : w.cell? al = some (.string s0) := by rw [← ea]; exact x0
        replace x1 : w.cell? ⟨al.block, al.off + 1, none⟩ = some (.string s1) := by rw [← ea]; exact x1
        replace y0 : w.cell? bl = some (.string t0) := by rw [← eb]; exact y0
        replace y1 : w.cell? ⟨bl.block, bl.off + 1, none⟩ = some (.string t1) := by rw [← eb]; exact y1
        have HBw := HR.out.2.2.2.2.2.2.2.2
        have x0' : wq.cell? al = some (.string s0) := pw_cell_below HBw x0
        have x1' : wq.cell? ⟨al.block, al.off + 1, none⟩ = some (.string s1) := pw_cell_below HBw x1
        have y0' : wq.cell? bl = some (.string t0) := pw_cell_below HBw y0
        have y1' : wq.cell? ⟨bl.block, bl.off + 1, none⟩ = some (.string t1) := pw_cell_below HBw y1
        have HX1 := Lib.hid (show w.cell? ⟨al.block, al.off + 1, none⟩ = some (.string s1) from x1)
        obtain ⟨A2, c2, hc2, hcut2, hC2⟩ := dropSp (x := (⟨s0, s1⟩ : S71)) (xs := a') (A := some al) HR.out.1
        obtain ⟨A3, c3, hc3, hcut3, hC3⟩ := dropSp (x := (⟨t0, t1⟩ : S71)) (xs := b') (A := some bl) HR.out.2.1
        have H23 := Lib.hid (And.intro (And.intro hc2 hC2) (And.intro hc3 hC3))
        have hxne : some wq.heap.size ≠ (Value.slice C' out.length co).ownBlock := fun e => by
          have := own_lt HR.out.2.2.2.2.2.2.2.1 _ e.symm
          omega
        have HNE := Lib.hid hxne
        clear hM hE hcS hq x0 x1 y0 y1 ea eb HBw hc2 hC2 hc3 hC3 hxne
        go_wp2_with fail
        refine wp_region_last1_held (S := (fun W => Below wq.heap.size wq W ∧ W.cell? al = some (.string s0) ∧ W.cell? ⟨al.block, al.off + 1, none⟩ = some (.string s1) ∧ W.cell? bl = some (.string t0) ∧ W.cell? ⟨bl.block, bl.off + 1, none⟩ = some (.string t1))) (l := [_, _, _, _, _, _, _, _, _, _, _, _, _, _, _, _, _, _, _, _]) (o := _) (by kernel_rfl) (by kernel_rfl) ?_
        simp only [List.size_toArray, List.length_cons, List.length_nil, Nat.zero_add, Nat.reduceAdd]
        have hHeld : ((fun W => Below wq.heap.size wq W ∧ W.cell? al = some (.string s0) ∧ W.cell? ⟨al.block, al.off + 1, none⟩ = some (.string s1) ∧ W.cell? bl = some (.string t0) ∧ W.cell? ⟨bl.block, bl.off + 1, none⟩ = some (.string t1))) wq.drew := ⟨below_drew (Below.refl _ _), x0', x1', y0', y1'⟩
        refine tk_ 0 hHeld ?_
        refine tk_ 1 hHeld ?_
        refine tk_ 2 hHeld ?_
        refine tk_ 3 hHeld ?_
        refine tk_ 4 hHeld ?_
        refine tk_ 5 hHeld ?_
        refine tk_ 6 hHeld ?_
        refine tk_ 7 hHeld ?_
        refine tk_ 8 hHeld ?_
        refine tk_ 9 hHeld ?_
        refine tk_ 10 hHeld ?_
        refine tk_ 11 hHeld ?_
        refine tk_ 12 hHeld ?_
        refine tk_ 13 hHeld ?_
        refine tk_ 14 hHeld ?_
        refine tk_ 15 hHeld ?_
        refine tk_ 16 hHeld ?_
        refine wpAnyH_ready (rs := [17, 19]) (by kernel_rfl) (by simp) ?_
        refine (AllReadyH.cons rfl (fun K hK => ?_) (AllReadyH.cons rfl (fun K hK => ?_) AllReadyH.nil))
        · go_simp
          refine (HLE.out _).mono ?_
          rintro e wn ⟨rfl, rfl⟩
          refine hK.out _ _ ?_ (fun hHeld => ?_)
          · exact hHeld
          clear hK K
          try simp only [List.getElem_toArray, List.getElem_cons_succ, List.getElem_cons_zero, Act.put, List.setIfInBounds_toArray, List.set_cons_zero, List.set_cons_succ]
          refine tk_ 18 hHeld ?_
          refine wpAnyH_ready (rs := [19]) (by kernel_rfl) (by simp) ?_
          refine (AllReadyH.cons rfl (fun K hK => ?_) AllReadyH.nil)
          go_simp
          refine hK.out _ _ ?_ (fun hHeld => ?_)
          · exact ⟨hHeld.1.alloc hHeld.1.size _, cellA hHeld.2.1 _, cellA hHeld.2.2.1 _, cellA hHeld.2.2.2.1 _, cellA hHeld.2.2.2.2 _⟩
          clear hK K
          try simp only [List.getElem_toArray, List.getElem_cons_succ, List.getElem_cons_zero, Act.put, List.setIfInBounds_toArray, List.set_cons_zero, List.set_cons_succ]
          refine wpAnyH_done (by kernel_rfl) ?_ _
          refine lastPost_wp ?_
          go_wp2_with fail
          refine (HEM.out _).mono ?_
          rintro e wn ⟨rfl, hbn⟩
          have hb1 : Below wq.heap.size wq (wq.alloc (.cells #[.string M, .string E] 71)).drew := below_drew ((Below.refl _ _).alloc (Nat.le_refl _) _)
          have hbn2 : Below wq.heap.size wq wn := hb1.trans (hbn.mono hb1.size)
          have hBs : Blk wn wq.heap.size 71 #[.string M, .string E] := (Blk.new wq 71 #[.string M, .string E]).drew.below hbn (by simp)
          have HN := Lib.hid (And.intro hbn2 hBs)
          clear hb1 hbn hbn2 hBs hHeld hmx
          have m0 : wn.cell? ⟨wq.heap.size, 0, none⟩ = some (.string M) := HN.out.2.cell 0
          have m1 : wn.cell? ⟨wq.heap.size, 1, none⟩ = some (.string E) := HN.out.2.cell 1
          cases q
          · go_wp2_with (first | ((with_reducible refine gate_builtin (b := .append) (xs := #[.tmp 36, .tmp 38]) rfl ?_); at_builtin; refine stop_append rfl ?_))
            refine Lib.hid ?_
            have HB9 := Lib.hid (HR.out.2.2.2.2.2.2.2.2.trans (HN.out.1.mono HR.out.2.2.2.2.2.2.2.2.size))
            refine Kd.R_append k71 (w0 := w) w.heap.size rfl (.tmp 36) (.tmp 38) 40 71 (.agg #[.string ⟨#[]⟩, .string ⟨#[]⟩]) 32 rfl Tryz.underlying40 info71 rfl (by decide) (by decide) (.slice _ out.length co) out ⟨M, E⟩ [.string M, .string E] (fun _ => True) (fun _ => False) rfl rfl (k71_mkM _ _ _ _) (fun _ h => h.elim) (fun _ _ => trivial) (RowSp.R (pw_own_below HR.out.2.2.2.2.2.2.2.1 HN.out.1)) HB9.out HB9.out.size (by have := HX.out.2.2.2.2; have := HR.out.2.2.2.2.2.2.1; simp only [List.length_cons] at *; omega) ?_
            intro v9 w9 hS9 hB9 hg9 hat9
            have hBs9 := HN.out.2.grown hg9 HNE.out
            obtain ⟨A9, c9, e9⟩ := Kd.R_slice hS9
            have HN9 := Lib.hid (And.intro (RowSp.of_R hS9) hB9)
            rw [e9] at HN9
            rw [e9]
            have m1' : w9.cell? ⟨wq.heap.size, 1, none⟩ = some (.string E) := hBs9.cell 1
            have x1'' : w9.cell? ⟨al.block, al.off + 1, none⟩ = some (.string s1) := pw_cell_below hB9 HX1.out
            clear hS9 hB9 hg9 hat9 e9 m0 m1 hBs9 x0' x1' y0' y1'
            have HCL := Lib.hid (show cutL (⟨s0, s1⟩ :: a') (⟨t0, t1⟩ :: b') = [⟨M, E⟩] ++ (if E = s1 then cutL a' (⟨t0, t1⟩ :: b') else cutL (⟨s0, s1⟩ :: a') b') by
              rw [cutL, HCS.out, if_neg (show ¬ noneS (⟨M, E⟩ : S71) = true by rw [show noneS (⟨M, E⟩ : S71) = false from HQ.out]; simp)])
            by_cases he : E = s1
            · have hbe : (E.toList == s1.toList) = true := by rw [he]; simp
              have HE := Lib.hid he
              clear he
              go_wp2_with fail
              refine wp_region_held (S := (fun W => Below w9.heap.size w9 W ∧ W.cell? ⟨wq.heap.size, 1, none⟩ = some (.string E) ∧ W.cell? ⟨al.block, al.off + 1, none⟩ = some (.string s1))) (by kernel_rfl) ?_
              simp only [List.size_toArray, List.length_cons, List.length_nil, Nat.zero_add, Nat.reduceAdd]
              have hHeld : ((fun W => Below w9.heap.size w9 W ∧ W.cell? ⟨wq.heap.size, 1, none⟩ = some (.string E) ∧ W.cell? ⟨al.block, al.off + 1, none⟩ = some (.string s1))) w9.drew := ⟨below_drew (Below.refl _ _), m1', x1''⟩
              refine tk_ 0 hHeld ?_
              refine tk_ 1 hHeld ?_
              refine tk_ 2 hHeld ?_
              refine tk_ 3 hHeld ?_
              refine tk_ 4 hHeld ?_
              refine tk_ 5 hHeld ?_
              refine tk_ 6 hHeld ?_
              refine wpAnyH_done (by kernel_rfl) ?_ _
              obtain ⟨hq1, hq2, hq3⟩ := hHeld
              have HQ1 := Lib.hid hq1
              clear hq1 hq2 hq3 m1' x1''
              go_wp2
              go_roundw
              case rel => exact ⟨a', ⟨t0, t1⟩ :: b', (out++[⟨M,E⟩]), A2, some bl, A9, c2, cc, c9, rfl, by simp, by simp, Lib.hid ⟨H23.out.1.1, HR.out.2.1, H23.out.1.2 _ HR.out.2.2.1, HR.out.2.2.2.1, by rw [HR.out.2.2.2.2.1, HCL.out, if_pos HE.out]; simp, by have := HR.out.2.2.2.2.2.1; simp only [List.length_cons] at *; omega, by have := HR.out.2.2.2.2.2.2.1; simp only [List.length_cons, List.length_append, List.length_nil] at *; omega, RowSp.under HN9.out.1 HQ1.out, HN9.out.2.trans (HQ1.out.mono HN9.out.2.size)⟩⟩
              case measure => (simp [lenV]; try omega)
            · have hbe : (E.toList == s1.toList) = false := by rw [beq_eq_false_iff_ne]; intro h; exact he (toList_inj.1 h)
              have HE := Lib.hid he
              clear he
              go_wp2_with fail
              refine wp_region_held (S := (fun W => Below w9.heap.size w9 W ∧ W.cell? ⟨wq.heap.size, 1, none⟩ = some (.string E) ∧ W.cell? ⟨al.block, al.off + 1, none⟩ = some (.string s1))) (by kernel_rfl) ?_
              simp only [List.size_toArray, List.length_cons, List.length_nil, Nat.zero_add, Nat.reduceAdd]
              have hHeld : ((fun W => Below w9.heap.size w9 W ∧ W.cell? ⟨wq.heap.size, 1, none⟩ = some (.string E) ∧ W.cell? ⟨al.block, al.off + 1, none⟩ = some (.string s1))) w9.drew := ⟨below_drew (Below.refl _ _), m1', x1''⟩
              refine tk_ 0 hHeld ?_
              refine tk_ 1 hHeld ?_
              refine tk_ 2 hHeld ?_
              refine tk_ 3 hHeld ?_
              refine tk_ 4 hHeld ?_
              refine tk_ 5 hHeld ?_
              refine tk_ 6 hHeld ?_
              refine wpAnyH_done (by kernel_rfl) ?_ _
              obtain ⟨hq1, hq2, hq3⟩ := hHeld
              have HQ1 := Lib.hid hq1
              clear hq1 hq2 hq3 m1' x1''
              go_wp2
              go_roundw
              case rel => exact ⟨⟨s0, s1⟩ :: a', b', (out++[⟨M,E⟩]), some al, A3, A9, ca, c3, c9, by simp, rfl, by simp, Lib.hid ⟨HR.out.1, H23.out.2.1, HR.out.2.2.1, H23.out.2.2 _ HR.out.2.2.2.1, by rw [HR.out.2.2.2.2.1, HCL.out, if_neg HE.out]; simp, by have := HR.out.2.2.2.2.2.1; simp only [List.length_cons] at *; omega, by have := HR.out.2.2.2.2.2.2.1; simp only [List.length_cons, List.length_append, List.length_nil] at *; omega, RowSp.under HN9.out.1 HQ1.out, HN9.out.2.trans (HQ1.out.mono HN9.out.2.size)⟩⟩
              case measure => (simp [lenV]; try omega)
          · have hB9 := HR.out.2.2.2.2.2.2.2.2.trans (HN.out.1.mono HR.out.2.2.2.2.2.2.2.2.size)
            have x1'' : wn.cell? ⟨al.block, al.off + 1, none⟩ = some (.string s1) := pw_cell_below hB9 HX1.out
            have m1' : wn.cell? ⟨wq.heap.size, 1, none⟩ = some (.string E) := m1
            have HN9 := Lib.hid (And.intro (pw_own_below HR.out.2.2.2.2.2.2.2.1 HN.out.1) hB9)
            clear m0 m1 x0' x1' y0' y1' hB9
            have HCL := Lib.hid (show cutL (⟨s0, s1⟩ :: a') (⟨t0, t1⟩ :: b') = [] ++ (if E = s1 then cutL a' (⟨t0, t1⟩ :: b') else cutL (⟨s0, s1⟩ :: a') b') by
              rw [cutL, HCS.out, if_pos (show noneS (⟨M, E⟩ : S71) = true from HQ.out)])
            by_cases he : E = s1
            · have hbe : (E.toList == s1.toList) = true := by rw [he]; simp
              have HE := Lib.hid he
              clear he
              go_wp2_with fail
              refine wp_region_held (S := (fun W => Below wn.heap.size wn W ∧ W.cell? ⟨wq.heap.size, 1, none⟩ = some (.string E) ∧ W.cell? ⟨al.block, al.off + 1, none⟩ = some (.string s1))) (by kernel_rfl) ?_
              simp only [List.size_toArray, List.length_cons, List.length_nil, Nat.zero_add, Nat.reduceAdd]
              have hHeld : ((fun W => Below wn.heap.size wn W ∧ W.cell? ⟨wq.heap.size, 1, none⟩ = some (.string E) ∧ W.cell? ⟨al.block, al.off + 1, none⟩ = some (.string s1))) wn.drew := ⟨below_drew (Below.refl _ _), m1', x1''⟩
              refine tk_ 0 hHeld ?_
              refine tk_ 1 hHeld ?_
              refine tk_ 2 hHeld ?_
              refine tk_ 3 hHeld ?_
              refine tk_ 4 hHeld ?_
              refine tk_ 5 hHeld ?_
              refine tk_ 6 hHeld ?_
              refine wpAnyH_done (by kernel_rfl) ?_ _
              obtain ⟨hq1, hq2, hq3⟩ := hHeld
              have HQ1 := Lib.hid hq1
              clear hq1 hq2 hq3 m1' x1''
              go_wp2
              go_roundw
              case rel => exact ⟨a', ⟨t0, t1⟩ :: b', out, A2, some bl, C', c2, cc, co, rfl, by simp, by simp, Lib.hid ⟨H23.out.1.1, HR.out.2.1, H23.out.1.2 _ HR.out.2.2.1, HR.out.2.2.2.1, by rw [HR.out.2.2.2.2.1, HCL.out, if_pos HE.out]; simp, by have := HR.out.2.2.2.2.2.1; simp only [List.length_cons] at *; omega, by have := HR.out.2.2.2.2.2.2.1; simp only [List.length_cons, List.length_append, List.length_nil] at *; omega, RowSp.under HN9.out.1 HQ1.out, HN9.out.2.trans (HQ1.out.mono HN9.out.2.size)⟩⟩
              case measure => (simp [lenV]; try omega)
            · have hbe : (E.toList == s1.toList) = false := by rw [beq_eq_false_iff_ne]; intro h; exact he (toList_inj.1 h)
              have HE := Lib.hid he
              clear he
              go_wp2_with fail
              refine wp_region_held (S := (fun W => Below wn.heap.size wn W ∧ W.cell? ⟨wq.heap.size, 1, none⟩ = some (.string E) ∧ W.cell? ⟨al.block, al.off + 1, none⟩ = some (.string s1))) (by kernel_rfl) ?_
              simp only [List.size_toArray, List.length_cons, List.length_nil, Nat.zero_add, Nat.reduceAdd]
              have hHeld : ((fun W => Below wn.heap.size wn W ∧ W.cell? ⟨wq.heap.size, 1, none⟩ = some (.string E) ∧ W.cell? ⟨al.block, al.off + 1, none⟩ = some (.string s1))) wn.drew := ⟨below_drew (Below.refl _ _), m1', x1''⟩
              refine tk_ 0 hHeld ?_
              refine tk_ 1 hHeld ?_
              refine tk_ 2 hHeld ?_
              refine tk_ 3 hHeld ?_
              refine tk_ 4 hHeld ?_
              refine tk_ 5 hHeld ?_
              refine tk_ 6 hHeld ?_
              refine wpAnyH_done (by kernel_rfl) ?_ _
              obtain ⟨hq1, hq2, hq3⟩ := hHeld
              have HQ1 := Lib.hid hq1
              clear hq1 hq2 hq3 m1' x1''
              go_wp2
              go_roundw
              case rel => exact ⟨⟨s0, s1⟩ :: a', b', out, some al, A3, C', ca, c3, co, by simp, rfl, by simp, Lib.hid ⟨HR.out.1, H23.out.2.1, HR.out.2.2.1, H23.out.2.2 _ HR.out.2.2.2.1, by rw [HR.out.2.2.2.2.1, HCL.out, if_neg HE.out]; simp, by have := HR.out.2.2.2.2.2.1; simp only [List.length_cons] at *; omega, by have := HR.out.2.2.2.2.2.2.1; simp only [List.length_cons, List.length_append, List.length_nil] at *; omega, RowSp.under HN9.out.1 HQ1.out, HN9.out.2.trans (HQ1.out.mono HN9.out.2.size)⟩⟩
              case measure => (simp [lenV]; try omega)
        · go_simp
          refine hK.out _ _ ?_ (fun hHeld => ?_)
          · exact ⟨hHeld.1.alloc hHeld.1.size _, cellA hHeld.2.1 _, cellA hHeld.2.2.1 _, cellA hHeld.2.2.2.1 _, cellA hHeld.2.2.2.2 _⟩
          clear hK K
          try simp only [List.getElem_toArray, List.getElem_cons_succ, List.getElem_cons_zero, Act.put, List.setIfInBounds_toArray, List.set_cons_zero, List.set_cons_succ]
          refine wpAnyH_ready (rs := [17]) (by kernel_rfl) (by simp) ?_
          refine (AllReadyH.cons rfl (fun K hK => ?_) AllReadyH.nil)
          go_simp
          refine (HLE.out _).mono ?_
          rintro e wn ⟨rfl, rfl⟩
          refine hK.out _ _ ?_ (fun hHeld => ?_)
          · exact hHeld
          clear hK K
          try simp only [List.getElem_toArray, List.getElem_cons_succ, List.getElem_cons_zero, Act.put, List.setIfInBounds_toArray, List.set_cons_zero, List.set_cons_succ]
          refine tk_ 18 hHeld ?_
          refine wpAnyH_done (by kernel_rfl) ?_ _
          refine lastPost_wp ?_
          go_wp2_with fail
          refine (HEM.out _).mono ?_
          rintro e wn ⟨rfl, hbn⟩
          have hb1 : Below wq.heap.size wq (wq.alloc (.cells #[.string M, .string E] 71)).drew := below_drew ((Below.refl _ _).alloc (Nat.le_refl _) _)
          have hbn2 : Below wq.heap.size wq wn := hb1.trans (hbn.mono hb1.size)
          have hBs : Blk wn wq.heap.size 71 #[.string M, .string E] := (Blk.new wq 71 #[.string M, .string E]).drew.below hbn (by simp)
          have HN := Lib.hid (And.intro hbn2 hBs)
          clear hb1 hbn hbn2 hBs hHeld hmx
          have m0 : wn.cell? ⟨wq.heap.size, 0, none⟩ = some (.string M) := HN.out.2.cell 0
          have m1 : wn.cell? ⟨wq.heap.size, 1, none⟩ = some (.string E) := HN.out.2.cell 1
          cases q
          · go_wp2_with (first | ((with_reducible refine gate_builtin (b := .append) (xs := #[.tmp 36, .tmp 38]) rfl ?_); at_builtin; refine stop_append rfl ?_))
            refine Lib.hid ?_
            have HB9 := Lib.hid (HR.out.2.2.2.2.2.2.2.2.trans (HN.out.1.mono HR.out.2.2.2.2.2.2.2.2.size))
            refine Kd.R_append k71 (w0 := w) w.heap.size rfl (.tmp 36) (.tmp 38) 40 71 (.agg #[.string ⟨#[]⟩, .string ⟨#[]⟩]) 32 rfl Tryz.underlying40 info71 rfl (by decide) (by decide) (.slice _ out.length co) out ⟨M, E⟩ [.string M, .string E] (fun _ => True) (fun _ => False) rfl rfl (k71_mkM _ _ _ _) (fun _ h => h.elim) (fun _ _ => trivial) (RowSp.R (pw_own_below HR.out.2.2.2.2.2.2.2.1 HN.out.1)) HB9.out HB9.out.size (by have := HX.out.2.2.2.2; have := HR.out.2.2.2.2.2.2.1; simp only [List.length_cons] at *; omega) ?_
            intro v9 w9 hS9 hB9 hg9 hat9
            have hBs9 := HN.out.2.grown hg9 HNE.out
            obtain ⟨A9, c9, e9⟩ := Kd.R_slice hS9
            have HN9 := Lib.hid (And.intro (RowSp.of_R hS9) hB9)
            rw [e9] at HN9
            rw [e9]
            have m1' : w9.cell? ⟨wq.heap.size, 1, none⟩ = some (.string E) := hBs9.cell 1
            have x1'' : w9.cell? ⟨al.block, al.off + 1, none⟩ = some (.string s1) := pw_cell_below hB9 HX1.out
            clear hS9 hB9 hg9 hat9 e9 m0 m1 hBs9 x0' x1' y0' y1'
            have HCL := Lib.hid (show cutL (⟨s0, s1⟩ :: a') (⟨t0, t1⟩ :: b') = [⟨M, E⟩] ++ (if E = s1 then cutL a' (⟨t0, t1⟩ :: b') else cutL (⟨s0, s1⟩ :: a') b') by
              rw [cutL, HCS.out, if_neg (show ¬ noneS (⟨M, E⟩ : S71) = true by rw [show noneS (⟨M, E⟩ : S71) = false from HQ.out]; simp)])
            by_cases he : E = s1
            · have hbe : (E.toList == s1.toList) = true := by rw [he]; simp
              have HE := Lib.hid he
              clear he
              go_wp2_with fail
              refine wp_region_held (S := (fun W => Below w9.heap.size w9 W ∧ W.cell? ⟨wq.heap.size, 1, none⟩ = some (.string E) ∧ W.cell? ⟨al.block, al.off + 1, none⟩ = some (.string s1))) (by kernel_rfl) ?_
              simp only [List.size_toArray, List.length_cons, List.length_nil, Nat.zero_add, Nat.reduceAdd]
              have hHeld : ((fun W => Below w9.heap.size w9 W ∧ W.cell? ⟨wq.heap.size, 1, none⟩ = some (.string E) ∧ W.cell? ⟨al.block, al.off + 1, none⟩ = some (.string s1))) w9.drew := ⟨below_drew (Below.refl _ _), m1', x1''⟩
              refine tk_ 0 hHeld ?_
              refine tk_ 1 hHeld ?_
              refine tk_ 2 hHeld ?_
              refine tk_ 3 hHeld ?_
              refine tk_ 4 hHeld ?_
              refine tk_ 5 hHeld ?_
              refine tk_ 6 hHeld ?_
              refine wpAnyH_done (by kernel_rfl) ?_ _
              obtain ⟨hq1, hq2, hq3⟩ := hHeld
              have HQ1 := Lib.hid hq1
              clear hq1 hq2 hq3 m1' x1''
              go_wp2
              go_roundw
              case rel => exact ⟨a', ⟨t0, t1⟩ :: b', (out++[⟨M,E⟩]), A2, some bl, A9, c2, cc, c9, rfl, by simp, by simp, Lib.hid ⟨H23.out.1.1, HR.out.2.1, H23.out.1.2 _ HR.out.2.2.1, HR.out.2.2.2.1, by rw [HR.out.2.2.2.2.1, HCL.out, if_pos HE.out]; simp, by have := HR.out.2.2.2.2.2.1; simp only [List.length_cons] at *; omega, by have := HR.out.2.2.2.2.2.2.1; simp only [List.length_cons, List.length_append, List.length_nil] at *; omega, RowSp.under HN9.out.1 HQ1.out, HN9.out.2.trans (HQ1.out.mono HN9.out.2.size)⟩⟩
              case measure => (simp [lenV]; try omega)
            · have hbe : (E.toList == s1.toList) = false := by rw [beq_eq_false_iff_ne]; intro h; exact he (toList_inj.1 h)
              have HE := Lib.hid he
              clear he
              go_wp2_with fail
              refine wp_region_held (S := (fun W => Below w9.heap.size w9 W ∧ W.cell? ⟨wq.heap.size, 1, none⟩ = some (.string E) ∧ W.cell? ⟨al.block, al.off + 1, none⟩ = some (.string s1))) (by kernel_rfl) ?_
              simp only [List.size_toArray, List.length_cons, List.length_nil, Nat.zero_add, Nat.reduceAdd]
              have hHeld : ((fun W => Below w9.heap.size w9 W ∧ W.cell? ⟨wq.heap.size, 1, none⟩ = some (.string E) ∧ W.cell? ⟨al.block, al.off + 1, none⟩ = some (.string s1))) w9.drew := ⟨below_drew (Below.refl _ _), m1', x1''⟩
              refine tk_ 0 hHeld ?_
              refine tk_ 1 hHeld ?_
              refine tk_ 2 hHeld ?_
              refine tk_ 3 hHeld ?_
              refine tk_ 4 hHeld ?_
              refine tk_ 5 hHeld ?_
              refine tk_ 6 hHeld ?_
              refine wpAnyH_done (by kernel_rfl) ?_ _
              obtain ⟨hq1, hq2, hq3⟩ := hHeld
              have HQ1 := Lib.hid hq1
              clear hq1 hq2 hq3 m1' x1''
              go_wp2
              go_roundw
              case rel => exact ⟨⟨s0, s1⟩ :: a', b', (out++[⟨M,E⟩]), some al, A3, A9, ca, c3, c9, by simp, rfl, by simp, Lib.hid ⟨HR.out.1, H23.out.2.1, HR.out.2.2.1, H23.out.2.2 _ HR.out.2.2.2.1, by rw [HR.out.2.2.2.2.1, HCL.out, if_neg HE.out]; simp, by have := HR.out.2.2.2.2.2.1; simp only [List.length_cons] at *; omega, by have := HR.out.2.2.2.2.2.2.1; simp only [List.length_cons, List.length_append, List.length_nil] at *; omega, RowSp.under HN9.out.1 HQ1.out, HN9.out.2.trans (HQ1.out.mono HN9.out.2.size)⟩⟩
              case measure => (simp [lenV]; try omega)
          · have hB9 := HR.out.2.2.2.2.2.2.2.2.trans (HN.out.1.mono HR.out.2.2.2.2.2.2.2.2.size)
            have x1'' : wn.cell? ⟨al.block, al.off + 1, none⟩ = some (.string s1) := pw_cell_below hB9 HX1.out
            have m1' : wn.cell? ⟨wq.heap.size, 1, none⟩ = some (.string E) := m1
            have HN9 := Lib.hid (And.intro (pw_own_below HR.out.2.2.2.2.2.2.2.1 HN.out.1) hB9)
            clear m0 m1 x0' x1' y0' y1' hB9
            have HCL := Lib.hid (show cutL (⟨s0, s1⟩ :: a') (⟨t0, t1⟩ :: b') = [] ++ (if E = s1 then cutL a' (⟨t0, t1⟩ :: b') else cutL (⟨s0, s1⟩ :: a') b') by
              rw [cutL, HCS.out, if_pos (show noneS (⟨M, E⟩ : S71) = true from HQ.out)])
            by_cases he : E = s1
            · have hbe : (E.toList == s1.toList) = true := by rw [he]; simp
              have HE := Lib.hid he
              clear he
              go_wp2_with fail
              refine wp_region_held (S := (fun W => Below wn.heap.size wn W ∧ W.cell? ⟨wq.heap.size, 1, none⟩ = some (.string E) ∧ W.cell? ⟨al.block, al.off + 1, none⟩ = some (.string s1))) (by kernel_rfl) ?_
              simp only [List.size_toArray, List.length_cons, List.length_nil, Nat.zero_add, Nat.reduceAdd]
              have hHeld : ((fun W => Below wn.heap.size wn W ∧ W.cell? ⟨wq.heap.size, 1, none⟩ = some (.string E) ∧ W.cell? ⟨al.block, al.off + 1, none⟩ = some (.string s1))) wn.drew := ⟨below_drew (Below.refl _ _), m1', x1''⟩
              refine tk_ 0 hHeld ?_
              refine tk_ 1 hHeld ?_
              refine tk_ 2 hHeld ?_
              refine tk_ 3 hHeld ?_
              refine tk_ 4 hHeld ?_
              refine tk_ 5 hHeld ?_
              refine tk_ 6 hHeld ?_
              refine wpAnyH_done (by kernel_rfl) ?_ _
              obtain ⟨hq1, hq2, hq3⟩ := hHeld
              have HQ1 := Lib.hid hq1
              clear hq1 hq2 hq3 m1' x1''
              go_wp2
              go_roundw
              case rel => exact ⟨a', ⟨t0, t1⟩ :: b', out, A2, some bl, C', c2, cc, co, rfl, by simp, by simp, Lib.hid ⟨H23.out.1.1, HR.out.2.1, H23.out.1.2 _ HR.out.2.2.1, HR.out.2.2.2.1, by rw [HR.out.2.2.2.2.1, HCL.out, if_pos HE.out]; simp, by have := HR.out.2.2.2.2.2.1; simp only [List.length_cons] at *; omega, by have := HR.out.2.2.2.2.2.2.1; simp only [List.length_cons, List.length_append, List.length_nil] at *; omega, RowSp.under HN9.out.1 HQ1.out, HN9.out.2.trans (HQ1.out.mono HN9.out.2.size)⟩⟩
              case measure => (simp [lenV]; try omega)
            · have hbe : (E.toList == s1.toList) = false := by rw [beq_eq_false_iff_ne]; intro h; exact he (toList_inj.1 h)
              have HE := Lib.hid he
              clear he
              go_wp2_with fail
              refine wp_region_held (S := (fun W => Below wn.heap.size wn W ∧ W.cell? ⟨wq.heap.size, 1, none⟩ = some (.string E) ∧ W.cell? ⟨al.block, al.off + 1, none⟩ = some (.string s1))) (by kernel_rfl) ?_
              simp only [List.size_toArray, List.length_cons, List.length_nil, Nat.zero_add, Nat.reduceAdd]
              have hHeld : ((fun W => Below wn.heap.size wn W ∧ W.cell? ⟨wq.heap.size, 1, none⟩ = some (.string E) ∧ W.cell? ⟨al.block, al.off + 1, none⟩ = some (.string s1))) wn.drew := ⟨below_drew (Below.refl _ _), m1', x1''⟩
              refine tk_ 0 hHeld ?_
              refine tk_ 1 hHeld ?_
              refine tk_ 2 hHeld ?_
              refine tk_ 3 hHeld ?_
              refine tk_ 4 hHeld ?_
              refine tk_ 5 hHeld ?_
              refine tk_ 6 hHeld ?_
              refine wpAnyH_done (by kernel_rfl) ?_ _
              obtain ⟨hq1, hq2, hq3⟩ := hHeld
              have HQ1 := Lib.hid hq1
              clear hq1 hq2 hq3 m1' x1''
              go_wp2
              go_roundw
              case rel => exact ⟨⟨s0, s1⟩ :: a', b', out, some al, A3, C', ca, c3, co, by simp, rfl, by simp, Lib.hid ⟨HR.out.1, H23.out.2.1, HR.out.2.2.1, H23.out.2.2 _ HR.out.2.2.2.1, by rw [HR.out.2.2.2.2.1, HCL.out, if_neg HE.out]; simp, by have := HR.out.2.2.2.2.2.1; simp only [List.length_cons] at *; omega, by have := HR.out.2.2.2.2.2.2.1; simp only [List.length_cons, List.length_append, List.length_nil] at *; omega, RowSp.under HN9.out.1 HQ1.out, HN9.out.2.trans (HQ1.out.mono HN9.out.2.size)⟩⟩
              case measure => (simp [lenV]; try omega)
def span_Cut.f (a b : List S71) : Option (List S71) := if a.length + b.length ≤ 1000000 then some (cutL a b) else none
theorem span_Cut.calls (A0 : Option Addr) (c0 : Nat) (l0 : List S71) (A1 : Option Addr) (c1 : Nat) (l1 : List S71) (r : List S71) (w : World) (hr0 : Kd.C k71 w A0 l0.length l0) (_hc0 : l0.length ≤ c0) (hr1 : Kd.C k71 w A1 l1.length l1) (_hc1 : l1.length ≤ c1) (h : span_Cut.f l0 l1 = some r) :
    Calls Tryz.prog 137 #[.slice A0 l0.length c0, .slice A1 l1.length c1] w fun e w' => ∃ v0_ : Value, e = .returned (v0_) ∧ Kd.R k71 71 w' w.heap.size (fun _ => True) v0_ r ∧ Below w.heap.size w w' := by
  unfold span_Cut.f at h
  split at h
  · rename_i hl
    injection h with h
    subst h
    exact (cut_any A0 c0 l0 A1 c1 l1 w hr0 _hc0 hr1 _hc1 hl).mono fun e w' ⟨v, he, ho, hb⟩ => ⟨v, he, ho.R, hb⟩
  · cases h
end Go.Proofs.YtgmlenpcchhmbaaGreat.P
end
section
set_option linter.unusedVariables false
set_option linter.unusedSimpArgs false

end
section
set_option linter.unusedVariables false
set_option linter.unusedSimpArgs false
namespace Go.Proofs.YtgmlenpcchhmbaaGreat.P
theorem agree_of {d e : List S61} (hd : SortK (d.map toA)) (he : SortK (e.map toA)) (R : List S71) (h : ∀ k, hasSs R k = true → getL (d.map toA) k = getL (e.map toA) k) : Agree R (startT d) (startT e) := by
  refine ⟨start_ok d, start_ok e, rfl, fun k hk => ?_⟩
  rw [start_d hd, start_d he]
  rcases hk with hk | hk
  · exact h k hk
  · cases hk
theorem getL_writes {d : List S61} (s : St) (k : ByteArray) : getL ((applyT d (writesT s)).map toA) k = if (getL s.c k).isSome then getL s.d k else getL (d.map toA) k := getL_apply s.d s.c d k
theorem agree_other {d : List S61} (hd : SortK (d.map toA)) (s : St) (R : List S71) (h : ∀ k, (getL s.c k).isSome = true → hasSs R k = false) : Agree R (startT d) (startT (applyT d (writesT s))) := by
  refine agree_of hd (applyT_sort _ hd) R fun k hk => ?_
  rw [getL_writes]
  split
  · rename_i e; rw [h k e] at hk; cases hk
  · rfl
theorem apply_swap {d : List S61} (hd : SortK (d.map toA)) (s t : St) (h : ∀ k, (getL s.c k).isSome = true → (getL t.c k).isSome = false) : applyT (applyT d (writesT s)) (writesT t) = applyT (applyT d (writesT t)) (writesT s) := by
  have e : (applyT (applyT d (writesT s)) (writesT t)).map toA = (applyT (applyT d (writesT t)) (writesT s)).map toA := by
    refine sort_ext (applyT_sort _ (applyT_sort _ hd)) (applyT_sort _ (applyT_sort _ hd)) fun k => ?_
    rw [getL_writes, getL_writes, getL_writes, getL_writes]
    by_cases g : (getL s.c k).isSome = true
    · rw [if_pos g, if_neg (by rw [h k g]; simp), if_pos g]
    · rw [if_neg g, if_neg g]
  have e2 := congrArg (List.map ofA) e
  rwa [map_ofA_toA, map_ofA_toA] at e2
end Go.Proofs.YtgmlenpcchhmbaaGreat.P
end
section
set_option linter.unusedVariables false
set_option linter.unusedSimpArgs false
namespace Go.Proofs.YtgmlenpcchhmbaaGreat.P
open Go.RowKit Go.Proofs.YtgmlenpcchhmbaaGreatW.PrintWords Go.Proofs.YtgmlenpcchhmbaaGreatW.PrintLast Go.Proofs.YtgmlenpcchhmbaaGreatW.PrintMore
attribute [local go_sem] max2_int min2_int max_two min_two max_three min_three max_four min_four   -- for this text's walks alone
def txn_All.f (k : Nat) (l0 : List (S63)) : Option ((List (S71))) := (txn_Reads.f k l0).bind fun t775 => ((txn_Writes.f k l0).bind fun t778 => (if t775.length + t778.length < 4398046511104 then ((span_Union.f (t775 ++ t778)).bind fun t784 => (some t784)) else (none)))
set_option maxHeartbeats 8000000 in
set_option maxRecDepth 100000 in
theorem txn_All.calls (k : Nat) (A0 : Option Addr) (c0 : Nat) (l0 : List (S63)) (r : List (S71)) (w : World) (hr0 : Kd.C k63 w A0 l0.length l0) (hc0 : l0.length ≤ c0) (h : txn_All.f k l0 = some r) :
  Calls Tryz.prog 42 #[.slice A0 l0.length c0] w fun e w' => ∃ v0_ : Value, e = .returned (v0_) ∧ Kd.R k71 71 w' w.heap.size (fun _ => True) v0_ r ∧ Below w.heap.size w w' := by
 have HR0 := Aside0.mk hr0
 have HC0 := Aside0.mk hc0
 clear hr0 hc0
 have HB := Aside0.mk (Below.refl w.heap.size w)
 have H : ((txn_Reads.f k l0).bind fun t775 => ((txn_Writes.f k l0).bind fun t778 => (if t775.length + t778.length < 4398046511104 then ((span_Union.f (t775 ++ t778)).bind fun t784 => (some t784)) else (none)))) = some r := h
 clear h
 replace H := Option.bind_eq_some_iff.mp H
 obtain ⟨t775, A20, H⟩ := H
 replace H : ((txn_Writes.f k l0).bind fun t778 => (if t775.length + t778.length < 4398046511104 then ((span_Union.f (t775 ++ t778)).bind fun t784 => (some t784)) else (none))) = some r := H
 have A2 := Aside0.mk A20
 clear A20
 replace H := Option.bind_eq_some_iff.mp H
 obtain ⟨t778, A30, H⟩ := H
 replace H : (if t775.length + t778.length < 4398046511104 then ((span_Union.f (t775 ++ t778)).bind fun t784 => (some t784)) else (none)) = some r := H
 have A3 := Aside0.mk A30
 clear A30
 by_cases c4 : t775.length + t778.length < 4398046511104
 ·rw [if_pos c4] at H
  have LMc4 := Aside0.mk c4
  clear c4
  obtain ⟨y781, hy781⟩ : ∃ y_ : List (S71), y_ = (t775 ++ t778) := ⟨_, rfl⟩
  replace H : ((span_Union.f y781).bind fun t784 => (some t784)) = some r := by first | (rw [hy781]; with_reducible exact H) | (have H2_ := (Option.bind_some _ _).symm.trans H; rw [hy781]; with_reducible exact H2_) | (have H2_ := (Option.bind_some _ _).symm.trans H; with_reducible exact H2_) | with_reducible exact H | (rw [hy781]; exact H) | exact H
  have Ny781 := Aside0.mk hy781
  clear hy781
  replace H := Option.bind_eq_some_iff.mp H
  obtain ⟨t784, A50, H⟩ := H
  replace H : (some t784) = some r := H
  have A5 := Aside0.mk A50
  clear A50
  obtain rfl := Option.some.inj H
  go_enter Tryz.func42, Tryz.ntmps42
  go_wp2_with (first | ((with_reducible refine gate_callee (f := 38) rfl ?_); refine goesL_ (some 4) rfl rfl Tryz.func38 (by kernel_rfl) rfl #[.slice A0 l0.length c0] rfl (by (try simp only [List.map_toArray, List.map_cons, List.map_nil]); first | done | rfl | (simp only [List.length_drop, List.length_take]; rfl)) ?_; (with_reducible refine (txn_Reads.calls k _ _ l0 t775 _ ?side1 ?side2 A2.out).mono ?_); (case side1 => repeat (first | exact HR0.out | (with_reducible refine Kd.C_alloc ?_ _) | (with_reducible refine Kd.C_drewN ?_ _) | (with_reducible refine Kd.C_drew ?_))); (case side2 => exact HC0.out); rintro e w6 ⟨v776, rfl, ho0, hb⟩; refine ⟨_, rfl, ?_⟩; have n0_ := Aside0.mk (Kd.R_lower ho0 (below_size bB_)); have n1_ := Aside0.mk (below_step bB_ hb); clear HB; have HO777 := n0_; have HB := n1_; clear n0_ n1_; (try clear hb); (try clear hb2); (try clear hk); (try clear hi); (try clear ho0)) | ((with_reducible refine gate_callee (f := 39) rfl ?_); refine goesL_ (some 6) rfl rfl Tryz.func39 (by kernel_rfl) rfl #[.slice A0 l0.length c0] rfl (by (try simp only [List.map_toArray, List.map_cons, List.map_nil]); first | done | rfl | (simp only [List.length_drop, List.length_take]; rfl)) ?_; (with_reducible refine (txn_Writes.calls k _ _ l0 t778 _ ?side1 ?side2 A3.out).mono ?_); (case side1 => repeat (first | exact (Kd.C_below HR0.out HB.out) | (with_reducible refine Kd.C_alloc ?_ _) | (with_reducible refine Kd.C_drewN ?_ _) | (with_reducible refine Kd.C_drew ?_))); (case side2 => exact HC0.out); rintro e w7 ⟨v779, rfl, ho0, hb⟩; refine ⟨_, rfl, ?_⟩; have n0_ := Aside0.mk (Kd.R_elder' (rR_ HO777.out) (Kd.R_base ho0) hb); have n1_ := Aside0.mk (Kd.R_lower (Kd.R_new' ho0 (Kd.R_lt (rR_ HO777.out))) (below_size bB_)); have n2_ := Aside0.mk (below_step bB_ hb); clear HO777; clear HB; have HO777 := n0_; have HO780 := n1_; have HB := n2_; clear n0_ n1_ n2_; (try clear hb); (try clear hb2); (try clear hk); (try clear hi); (try clear ho0); obtain ⟨Ao9, co9, eo9⟩ := Kd.R_slice HO780.out; subst eo9) | ((with_reducible refine gate_builtin (b := .append) (xs := #[.tmp 4, .tmp 6]) rfl ?_); at_builtin; refine Kd.R_append_rows k71 (w0 := w) w.heap.size rfl (.tmp 4) (.tmp 6) 40 71 (.agg #[(.string ⟨#[]⟩), (.string ⟨#[]⟩)]) 32 rfl Tryz.underlying40 info71 rfl (by decide) (by omega) v776 t775 t778 _ _ _ (fun k_ => some k_ ≠ (.slice Ao9 t778.length co9 : Value).ownBlock) (fun _ => False) rfl rfl ?aO ?aR (fun _ _ h => h) (fun _ h => h.elim) ?aF ?aB ?aS ?aL ?_; (case aR => repeat (first | exact (Kd.R_reads' HO780.out).2.2 | (with_reducible refine Kd.C_alloc ?_ _) | (with_reducible refine Kd.C_drewN ?_ _) | (with_reducible refine Kd.C_drew ?_))); (case aB => exact bB_); (case aF => exact (fun k_ hk => Kd.fresh' (Kd.R_lt (rR_ HO780.out)) k_ hk)); (case aO => exact (by (with_reducible repeat (first | apply Kd.R_alloc | apply Kd.R_drewN | apply Kd.R_drew)); exact Kd.R_mono HO777.out (fun _ hk => hk.2))); (case aS => exact (below_size bB_)); (case aL => have := LMc4.out; omega); intro v782 w8 ho hb hg hat; rw [← Ny781.out] at ho; have n0_ := Aside0.mk (Kd.R_after (ok := (fun _ => True)) (rR_ HO780.out) hg hat); have n1_ := Aside0.mk (hb); have n2_ := Aside0.mk (ho); clear HO780; clear HB; clear HO777; have HO780 := n0_; have HB := n1_; have HO783 := n2_; clear n0_ n1_ n2_; clear ho hb hg hat; obtain ⟨Ao10, co10, eo10⟩ := Kd.R_slice HO783.out; subst eo10) | ((with_reducible refine gate_callee (f := 88) rfl ?_); refine goesL_ (some 8) rfl rfl Tryz.func88 (by kernel_rfl) rfl #[.slice Ao10 y781.length co10] rfl (by (try simp only [List.map_toArray, List.map_cons, List.map_nil]); first | done | rfl | (simp only [List.length_drop, List.length_take]; rfl)) ?_; (with_reducible refine (span_Union.calls _ _ y781 t784 _ ?side1 ?side2 A5.out).mono ?_); (case side1 => repeat (first | exact (Kd.R_reads' HO783.out).2.2 | (with_reducible refine Kd.C_alloc ?_ _) | (with_reducible refine Kd.C_drewN ?_ _) | (with_reducible refine Kd.C_drew ?_))); (case side2 => exact (Kd.R_reads' HO783.out).2.1); rintro e w11 ⟨v785, rfl, ho0, hb⟩; refine ⟨_, rfl, ?_⟩; have n0_ := Aside0.mk (Kd.R_elder' (rR_ HO780.out) (Kd.R_base ho0) hb); have n1_ := Aside0.mk (Kd.R_elder' (rR_ HO783.out) (Kd.R_base ho0) hb); have n2_ := Aside0.mk (Kd.R_lower (Kd.R_new' (Kd.R_new' ho0 (Kd.R_lt (rR_ HO780.out))) (Kd.R_lt (rR_ HO783.out))) (below_size bB_)); have n3_ := Aside0.mk (below_step bB_ hb); clear HO780; clear HO783; clear HB; have HO780 := n0_; have HO783 := n1_; have HO786 := n2_; have HB := n3_; clear n0_ n1_ n2_ n3_; (try clear hb); (try clear hb2); (try clear hk); (try clear hi); (try clear ho0)))
  go_ret
  exact ⟨_, by first | rfl | (rw [bl_gt] <;> rfl) | (simp [errW_none, errW_some] <;> rfl) | (simp [*, errW_none, errW_some] <;> rfl), by (with_reducible repeat (first | apply Kd.R_alloc | apply Kd.R_drewN | apply Kd.R_drew)); exact Kd.R_mono HO786.out (fun _ hk => trivial), bB_⟩
 ·rw [if_neg c4] at H
  exact absurd H (by simp)
end Go.Proofs.YtgmlenpcchhmbaaGreat.P
end
section
set_option linter.unusedVariables false
set_option linter.unusedSimpArgs false
namespace Go.Proofs.YtgmlenpcchhmbaaGreat.P
open Go.RowKit Go.Proofs.YtgmlenpcchhmbaaGreatW.PrintWords Go.Proofs.YtgmlenpcchhmbaaGreatW.PrintLast Go.Proofs.YtgmlenpcchhmbaaGreatW.PrintMore
attribute [local go_sem] max2_int min2_int max_two min_two max_three min_three max_four min_four   -- for this text's walks alone
end Go.Proofs.YtgmlenpcchhmbaaGreat.P
end
section
set_option linter.unusedVariables false
set_option linter.unusedSimpArgs false
namespace Go.Proofs.YtgmlenpcchhmbaaGreat.P
open Go.RowKit Go.Proofs.YtgmlenpcchhmbaaGreatW.PrintWords Go.Proofs.YtgmlenpcchhmbaaGreatW.PrintLast
def allT (l : List S63) : List S71 := unionT (unionT (setSp rK l) ++ unionT (setSp wK l))
theorem reads_le (l : List S63) (hl : l.length ≤ 8) : (unionT (setSp rK l)).length ≤ 16 ∧ (unionT (setSp wK l)).length ≤ 16 := by
  have h1 := union_len (setSp rK l)
  have h2 := union_len (setSp wK l)
  have h3 := setSp_le rK l
  have h4 := setSp_le wK l
  omega
theorem allT_le (l : List S63) (hl : l.length ≤ 8) : (allT l).length ≤ 32 := by
  have h1 := union_len (unionT (setSp rK l) ++ unionT (setSp wK l))
  have h2 := reads_le l hl
  rw [List.length_append] at h1
  unfold allT
  omega
theorem ev_all (l : List S63) (hl : l.length ≤ 8) (hs : ∀ o ∈ l, o.f1.size ≤ 16 ∧ o.f2.size ≤ 16) : Ev (fun k => txn_All.f k l) (allT l) := by
  have h := reads_le l hl
  unfold txn_All.f
  refine Ev.bind (ev_reads l hl hs) (Ev.bind (ev_writes l hl hs) (Ev.yes (by omega) (Ev.bind1 (r := allT l) ?_ (Ev.some _))))
  unfold span_Union.f
  rw [if_pos (by rw [List.length_append]; omega)]
  rfl
end Go.Proofs.YtgmlenpcchhmbaaGreat.P
end
section
set_option linter.unusedVariables false
set_option linter.unusedSimpArgs false
namespace Go.Proofs.YtgmlenpcchhmbaaGreat.P
open Go.RowKit Go.Proofs.YtgmlenpcchhmbaaGreatW.PrintWords Go.Proofs.YtgmlenpcchhmbaaGreatW.PrintLast Go.Proofs.YtgmlenpcchhmbaaGreatW.PrintMore
attribute [local go_sem] max2_int min2_int max_two min_two max_three min_three max_four min_four   -- for this text's walks alone
def span_Meet.f (l0 : List (S71)) (l1 : List (S71)) : Option (Bool) := (span_Cut.f l0 l1).bind fun t893 => (some (decide ((t893.length : Int) > 0)))
set_option maxHeartbeats 8000000 in
set_option maxRecDepth 100000 in
theorem span_Meet.calls (A0 : Option Addr) (c0 : Nat) (l0 : List (S71)) (A1 : Option Addr) (c1 : Nat) (l1 : List (S71)) (r : Bool) (w : World) (hr0 : Kd.C k71 w A0 l0.length l0) (hc0 : l0.length ≤ c0) (hr1 : Kd.C k71 w A1 l1.length l1) (hc1 : l1.length ≤ c1) (h : span_Meet.f l0 l1 = some r) :
  Calls Tryz.prog 90 #[.slice A0 l0.length c0, .slice A1 l1.length c1] w fun e w' => e = .returned (.bool r) ∧ Below w.heap.size w w' := by
 have HR0 := Aside0.mk hr0
 have HC0 := Aside0.mk hc0
 clear hr0 hc0
 have HR1 := Aside0.mk hr1
 have HC1 := Aside0.mk hc1
 clear hr1 hc1
 have HB := Aside0.mk (Below.refl w.heap.size w)
 have H : ((span_Cut.f l0 l1).bind fun t893 => (some (decide ((t893.length : Int) > 0)))) = some r := h
 clear h
 replace H := Option.bind_eq_some_iff.mp H
 obtain ⟨t893, A30, H⟩ := H
 replace H : (some (decide ((t893.length : Int) > 0))) = some r := H
 have A3 := Aside0.mk A30
 clear A30
 obtain rfl := Option.some.inj H
 go_enter Tryz.func90, Tryz.ntmps90
 go_wp2_with (first | ((with_reducible refine gate_callee (f := 137) rfl ?_); refine goesL_ (some 7) rfl rfl Tryz.func137 (by kernel_rfl) rfl #[.slice A0 l0.length c0, .slice A1 l1.length c1] rfl (by (try simp only [List.map_toArray, List.map_cons, List.map_nil]); first | done | rfl | (simp only [List.length_drop, List.length_take]; rfl)) ?_; (with_reducible refine (span_Cut.calls _ _ l0 _ _ l1 t893 _ ?side1 ?side2 ?side3 ?side4 A3.out).mono ?_); (case side1 => repeat (first | exact HR0.out | (with_reducible refine Kd.C_alloc ?_ _) | (with_reducible refine Kd.C_drewN ?_ _) | (with_reducible refine Kd.C_drew ?_))); (case side2 => exact HC0.out); (case side3 => repeat (first | exact HR1.out | (with_reducible refine Kd.C_alloc ?_ _) | (with_reducible refine Kd.C_drewN ?_ _) | (with_reducible refine Kd.C_drew ?_))); (case side4 => exact HC1.out); rintro e w4 ⟨v894, rfl, ho0, hb⟩; refine ⟨_, rfl, ?_⟩; have n0_ := Aside0.mk (Kd.R_lower ho0 (below_size bB_)); have n1_ := Aside0.mk (below_step bB_ hb); clear HB; have HO895 := n0_; have HB := n1_; clear n0_ n1_; (try clear hb); (try clear hb2); (try clear hk); (try clear hi); (try clear ho0); obtain ⟨Ao5, co5, eo5⟩ := Kd.R_slice HO895.out; subst eo5))
 go_ret
 exact ⟨by first | rfl | (rw [bl_gt] <;> rfl) | (simp [errW_none, errW_some] <;> rfl) | (simp [*, errW_none, errW_some] <;> rfl), bB_⟩
end Go.Proofs.YtgmlenpcchhmbaaGreat.P
end
section
set_option linter.unusedVariables false
set_option linter.unusedSimpArgs false
namespace Go.Proofs.YtgmlenpcchhmbaaGreat.P
open Go.RowKit Go.Proofs.YtgmlenpcchhmbaaGreatW.PrintWords Go.Proofs.YtgmlenpcchhmbaaGreatW.PrintLast Go.Proofs.YtgmlenpcchhmbaaGreatW.PrintMore
attribute [local go_sem] max2_int min2_int max_two min_two max_three min_three max_four min_four   -- for this text's walks alone
def txn_Conflict.f (k : Nat) (l0 : List (S63)) (l1 : List (S63)) : Option (Bool) := (txn_Writes.f k l0).bind fun t896 => ((txn_All.f k l1).bind fun t899 => ((span_Meet.f t896 t899).bind fun t902 => (if t902 = true then (some true) else ((txn_Writes.f k l1).bind fun t903 => ((txn_All.f k l0).bind fun t906 => ((span_Meet.f t903 t906).bind fun t909 => (some t909)))))))
set_option maxHeartbeats 8000000 in
set_option maxRecDepth 100000 in
theorem txn_Conflict.calls (k : Nat) (A0 : Option Addr) (c0 : Nat) (l0 : List (S63)) (A1 : Option Addr) (c1 : Nat) (l1 : List (S63)) (r : Bool) (w : World) (hr0 : Kd.C k63 w A0 l0.length l0) (hc0 : l0.length ≤ c0) (hr1 : Kd.C k63 w A1 l1.length l1) (hc1 : l1.length ≤ c1) (h : txn_Conflict.f k l0 l1 = some r) :
  Calls Tryz.prog 46 #[.slice A0 l0.length c0, .slice A1 l1.length c1] w fun e w' => e = .returned (.bool r) ∧ Below w.heap.size w w' := by
 have HR0 := Aside0.mk hr0
 have HC0 := Aside0.mk hc0
 clear hr0 hc0
 have HR1 := Aside0.mk hr1
 have HC1 := Aside0.mk hc1
 clear hr1 hc1
 have HB := Aside0.mk (Below.refl w.heap.size w)
 have H : ((txn_Writes.f k l0).bind fun t896 => ((txn_All.f k l1).bind fun t899 => ((span_Meet.f t896 t899).bind fun t902 => (if t902 = true then (some true) else ((txn_Writes.f k l1).bind fun t903 => ((txn_All.f k l0).bind fun t906 => ((span_Meet.f t903 t906).bind fun t909 => (some t909)))))))) = some r := h
 clear h
 replace H := Option.bind_eq_some_iff.mp H
 obtain ⟨t896, A30, H⟩ := H
 replace H : ((txn_All.f k l1).bind fun t899 => ((span_Meet.f t896 t899).bind fun t902 => (if t902 = true then (some true) else ((txn_Writes.f k l1).bind fun t903 => ((txn_All.f k l0).bind fun t906 => ((span_Meet.f t903 t906).bind fun t909 => (some t909))))))) = some r := H
 have A3 := Aside0.mk A30
 clear A30
 replace H := Option.bind_eq_some_iff.mp H
 obtain ⟨t899, A40, H⟩ := H
 replace H : ((span_Meet.f t896 t899).bind fun t902 => (if t902 = true then (some true) else ((txn_Writes.f k l1).bind fun t903 => ((txn_All.f k l0).bind fun t906 => ((span_Meet.f t903 t906).bind fun t909 => (some t909)))))) = some r := H
 have A4 := Aside0.mk A40
 clear A40
 replace H := Option.bind_eq_some_iff.mp H
 obtain ⟨t902, A50, H⟩ := H
 replace H : (if t902 = true then (some true) else ((txn_Writes.f k l1).bind fun t903 => ((txn_All.f k l0).bind fun t906 => ((span_Meet.f t903 t906).bind fun t909 => (some t909))))) = some r := H
 have A5 := Aside0.mk A50
 clear A50
 by_cases c6 : t902 = true
 ·subst c6
  have H1 : (some true) = some r := by rw [if_pos rfl] at H; exact H
  clear H
  have H := H1
  clear H1
  obtain rfl := Option.some.inj H
  go_enter Tryz.func46, Tryz.ntmps46
  go_wp2_with (first | ((with_reducible refine gate_callee (f := 39) rfl ?_); refine goesL_ (some 6) rfl rfl Tryz.func39 (by kernel_rfl) rfl #[.slice A0 l0.length c0] rfl (by (try simp only [List.map_toArray, List.map_cons, List.map_nil]); first | done | rfl | (simp only [List.length_drop, List.length_take]; rfl)) ?_; (with_reducible refine (txn_Writes.calls k _ _ l0 t896 _ ?side1 ?side2 A3.out).mono ?_); (case side1 => repeat (first | exact HR0.out | (with_reducible refine Kd.C_alloc ?_ _) | (with_reducible refine Kd.C_drewN ?_ _) | (with_reducible refine Kd.C_drew ?_))); (case side2 => exact HC0.out); rintro e w7 ⟨v897, rfl, ho0, hb⟩; refine ⟨_, rfl, ?_⟩; have n0_ := Aside0.mk (Kd.R_lower ho0 (below_size bB_)); have n1_ := Aside0.mk (below_step bB_ hb); clear HB; have HO898 := n0_; have HB := n1_; clear n0_ n1_; (try clear hb); (try clear hb2); (try clear hk); (try clear hi); (try clear ho0)) | ((with_reducible refine gate_callee (f := 42) rfl ?_); refine goesL_ (some 8) rfl rfl Tryz.func42 (by kernel_rfl) rfl #[.slice A1 l1.length c1] rfl (by (try simp only [List.map_toArray, List.map_cons, List.map_nil]); first | done | rfl | (simp only [List.length_drop, List.length_take]; rfl)) ?_; (with_reducible refine (txn_All.calls k _ _ l1 t899 _ ?side1 ?side2 A4.out).mono ?_); (case side1 => repeat (first | exact (Kd.C_below HR1.out HB.out) | (with_reducible refine Kd.C_alloc ?_ _) | (with_reducible refine Kd.C_drewN ?_ _) | (with_reducible refine Kd.C_drew ?_))); (case side2 => exact HC1.out); rintro e w8 ⟨v900, rfl, ho0, hb⟩; refine ⟨_, rfl, ?_⟩; have n0_ := Aside0.mk (Kd.R_elder' (rR_ HO898.out) (Kd.R_base ho0) hb); have n1_ := Aside0.mk (Kd.R_lower (Kd.R_new' ho0 (Kd.R_lt (rR_ HO898.out))) (below_size bB_)); have n2_ := Aside0.mk (below_step bB_ hb); clear HO898; clear HB; have HO898 := n0_; have HO901 := n1_; have HB := n2_; clear n0_ n1_ n2_; (try clear hb); (try clear hb2); (try clear hk); (try clear hi); (try clear ho0); obtain ⟨Ao9, co9, eo9⟩ := Kd.R_slice HO898.out; subst eo9; obtain ⟨Ao10, co10, eo10⟩ := Kd.R_slice HO901.out; subst eo10) | ((with_reducible refine gate_callee (f := 90) rfl ?_); refine goesL_ (some 9) rfl rfl Tryz.func90 (by kernel_rfl) rfl #[.slice Ao9 t896.length co9, .slice Ao10 t899.length co10] rfl (by (try simp only [List.map_toArray, List.map_cons, List.map_nil]); first | done | rfl | (simp only [List.length_drop, List.length_take]; rfl)) ?_; (with_reducible refine (span_Meet.calls _ _ t896 _ _ t899 true _ ?side1 ?side2 ?side3 ?side4 A5.out).mono ?_); (case side1 => repeat (first | exact (Kd.R_reads' HO898.out).2.2 | (with_reducible refine Kd.C_alloc ?_ _) | (with_reducible refine Kd.C_drewN ?_ _) | (with_reducible refine Kd.C_drew ?_))); (case side2 => exact (Kd.R_reads' HO898.out).2.1); (case side3 => repeat (first | exact (Kd.R_reads' HO901.out).2.2 | (with_reducible refine Kd.C_alloc ?_ _) | (with_reducible refine Kd.C_drewN ?_ _) | (with_reducible refine Kd.C_drew ?_))); (case side4 => exact (Kd.R_reads' HO901.out).2.1); rintro e w11 ⟨rfl, hb⟩; refine ⟨_, rfl, ?_⟩; have n0_ := Aside0.mk (Kd.R_below (rR_ HO898.out) hb); have n1_ := Aside0.mk (Kd.R_below (rR_ HO901.out) hb); have n2_ := Aside0.mk (below_step bB_ hb); clear HO898; clear HO901; clear HB; have HO898 := n0_; have HO901 := n1_; have HB := n2_; clear n0_ n1_ n2_; (try clear hb); (try clear hb2); (try clear hk); (try clear hi)))
  go_ret
  exact ⟨by first | rfl | (rw [bl_gt] <;> rfl) | (simp [errW_none, errW_some] <;> rfl) | (simp [*, errW_none, errW_some] <;> rfl), bB_⟩
 ·replace c6 := Bool.eq_false_iff.mpr c6
  subst c6
  have H1 : ((txn_Writes.f k l1).bind fun t903 => ((txn_All.f k l0).bind fun t906 => ((span_Meet.f t903 t906).bind fun t909 => (some t909)))) = some r := by rw [if_neg (show ¬ (false = true) by decide)] at H; exact H
  clear H
  have H := H1
  clear H1
  replace H := Option.bind_eq_some_iff.mp H
  obtain ⟨t903, A120, H⟩ := H
  replace H : ((txn_All.f k l0).bind fun t906 => ((span_Meet.f t903 t906).bind fun t909 => (some t909))) = some r := H
  have A12 := Aside0.mk A120
  clear A120
  replace H := Option.bind_eq_some_iff.mp H
  obtain ⟨t906, A130, H⟩ := H
  replace H : ((span_Meet.f t903 t906).bind fun t909 => (some t909)) = some r := H
  have A13 := Aside0.mk A130
  clear A130
  replace H := Option.bind_eq_some_iff.mp H
  obtain ⟨t909, A140, H⟩ := H
  replace H : (some t909) = some r := H
  have A14 := Aside0.mk A140
  clear A140
  obtain rfl := Option.some.inj H
  go_enter Tryz.func46, Tryz.ntmps46
  go_wp2_with (first | ((with_reducible refine gate_callee (f := 39) rfl ?_); refine goesL_ (some 6) rfl rfl Tryz.func39 (by kernel_rfl) rfl #[.slice A0 l0.length c0] rfl (by (try simp only [List.map_toArray, List.map_cons, List.map_nil]); first | done | rfl | (simp only [List.length_drop, List.length_take]; rfl)) ?_; (with_reducible refine (txn_Writes.calls k _ _ l0 t896 _ ?side1 ?side2 A3.out).mono ?_); (case side1 => repeat (first | exact HR0.out | (with_reducible refine Kd.C_alloc ?_ _) | (with_reducible refine Kd.C_drewN ?_ _) | (with_reducible refine Kd.C_drew ?_))); (case side2 => exact HC0.out); rintro e w15 ⟨v897, rfl, ho0, hb⟩; refine ⟨_, rfl, ?_⟩; have n0_ := Aside0.mk (Kd.R_lower ho0 (below_size bB_)); have n1_ := Aside0.mk (below_step bB_ hb); clear HB; have HO898 := n0_; have HB := n1_; clear n0_ n1_; (try clear hb); (try clear hb2); (try clear hk); (try clear hi); (try clear ho0)) | ((with_reducible refine gate_callee (f := 42) rfl ?_); refine goesL_ (some 8) rfl rfl Tryz.func42 (by kernel_rfl) rfl #[.slice A1 l1.length c1] rfl (by (try simp only [List.map_toArray, List.map_cons, List.map_nil]); first | done | rfl | (simp only [List.length_drop, List.length_take]; rfl)) ?_; (with_reducible refine (txn_All.calls k _ _ l1 t899 _ ?side1 ?side2 A4.out).mono ?_); (case side1 => repeat (first | exact (Kd.C_below HR1.out HB.out) | (with_reducible refine Kd.C_alloc ?_ _) | (with_reducible refine Kd.C_drewN ?_ _) | (with_reducible refine Kd.C_drew ?_))); (case side2 => exact HC1.out); rintro e w16 ⟨v900, rfl, ho0, hb⟩; refine ⟨_, rfl, ?_⟩; have n0_ := Aside0.mk (Kd.R_elder' (rR_ HO898.out) (Kd.R_base ho0) hb); have n1_ := Aside0.mk (Kd.R_lower (Kd.R_new' ho0 (Kd.R_lt (rR_ HO898.out))) (below_size bB_)); have n2_ := Aside0.mk (below_step bB_ hb); clear HO898; clear HB; have HO898 := n0_; have HO901 := n1_; have HB := n2_; clear n0_ n1_ n2_; (try clear hb); (try clear hb2); (try clear hk); (try clear hi); (try clear ho0); obtain ⟨Ao17, co17, eo17⟩ := Kd.R_slice HO898.out; subst eo17; obtain ⟨Ao18, co18, eo18⟩ := Kd.R_slice HO901.out; subst eo18) | ((with_reducible refine gate_callee (f := 90) rfl ?_); refine goesL_ (some 9) rfl rfl Tryz.func90 (by kernel_rfl) rfl #[.slice Ao17 t896.length co17, .slice Ao18 t899.length co18] rfl (by (try simp only [List.map_toArray, List.map_cons, List.map_nil]); first | done | rfl | (simp only [List.length_drop, List.length_take]; rfl)) ?_; (with_reducible refine (span_Meet.calls _ _ t896 _ _ t899 false _ ?side1 ?side2 ?side3 ?side4 A5.out).mono ?_); (case side1 => repeat (first | exact (Kd.R_reads' HO898.out).2.2 | (with_reducible refine Kd.C_alloc ?_ _) | (with_reducible refine Kd.C_drewN ?_ _) | (with_reducible refine Kd.C_drew ?_))); (case side2 => exact (Kd.R_reads' HO898.out).2.1); (case side3 => repeat (first | exact (Kd.R_reads' HO901.out).2.2 | (with_reducible refine Kd.C_alloc ?_ _) | (with_reducible refine Kd.C_drewN ?_ _) | (with_reducible refine Kd.C_drew ?_))); (case side4 => exact (Kd.R_reads' HO901.out).2.1); rintro e w19 ⟨rfl, hb⟩; refine ⟨_, rfl, ?_⟩; have n0_ := Aside0.mk (Kd.R_below (rR_ HO898.out) hb); have n1_ := Aside0.mk (Kd.R_below (rR_ HO901.out) hb); have n2_ := Aside0.mk (below_step bB_ hb); clear HO898; clear HO901; clear HB; have HO898 := n0_; have HO901 := n1_; have HB := n2_; clear n0_ n1_ n2_; (try clear hb); (try clear hb2); (try clear hk); (try clear hi)) | (go_at_call 39; (with_reducible refine (txn_Writes.calls k _ _ l1 t903 _ ?side1 ?side2 A12.out).mono ?_); (case side1 => repeat (first | exact (Kd.C_below HR1.out HB.out) | (with_reducible refine Kd.C_alloc ?_ _) | (with_reducible refine Kd.C_drewN ?_ _) | (with_reducible refine Kd.C_drew ?_))); (case side2 => exact HC1.out); rintro e w20 ⟨v904, rfl, ho0, hb⟩; have n0_ := Aside0.mk (Kd.R_elder' (rR_ HO898.out) (Kd.R_base ho0) hb); have n1_ := Aside0.mk (Kd.R_elder' (rR_ HO901.out) (Kd.R_base ho0) hb); have n2_ := Aside0.mk (Kd.R_lower (Kd.R_new' (Kd.R_new' ho0 (Kd.R_lt (rR_ HO898.out))) (Kd.R_lt (rR_ HO901.out))) (below_size bB_)); have n3_ := Aside0.mk (below_step bB_ hb); clear HO898; clear HO901; clear HB; have HO898 := n0_; have HO901 := n1_; have HO905 := n2_; have HB := n3_; clear n0_ n1_ n2_ n3_; (try clear hb); (try clear hb2); (try clear hk); (try clear hi); (try clear ho0)) | (go_at_call 42; (with_reducible refine (txn_All.calls k _ _ l0 t906 _ ?side1 ?side2 A13.out).mono ?_); (case side1 => repeat (first | exact (Kd.C_below HR0.out HB.out) | (with_reducible refine Kd.C_alloc ?_ _) | (with_reducible refine Kd.C_drewN ?_ _) | (with_reducible refine Kd.C_drew ?_))); (case side2 => exact HC0.out); rintro e w21 ⟨v907, rfl, ho0, hb⟩; have n0_ := Aside0.mk (Kd.R_elder' (rR_ HO898.out) (Kd.R_base ho0) hb); have n1_ := Aside0.mk (Kd.R_elder' (rR_ HO901.out) (Kd.R_base ho0) hb); have n2_ := Aside0.mk (Kd.R_elder' (rR_ HO905.out) (Kd.R_base ho0) hb); have n3_ := Aside0.mk (Kd.R_lower (Kd.R_new' (Kd.R_new' (Kd.R_new' ho0 (Kd.R_lt (rR_ HO898.out))) (Kd.R_lt (rR_ HO901.out))) (Kd.R_lt (rR_ HO905.out))) (below_size bB_)); have n4_ := Aside0.mk (below_step bB_ hb); clear HO898; clear HO901; clear HO905; clear HB; have HO898 := n0_; have HO901 := n1_; have HO905 := n2_; have HO908 := n3_; have HB := n4_; clear n0_ n1_ n2_ n3_ n4_; (try clear hb); (try clear hb2); (try clear hk); (try clear hi); (try clear ho0); obtain ⟨Ao22, co22, eo22⟩ := Kd.R_slice HO905.out; subst eo22; obtain ⟨Ao23, co23, eo23⟩ := Kd.R_slice HO908.out; subst eo23) | (go_at_call 90; (with_reducible refine (span_Meet.calls _ _ t903 _ _ t906 t909 _ ?side1 ?side2 ?side3 ?side4 A14.out).mono ?_); (case side1 => repeat (first | exact (Kd.R_reads' HO905.out).2.2 | (with_reducible refine Kd.C_alloc ?_ _) | (with_reducible refine Kd.C_drewN ?_ _) | (with_reducible refine Kd.C_drew ?_))); (case side2 => exact (Kd.R_reads' HO905.out).2.1); (case side3 => repeat (first | exact (Kd.R_reads' HO908.out).2.2 | (with_reducible refine Kd.C_alloc ?_ _) | (with_reducible refine Kd.C_drewN ?_ _) | (with_reducible refine Kd.C_drew ?_))); (case side4 => exact (Kd.R_reads' HO908.out).2.1); rintro e w24 ⟨rfl, hb⟩; have n0_ := Aside0.mk (Kd.R_below (rR_ HO898.out) hb); have n1_ := Aside0.mk (Kd.R_below (rR_ HO901.out) hb); have n2_ := Aside0.mk (Kd.R_below (rR_ HO905.out) hb); have n3_ := Aside0.mk (Kd.R_below (rR_ HO908.out) hb); have n4_ := Aside0.mk (below_step bB_ hb); clear HO898; clear HO901; clear HO905; clear HO908; clear HB; have HO898 := n0_; have HO901 := n1_; have HO905 := n2_; have HO908 := n3_; have HB := n4_; clear n0_ n1_ n2_ n3_ n4_; (try clear hb); (try clear hb2); (try clear hk); (try clear hi)))
  go_ret
  exact ⟨by first | rfl | (rw [bl_gt] <;> rfl) | (simp [errW_none, errW_some] <;> rfl) | (simp [*, errW_none, errW_some] <;> rfl), bB_⟩
end Go.Proofs.YtgmlenpcchhmbaaGreat.P
end
