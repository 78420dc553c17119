/- what the claim's row stands on, part 4. -/
import Derived.Test.YtgmlenpcchhmbaaGreatZc1
import Derived.Test.YtgmlenpcchhmbaaGreatZc3
import Derived.Lib.Bytes
import Derived.Test.YtgmlenpcchhmbaaGreatZc2
section
set_option linter.unusedVariables false
set_option linter.unusedSimpArgs false
namespace Go.Proofs.YtgmlenpcchhmbaaGreat.P
open Go.RowKit Go.Proofs.YtgmlenpcchhmbaaGreatW.PrintWords Go.Proofs.YtgmlenpcchhmbaaGreatW.PrintLast Go.Proofs.YtgmlenpcchhmbaaGreatW.PrintMore
attribute [local go_sem] max2_int min2_int max_two min_two max_three min_three max_four min_four   -- for this text's walks alone
mutual
def folkmootref08_Check.l0 : Nat → List (S63) → Int → Option (Int)
 | 0, _, _ => none
 | k + 1, x0, x3 => if x3 < (x0.length : Int) then (if 0 ≤ x3 then (if ((rd_T63 x0 x3).f0) = 2 then (if ((rd_T63 x0 x3).f2).toList = ([] : List UInt8) then (folkmootref08_Check.j2 k x0 x3 true (((rd_T63 x0 x3).f3) == 0) ((rd_T63 x0 x3).f0) ((rd_T63 x0 x3).f1) ((rd_T63 x0 x3).f2) ((rd_T63 x0 x3).f3)) else ((folkmootref03_Key.f ((rd_T63 x0 x3).f2)).bind fun t292 => (if t292 = true then (folkmootref08_Check.j2 k x0 x3 (Op.bytesLess (((rd_T63 x0 x3).f1).toList) (((rd_T63 x0 x3).f2).toList)) (((rd_T63 x0 x3).f3) == 0) ((rd_T63 x0 x3).f0) ((rd_T63 x0 x3).f1) ((rd_T63 x0 x3).f2) ((rd_T63 x0 x3).f3)) else (folkmootref08_Check.j2 k x0 x3 false (((rd_T63 x0 x3).f3) == 0) ((rd_T63 x0 x3).f0) ((rd_T63 x0 x3).f1) ((rd_T63 x0 x3).f2) ((rd_T63 x0 x3).f3))))) else (if ((rd_T63 x0 x3).f0) = 6 then ((folkmootref03_Key.f ((rd_T63 x0 x3).f2)).bind fun t293 => (if t293 = true then (folkmootref08_Check.j2 k x0 x3 (((rd_T63 x0 x3).f2).toList != ((rd_T63 x0 x3).f1).toList) true ((rd_T63 x0 x3).f0) ((rd_T63 x0 x3).f1) ((rd_T63 x0 x3).f2) ((rd_T63 x0 x3).f3)) else (folkmootref08_Check.j2 k x0 x3 false true ((rd_T63 x0 x3).f0) ((rd_T63 x0 x3).f1) ((rd_T63 x0 x3).f2) ((rd_T63 x0 x3).f3)))) else (if ((rd_T63 x0 x3).f0) = 3 then (folkmootref08_Check.j1 k x0 x3 (((rd_T63 x0 x3).f2).toList == ([] : List UInt8)) (((rd_T63 x0 x3).f3) == 0) ((rd_T63 x0 x3).f0) (((rd_T63 x0 x3).f0) == 3) ((rd_T63 x0 x3).f0) ((rd_T63 x0 x3).f1) ((rd_T63 x0 x3).f2) ((rd_T63 x0 x3).f3)) else (folkmootref08_Check.j1 k x0 x3 (((rd_T63 x0 x3).f2).toList == ([] : List UInt8)) (((rd_T63 x0 x3).f3) == 0) ((rd_T63 x0 x3).f0) (((rd_T63 x0 x3).f0) == 4) ((rd_T63 x0 x3).f0) ((rd_T63 x0 x3).f1) ((rd_T63 x0 x3).f2) ((rd_T63 x0 x3).f3))))) else (none)) else (if (x0.length : Int) = 0 then (some 80) else (some 0))
def folkmootref08_Check.j2 : Nat → List (S63) → Int → Bool → Bool → Int → ByteArray → ByteArray → Int → Option (Int)
 | 0, _, _, _, _, _, _, _, _ => none
 | k + 1, x0, x3, x5, x6, x292000, x292001, x292002, x292003 => (folkmootref03_Key.f x292001).bind fun t294 => (if t294 = true then (if x5 = true then (if x6 = true then ((folkmootref07_Is.f x292003).bind fun t295 => (if t295 = true then (folkmootref08_Check.l0 k x0 (wrap64 (x3 + 1))) else (some 80))) else (some 80)) else (some 80)) else (some 80))
def folkmootref08_Check.j1 : Nat → List (S63) → Int → Bool → Bool → Int → Bool → Int → ByteArray → ByteArray → Int → Option (Int)
 | 0, _, _, _, _, _, _, _, _, _, _ => none
 | k + 1, x0, x3, x5, x6, x27, x55, x292000, x292001, x292002, x292003 => if x55 = true then (folkmootref08_Check.j2 k x0 x3 x5 true x292000 x292001 x292002 x292003) else (if x27 = 1 then (folkmootref08_Check.j2 k x0 x3 x5 x6 x292000 x292001 x292002 x292003) else (if x27 = 5 then (folkmootref08_Check.j2 k x0 x3 x5 x6 x292000 x292001 x292002 x292003) else (some 80)))
end
def folkmootref08_Check.f (k : Nat) (l0 : List (S63)) : Option (Int) := if (l0.length : Int) > 8 then (some 6) else (folkmootref08_Check.l0 k l0 0)
set_option maxHeartbeats 8000000 in
set_option maxRecDepth 100000 in
theorem folkmootref08_Check.calls (k : Nat) (A0 : Option Addr) (c0 : Nat) (l0 : List (S63)) (r : Int) (w : World) (hr0 : Kd.C k63 w A0 l0.length l0) (hc0 : l0.length ≤ c0) (h : folkmootref08_Check.f k l0 = some r) :
  Calls Tryz.prog 20 #[.slice A0 l0.length c0] w fun e w' => e = .returned (.int .i64 r) ∧ Below w.heap.size w w' := by
 have hu63 := Tryz.underlying63
 have HR0 := Aside0.mk hr0
 have HC0 := Aside0.mk hc0
 clear hr0 hc0
 have HB := Aside0.mk (Below.refl w.heap.size w)
 have H : (if (l0.length : Int) > 8 then (some 6) else (folkmootref08_Check.l0 k l0 0)) = some r := h
 clear h
 by_cases c2 : (l0.length : Int) > 8
 ·rw [if_pos c2] at H
  have c2b0 : decide (8 < (l0.length : Int)) = true := decide_eq_true c2
  have c2b1 : decide (8 < l0.length) = true := decide_eq_true (by omega)
  clear c2
  obtain rfl := Option.some.inj H
  go_enter Tryz.func20, Tryz.ntmps20
  go_wp2
  go_ret
  exact ⟨by first | rfl | (rw [bl_gt] <;> rfl) | (simp [errW_none, errW_some] <;> rfl) | (simp [*, errW_none, errW_some] <;> rfl), bB_⟩
 ·rw [if_neg c2] at H
  have c2b0 : decide (8 < (l0.length : Int)) = false := decide_eq_false c2
  have c2b1 : decide (8 < l0.length) = false := decide_eq_false (by omega)
  clear c2
  have H' := Aside0.mk H
  clear H
  go_enter Tryz.func20, Tryz.ntmps20
  go_wp2
  go_loopg [3] k (fun kq v3 w' => ∃ (x3_1 : Int), v3 = .int .i64 x3_1 ∧ Aside0 (folkmootref08_Check.l0 kq l0 x3_1 = some r) ∧ Aside0 (kq ≤ k) ∧ Aside0 (Below w.heap.size w w'))
  case atStart => exact ⟨(0), (by first | rfl | (rw [bl_gt] <;> rfl) | (simp; done) | (simp [*]; done) | (simp [*, bl_gt]; done)), H', ⟨Nat.le_refl _⟩, ⟨bB_⟩⟩
  case round =>
   clear H'
   try clear c2
   try clear c2b0
   try clear c2b1
   try clear p2
   obtain ⟨x3_1, rfl, HA, HK1, HB⟩ := hrel
   cases gk with
   | zero => exact absurd HA.out (by simp [folkmootref08_Check.l0])
   | succ k1 =>
    have H := HA.out
    clear HA
    simp only [folkmootref08_Check.l0] at H
    by_cases c3 : x3_1 < (l0.length : Int)
    ·rw [if_pos c3] at H
     have c3b0 : decide (x3_1 < (l0.length : Int)) = true := decide_eq_true c3
     clear c3
     by_cases c4 : 0 ≤ x3_1
     ·rw [if_pos c4] at H
      have c4b0 : decide (0 ≤ x3_1) = true := decide_eq_true c4
      clear c4
      have HC5 := Aside0.mk H
      clear H
      have p290 : 0 ≤ (x3_1 : Int) := of_decide_eq_true (by first | (with_reducible assumption) | assumption)
      have q290 : x3_1 < (l0.length : Int) := of_decide_eq_true (by first | (with_reducible assumption) | assumption)
      obtain ⟨ad290, e290, hx290_0, hx290_1, hx290_2, hx290_3⟩ := at_T63 HR0.out x3_1 p290 q290
      cases e290
      replace hx290_0 := (HB.out.cell (World.block_lt_of_cell? w _ hx290_0)).trans hx290_0
      replace hx290_1 := (HB.out.cell (World.block_lt_of_cell? w _ hx290_1)).trans hx290_1
      replace hx290_2 := (HB.out.cell (World.block_lt_of_cell? w _ hx290_2)).trans hx290_2
      replace hx290_3 := (HB.out.cell (World.block_lt_of_cell? w _ hx290_3)).trans hx290_3
      replace p290 := eq_true p290
      replace q290 := eq_true q290
      go_upto_block 2 with (first | ((with_reducible refine gate_dst (N := 4) rfl ?_); refine box_event ?hg (N := 4) ?hd (cs := #[.int .i64 0, .string (⟨#[]⟩ : ByteArray), .string (⟨#[]⟩ : ByteArray), .int .u64 0]) (t := 63) ?hr ?_; (case hd => rfl); (case hg => rfl); (case hr => first | (go_simp; done) | (go_simp; rfl)); intro gb291 hg w6 hbox hb; have n0_ := Aside0.mk (below_step bB_ hb); have n1_ := Aside0.mk (hbox); have n2_ := Aside0.mk ((by rw [hg]; exact (below_size bB_) : w.heap.size ≤ gb291)); have n3_ := Aside0.mk ((by rw [hg]; exact (below_size bB_) : w.heap.size ≤ gb291)); clear HB; have HB := n0_; have BK291 := n1_; have GW291 := n2_; have GE291 := n3_; clear n0_ n1_ n2_ n3_; clear hb hbox hg; have hcz7_0 : w6.cell? ⟨gb291, 0, none⟩ = some (.int .i64 0) := (blk_cell BK291.out 0).trans rfl; have hcz7_1 : w6.cell? ⟨gb291, 1, none⟩ = some (.string (⟨#[]⟩ : ByteArray)) := (blk_cell BK291.out 1).trans rfl; have hcz7_2 : w6.cell? ⟨gb291, 2, none⟩ = some (.string (⟨#[]⟩ : ByteArray)) := (blk_cell BK291.out 2).trans rfl; have hcz7_3 : w6.cell? ⟨gb291, 3, none⟩ = some (.int .u64 0) := (blk_cell BK291.out 3).trans rfl; have hfz7_0 := blk_frozen BK291.out 0; have hfz7_1 := blk_frozen BK291.out 1; have hfz7_2 := blk_frozen BK291.out 2; have hfz7_3 := blk_frozen BK291.out 3))
      (try simp only [Act.put, List.setIfInBounds_toArray, List.set_cons_zero, List.set_cons_succ])
      go_cut [5, 6] (fun v5 v6 wc => ∃ (kq : Nat) (x5_4 : Bool) (x6_4 : Bool), v5 = .bool x5_4 ∧ v6 = .bool x6_4 ∧ Aside0 (folkmootref08_Check.j2 kq l0 x3_1 x5_4 x6_4 ((rd_T63 l0 x3_1).f0) ((rd_T63 l0 x3_1).f1) ((rd_T63 l0 x3_1).f2) ((rd_T63 l0 x3_1).f3) = some r) ∧ Aside0 (kq ≤ k1) ∧ Aside0 (wc.heap[gb291]? = some (.cells #[.int .i64 ((rd_T63 l0 x3_1).f0), .string ((rd_T63 l0 x3_1).f1), .string ((rd_T63 l0 x3_1).f2), .int .u64 ((rd_T63 l0 x3_1).f3)] 63 (0, 0))) ∧ Aside0 (Below w.heap.size w wc))
      case first =>
       have H := HC5.out
       clear HC5
       by_cases c8 : ((rd_T63 l0 x3_1).f0) = 2
       ·rw [if_pos c8] at H
        have c8b0 : (((rd_T63 l0 x3_1).f0) == 2) = true := beq_iff_eq.mpr c8
        have c8b1 : (((rd_T63 l0 x3_1).f0) != 2) = false := bne_eq_false_iff_eq.mpr c8
        clear c8
        (first | rw [c8b0] | (simp only [i64_w, i32_w]; rw [c8b0]) | skip)
        by_cases c9 : ((rd_T63 l0 x3_1).f2).toList = ([] : List UInt8)
        ·rw [if_pos c9] at H
         have c9b0 : (((rd_T63 l0 x3_1).f2).toList == ([] : List UInt8)) = true := beq_iff_eq.mpr c9
         have c9e : ((rd_T63 l0 x3_1).f2).toList.isEmpty = true := by rw [c9]; rfl
         have c9b1 : (((rd_T63 l0 x3_1).f2).toList != ([] : List UInt8)) = false := bne_eq_false_iff_eq.mpr c9
         clear c9
         have H' := Aside0.mk H
         clear H
         go_wp2
         first
         | (go_meet; case rel => exact ⟨_, (true), ((((rd_T63 l0 x3_1).f3) == 0)), (by first | rfl | (rw [bl_gt] <;> rfl) | (simp; done) | (simp [*]; done) | (simp [*, bl_gt]; done)), (by first | rfl | (rw [bl_gt] <;> rfl) | (simp; done) | (simp [*]; done) | (simp [*, bl_gt]; done)), H', ⟨by have := HK1.out; first | omega | exact Nat.le_refl _⟩, ⟨by (with_reducible repeat (first | refine blk_drewN ?_ _ | refine blk_drew ?_ | refine blk_alloc ?_ _)); refine blk_put (cs := #[.int .i64 ((rd_T63 l0 x3_1).f0), .string ((rd_T63 l0 x3_1).f1), .string ((rd_T63 l0 x3_1).f2), .int .u64 0]) ?_ 3 _ rfl; (with_reducible repeat (first | refine blk_drewN ?_ _ | refine blk_drew ?_ | refine blk_alloc ?_ _)); refine blk_put (cs := #[.int .i64 ((rd_T63 l0 x3_1).f0), .string ((rd_T63 l0 x3_1).f1), .string (⟨#[]⟩ : ByteArray), .int .u64 0]) ?_ 2 _ rfl; (with_reducible repeat (first | refine blk_drewN ?_ _ | refine blk_drew ?_ | refine blk_alloc ?_ _)); refine blk_put (cs := #[.int .i64 ((rd_T63 l0 x3_1).f0), .string (⟨#[]⟩ : ByteArray), .string (⟨#[]⟩ : ByteArray), .int .u64 0]) ?_ 1 _ rfl; (with_reducible repeat (first | refine blk_drewN ?_ _ | refine blk_drew ?_ | refine blk_alloc ?_ _)); refine blk_put (cs := #[.int .i64 0, .string (⟨#[]⟩ : ByteArray), .string (⟨#[]⟩ : ByteArray), .int .u64 0]) ?_ 0 _ rfl; (with_reducible repeat (first | refine blk_drewN ?_ _ | refine blk_drew ?_ | refine blk_alloc ?_ _)); exact BK291.out⟩, ⟨by repeat (first | (with_reducible first | exact HB.out | apply below_alloc | apply pw_below_drewN | apply below_drew1 | refine below_set ?_ GE291.out) | exact HB.out)⟩⟩)
         | (refine Met.intro ?_; go_step; (repeat apply Exists.intro); refine ⟨?_, ?_⟩; rotate_left; (focus (simp only [c8b0, c9b0]; try rfl)); exact ⟨_, (true), ((((rd_T63 l0 x3_1).f3) == 0)), (by first | rfl | (rw [bl_gt] <;> rfl) | (simp; done) | (simp [*]; done) | (simp [*, bl_gt]; done)), (by first | rfl | (rw [bl_gt] <;> rfl) | (simp; done) | (simp [*]; done) | (simp [*, bl_gt]; done)), H', ⟨by have := HK1.out; first | omega | exact Nat.le_refl _⟩, ⟨by (with_reducible repeat (first | refine blk_drewN ?_ _ | refine blk_drew ?_ | refine blk_alloc ?_ _)); refine blk_put (cs := #[.int .i64 ((rd_T63 l0 x3_1).f0), .string ((rd_T63 l0 x3_1).f1), .string ((rd_T63 l0 x3_1).f2), .int .u64 0]) ?_ 3 _ rfl; (with_reducible repeat (first | refine blk_drewN ?_ _ | refine blk_drew ?_ | refine blk_alloc ?_ _)); refine blk_put (cs := #[.int .i64 ((rd_T63 l0 x3_1).f0), .string ((rd_T63 l0 x3_1).f1), .string (⟨#[]⟩ : ByteArray), .int .u64 0]) ?_ 2 _ rfl; (with_reducible repeat (first | refine blk_drewN ?_ _ | refine blk_drew ?_ | refine blk_alloc ?_ _)); refine blk_put (cs := #[.int .i64 ((rd_T63 l0 x3_1).f0), .string (⟨#[]⟩ : ByteArray), .string (⟨#[]⟩ : ByteArray), .int .u64 0]) ?_ 1 _ rfl; (with_reducible repeat (first | refine blk_drewN ?_ _ | refine blk_drew ?_ | refine blk_alloc ?_ _)); refine blk_put (cs := #[.int .i64 0, .string (⟨#[]⟩ : ByteArray), .string (⟨#[]⟩ : ByteArray), .int .u64 0]) ?_ 0 _ rfl; (with_reducible repeat (first | refine blk_drewN ?_ _ | refine blk_drew ?_ | refine blk_alloc ?_ _)); exact BK291.out⟩, ⟨by repeat (first | (with_reducible first | exact HB.out | apply below_alloc | apply pw_below_drewN | apply below_drew1 | refine below_set ?_ GE291.out) | exact HB.out)⟩⟩)
        ·rw [if_neg c9] at H
         have c9b0 : (((rd_T63 l0 x3_1).f2).toList == ([] : List UInt8)) = false := beq_eq_false_iff_ne.mpr c9
         have c9e : ((rd_T63 l0 x3_1).f2).toList.isEmpty = false := by cases h_ : ((rd_T63 l0 x3_1).f2).toList with | nil => exact absurd h_ c9 | cons _ _ => rfl
         have c9b1 : (((rd_T63 l0 x3_1).f2).toList != ([] : List UInt8)) = true := bne_iff_ne.mpr c9
         replace H := Option.bind_eq_some_iff.mp H
         obtain ⟨t292, A100, H⟩ := H
         replace H : (if t292 = true then (folkmootref08_Check.j2 k1 l0 x3_1 (Op.bytesLess (((rd_T63 l0 x3_1).f1).toList) (((rd_T63 l0 x3_1).f2).toList)) (((rd_T63 l0 x3_1).f3) == 0) ((rd_T63 l0 x3_1).f0) ((rd_T63 l0 x3_1).f1) ((rd_T63 l0 x3_1).f2) ((rd_T63 l0 x3_1).f3)) else (folkmootref08_Check.j2 k1 l0 x3_1 false (((rd_T63 l0 x3_1).f3) == 0) ((rd_T63 l0 x3_1).f0) ((rd_T63 l0 x3_1).f1) ((rd_T63 l0 x3_1).f2) ((rd_T63 l0 x3_1).f3))) = some r := H
         have A10 := Aside0.mk A100
         clear A100
         by_cases c11 : t292 = true
         ·subst c11
          have H1 : (folkmootref08_Check.j2 k1 l0 x3_1 (Op.bytesLess (((rd_T63 l0 x3_1).f1).toList) (((rd_T63 l0 x3_1).f2).toList)) (((rd_T63 l0 x3_1).f3) == 0) ((rd_T63 l0 x3_1).f0) ((rd_T63 l0 x3_1).f1) ((rd_T63 l0 x3_1).f2) ((rd_T63 l0 x3_1).f3)) = some r := by rw [if_pos rfl] at H; exact H
          clear H
          have H := H1
          clear H1
          have H' := Aside0.mk H
          clear H
          have hcz12_0 : w6.cell? ⟨gb291, 0, none⟩ = some (.int .i64 0) := (blk_cell BK291.out 0).trans rfl
          have hcz12_1 : w6.cell? ⟨gb291, 1, none⟩ = some (.string (⟨#[]⟩ : ByteArray)) := (blk_cell BK291.out 1).trans rfl
          have hcz12_2 : w6.cell? ⟨gb291, 2, none⟩ = some (.string (⟨#[]⟩ : ByteArray)) := (blk_cell BK291.out 2).trans rfl
          have hcz12_3 : w6.cell? ⟨gb291, 3, none⟩ = some (.int .u64 0) := (blk_cell BK291.out 3).trans rfl
          have hfz12_0 := blk_frozen BK291.out 0
          have hfz12_1 := blk_frozen BK291.out 1
          have hfz12_2 := blk_frozen BK291.out 2
          have hfz12_3 := blk_frozen BK291.out 3
          go_wp2_with (first | (go_at_call 37; (with_reducible refine (folkmootref03_Key.calls ((rd_T63 l0 x3_1).f2) true _ A10.out).mono ?_); rintro e w' ⟨rfl, ⟨nd, rfl⟩⟩))
          first
          | (go_meet; case rel => exact ⟨_, ((Op.bytesLess (((rd_T63 l0 x3_1).f1).toList) (((rd_T63 l0 x3_1).f2).toList))), ((((rd_T63 l0 x3_1).f3) == 0)), (by first | rfl | (rw [bl_gt] <;> rfl) | (simp; done) | (simp [*]; done) | (simp [*, bl_gt]; done)), (by first | rfl | (rw [bl_gt] <;> rfl) | (simp; done) | (simp [*]; done) | (simp [*, bl_gt]; done)), H', ⟨by have := HK1.out; first | omega | exact Nat.le_refl _⟩, ⟨by (with_reducible repeat (first | refine blk_drewN ?_ _ | refine blk_drew ?_ | refine blk_alloc ?_ _)); refine blk_put (cs := #[.int .i64 ((rd_T63 l0 x3_1).f0), .string ((rd_T63 l0 x3_1).f1), .string ((rd_T63 l0 x3_1).f2), .int .u64 0]) ?_ 3 _ rfl; (with_reducible repeat (first | refine blk_drewN ?_ _ | refine blk_drew ?_ | refine blk_alloc ?_ _)); refine blk_put (cs := #[.int .i64 ((rd_T63 l0 x3_1).f0), .string ((rd_T63 l0 x3_1).f1), .string (⟨#[]⟩ : ByteArray), .int .u64 0]) ?_ 2 _ rfl; (with_reducible repeat (first | refine blk_drewN ?_ _ | refine blk_drew ?_ | refine blk_alloc ?_ _)); refine blk_put (cs := #[.int .i64 ((rd_T63 l0 x3_1).f0), .string (⟨#[]⟩ : ByteArray), .string (⟨#[]⟩ : ByteArray), .int .u64 0]) ?_ 1 _ rfl; (with_reducible repeat (first | refine blk_drewN ?_ _ | refine blk_drew ?_ | refine blk_alloc ?_ _)); refine blk_put (cs := #[.int .i64 0, .string (⟨#[]⟩ : ByteArray), .string (⟨#[]⟩ : ByteArray), .int .u64 0]) ?_ 0 _ rfl; (with_reducible repeat (first | refine blk_drewN ?_ _ | refine blk_drew ?_ | refine blk_alloc ?_ _)); exact BK291.out⟩, ⟨by repeat (first | (with_reducible first | exact HB.out | apply below_alloc | apply pw_below_drewN | apply below_drew1 | refine below_set ?_ GE291.out) | exact HB.out)⟩⟩)
          | (refine Met.intro ?_; go_step; (repeat apply Exists.intro); refine ⟨?_, ?_⟩; rotate_left; (focus (simp only [c8b0, c9b0]; try rfl)); exact ⟨_, ((Op.bytesLess (((rd_T63 l0 x3_1).f1).toList) (((rd_T63 l0 x3_1).f2).toList))), ((((rd_T63 l0 x3_1).f3) == 0)), (by first | rfl | (rw [bl_gt] <;> rfl) | (simp; done) | (simp [*]; done) | (simp [*, bl_gt]; done)), (by first | rfl | (rw [bl_gt] <;> rfl) | (simp; done) | (simp [*]; done) | (simp [*, bl_gt]; done)), H', ⟨by have := HK1.out; first | omega | exact Nat.le_refl _⟩, ⟨by (with_reducible repeat (first | refine blk_drewN ?_ _ | refine blk_drew ?_ | refine blk_alloc ?_ _)); refine blk_put (cs := #[.int .i64 ((rd_T63 l0 x3_1).f0), .string ((rd_T63 l0 x3_1).f1), .string ((rd_T63 l0 x3_1).f2), .int .u64 0]) ?_ 3 _ rfl; (with_reducible repeat (first | refine blk_drewN ?_ _ | refine blk_drew ?_ | refine blk_alloc ?_ _)); refine blk_put (cs := #[.int .i64 ((rd_T63 l0 x3_1).f0), .string ((rd_T63 l0 x3_1).f1), .string (⟨#[]⟩ : ByteArray), .int .u64 0]) ?_ 2 _ rfl; (with_reducible repeat (first | refine blk_drewN ?_ _ | refine blk_drew ?_ | refine blk_alloc ?_ _)); refine blk_put (cs := #[.int .i64 ((rd_T63 l0 x3_1).f0), .string (⟨#[]⟩ : ByteArray), .string (⟨#[]⟩ : ByteArray), .int .u64 0]) ?_ 1 _ rfl; (with_reducible repeat (first | refine blk_drewN ?_ _ | refine blk_drew ?_ | refine blk_alloc ?_ _)); refine blk_put (cs := #[.int .i64 0, .string (⟨#[]⟩ : ByteArray), .string (⟨#[]⟩ : ByteArray), .int .u64 0]) ?_ 0 _ rfl; (with_reducible repeat (first | refine blk_drewN ?_ _ | refine blk_drew ?_ | refine blk_alloc ?_ _)); exact BK291.out⟩, ⟨by repeat (first | (with_reducible first | exact HB.out | apply below_alloc | apply pw_below_drewN | apply below_drew1 | refine below_set ?_ GE291.out) | exact HB.out)⟩⟩)
         ·replace c11 := Bool.eq_false_iff.mpr c11
          subst c11
          have H1 : (folkmootref08_Check.j2 k1 l0 x3_1 false (((rd_T63 l0 x3_1).f3) == 0) ((rd_T63 l0 x3_1).f0) ((rd_T63 l0 x3_1).f1) ((rd_T63 l0 x3_1).f2) ((rd_T63 l0 x3_1).f3)) = some r := by rw [if_neg (show ¬ (false = true) by decide)] at H; exact H
          clear H
          have H := H1
          clear H1
          have H' := Aside0.mk H
          clear H
          have hcz13_0 : w6.cell? ⟨gb291, 0, none⟩ = some (.int .i64 0) := (blk_cell BK291.out 0).trans rfl
          have hcz13_1 : w6.cell? ⟨gb291, 1, none⟩ = some (.string (⟨#[]⟩ : ByteArray)) := (blk_cell BK291.out 1).trans rfl
          have hcz13_2 : w6.cell? ⟨gb291, 2, none⟩ = some (.string (⟨#[]⟩ : ByteArray)) := (blk_cell BK291.out 2).trans rfl
          have hcz13_3 : w6.cell? ⟨gb291, 3, none⟩ = some (.int .u64 0) := (blk_cell BK291.out 3).trans rfl
          have hfz13_0 := blk_frozen BK291.out 0
          have hfz13_1 := blk_frozen BK291.out 1
          have hfz13_2 := blk_frozen BK291.out 2
          have hfz13_3 := blk_frozen BK291.out 3
          go_wp2_with (first | (go_at_call 37; (with_reducible refine (folkmootref03_Key.calls ((rd_T63 l0 x3_1).f2) false _ A10.out).mono ?_); rintro e w' ⟨rfl, ⟨nd, rfl⟩⟩))
          first
          | (go_meet; case rel => exact ⟨_, (false), ((((rd_T63 l0 x3_1).f3) == 0)), (by first | rfl | (rw [bl_gt] <;> rfl) | (simp; done) | (simp [*]; done) | (simp [*, bl_gt]; done)), (by first | rfl | (rw [bl_gt] <;> rfl) | (simp; done) | (simp [*]; done) | (simp [*, bl_gt]; done)), H', ⟨by have := HK1.out; first | omega | exact Nat.le_refl _⟩, ⟨by (with_reducible repeat (first | refine blk_drewN ?_ _ | refine blk_drew ?_ | refine blk_alloc ?_ _)); refine blk_put (cs := #[.int .i64 ((rd_T63 l0 x3_1).f0), .string ((rd_T63 l0 x3_1).f1), .string ((rd_T63 l0 x3_1).f2), .int .u64 0]) ?_ 3 _ rfl; (with_reducible repeat (first | refine blk_drewN ?_ _ | refine blk_drew ?_ | refine blk_alloc ?_ _)); refine blk_put (cs := #[.int .i64 ((rd_T63 l0 x3_1).f0), .string ((rd_T63 l0 x3_1).f1), .string (⟨#[]⟩ : ByteArray), .int .u64 0]) ?_ 2 _ rfl; (with_reducible repeat (first | refine blk_drewN ?_ _ | refine blk_drew ?_ | refine blk_alloc ?_ _)); refine blk_put (cs := #[.int .i64 ((rd_T63 l0 x3_1).f0), .string (⟨#[]⟩ : ByteArray), .string (⟨#[]⟩ : ByteArray), .int .u64 0]) ?_ 1 _ rfl; (with_reducible repeat (first | refine blk_drewN ?_ _ | refine blk_drew ?_ | refine blk_alloc ?_ _)); refine blk_put (cs := #[.int .i64 0, .string (⟨#[]⟩ : ByteArray), .string (⟨#[]⟩ : ByteArray), .int .u64 0]) ?_ 0 _ rfl; (with_reducible repeat (first | refine blk_drewN ?_ _ | refine blk_drew ?_ | refine blk_alloc ?_ _)); exact BK291.out⟩, ⟨by repeat (first | (with_reducible first | exact HB.out | apply below_alloc | apply pw_below_drewN | apply below_drew1 | refine below_set ?_ GE291.out) | exact HB.out)⟩⟩)
          | (refine Met.intro ?_; go_step; (repeat apply Exists.intro); refine ⟨?_, ?_⟩; rotate_left; (focus (simp only [c8b0, c9b0]; try rfl)); exact ⟨_, (false), ((((rd_T63 l0 x3_1).f3) == 0)), (by first | rfl | (rw [bl_gt] <;> rfl) | (simp; done) | (simp [*]; done) | (simp [*, bl_gt]; done)), (by first | rfl | (rw [bl_gt] <;> rfl) | (simp; done) | (simp [*]; done) | (simp [*, bl_gt]; done)), H', ⟨by have := HK1.out; first | omega | exact Nat.le_refl _⟩, ⟨by (with_reducible repeat (first | refine blk_drewN ?_ _ | refine blk_drew ?_ | refine blk_alloc ?_ _)); refine blk_put (cs := #[.int .i64 ((rd_T63 l0 x3_1).f0), .string ((rd_T63 l0 x3_1).f1), .string ((rd_T63 l0 x3_1).f2), .int .u64 0]) ?_ 3 _ rfl; (with_reducible repeat (first | refine blk_drewN ?_ _ | refine blk_drew ?_ | refine blk_alloc ?_ _)); refine blk_put (cs := #[.int .i64 ((rd_T63 l0 x3_1).f0), .string ((rd_T63 l0 x3_1).f1), .string (⟨#[]⟩ : ByteArray), .int .u64 0]) ?_ 2 _ rfl; (with_reducible repeat (first | refine blk_drewN ?_ _ | refine blk_drew ?_ | refine blk_alloc ?_ _)); refine blk_put (cs := #[.int .i64 ((rd_T63 l0 x3_1).f0), .string (⟨#[]⟩ : ByteArray), .string (⟨#[]⟩ : ByteArray), .int .u64 0]) ?_ 1 _ rfl; (with_reducible repeat (first | refine blk_drewN ?_ _ | refine blk_drew ?_ | refine blk_alloc ?_ _)); refine blk_put (cs := #[.int .i64 0, .string (⟨#[]⟩ : ByteArray), .string (⟨#[]⟩ : ByteArray), .int .u64 0]) ?_ 0 _ rfl; (with_reducible repeat (first | refine blk_drewN ?_ _ | refine blk_drew ?_ | refine blk_alloc ?_ _)); exact BK291.out⟩, ⟨by repeat (first | (with_reducible first | exact HB.out | apply below_alloc | apply pw_below_drewN | apply below_drew1 | refine below_set ?_ GE291.out) | exact HB.out)⟩⟩)
       ·rw [if_neg c8] at H
        have c8b0 : (((rd_T63 l0 x3_1).f0) == 2) = false := beq_eq_false_iff_ne.mpr c8
        have c8b1 : (((rd_T63 l0 x3_1).f0) != 2) = true := bne_iff_ne.mpr c8
        (first | rw [c8b0] | (simp only [i64_w, i32_w]; rw [c8b0]) | skip)
        by_cases c14 : ((rd_T63 l0 x3_1).f0) = 6
        ·rw [if_pos c14] at H
         have c14b0 : (((rd_T63 l0 x3_1).f0) == 6) = true := beq_iff_eq.mpr c14
         have c14b1 : (((rd_T63 l0 x3_1).f0) != 6) = false := bne_eq_false_iff_eq.mpr c14
         clear c14
         replace H := Option.bind_eq_some_iff.mp H
         obtain ⟨t293, A150, H⟩ := H
         replace H : (if t293 = true then (folkmootref08_Check.j2 k1 l0 x3_1 (((rd_T63 l0 x3_1).f2).toList != ((rd_T63 l0 x3_1).f1).toList) true ((rd_T63 l0 x3_1).f0) ((rd_T63 l0 x3_1).f1) ((rd_T63 l0 x3_1).f2) ((rd_T63 l0 x3_1).f3)) else (folkmootref08_Check.j2 k1 l0 x3_1 false true ((rd_T63 l0 x3_1).f0) ((rd_T63 l0 x3_1).f1) ((rd_T63 l0 x3_1).f2) ((rd_T63 l0 x3_1).f3))) = some r := H
         have A15 := Aside0.mk A150
         clear A150
         by_cases c16 : t293 = true
         ·subst c16
          have H1 : (folkmootref08_Check.j2 k1 l0 x3_1 (((rd_T63 l0 x3_1).f2).toList != ((rd_T63 l0 x3_1).f1).toList) true ((rd_T63 l0 x3_1).f0) ((rd_T63 l0 x3_1).f1) ((rd_T63 l0 x3_1).f2) ((rd_T63 l0 x3_1).f3)) = some r := by rw [if_pos rfl] at H; exact H
          clear H
          have H := H1
          clear H1
          have H' := Aside0.mk H
          clear H
          have hcz17_0 : w6.cell? ⟨gb291, 0, none⟩ = some (.int .i64 0) := (blk_cell BK291.out 0).trans rfl
          have hcz17_1 : w6.cell? ⟨gb291, 1, none⟩ = some (.string (⟨#[]⟩ : ByteArray)) := (blk_cell BK291.out 1).trans rfl
          have hcz17_2 : w6.cell? ⟨gb291, 2, none⟩ = some (.string (⟨#[]⟩ : ByteArray)) := (blk_cell BK291.out 2).trans rfl
          have hcz17_3 : w6.cell? ⟨gb291, 3, none⟩ = some (.int .u64 0) := (blk_cell BK291.out 3).trans rfl
          have hfz17_0 := blk_frozen BK291.out 0
          have hfz17_1 := blk_frozen BK291.out 1
          have hfz17_2 := blk_frozen BK291.out 2
          have hfz17_3 := blk_frozen BK291.out 3
          go_wp2_with (first | ((with_reducible refine gate_callee (f := 37) rfl ?_); refine goesL_ (some 47) rfl rfl Tryz.func37 (by kernel_rfl) rfl #[.string ((rd_T63 l0 x3_1).f2)] rfl (by (try simp only [List.map_toArray, List.map_cons, List.map_nil]); first | done | rfl | (simp only [List.length_drop, List.length_take]; rfl)) ?_; (with_reducible refine (folkmootref03_Key.calls ((rd_T63 l0 x3_1).f2) true _ A15.out).mono ?_); rintro e w' ⟨rfl, ⟨nd, rfl⟩⟩; refine ⟨_, rfl, ?_⟩))
          first
          | (go_meet; case rel => exact ⟨_, ((((rd_T63 l0 x3_1).f2).toList != ((rd_T63 l0 x3_1).f1).toList)), (true), (by first | rfl | (rw [bl_gt] <;> rfl) | (simp; done) | (simp [*]; done) | (simp [*, bl_gt]; done)), (by first | rfl | (rw [bl_gt] <;> rfl) | (simp; done) | (simp [*]; done) | (simp [*, bl_gt]; done)), H', ⟨by have := HK1.out; first | omega | exact Nat.le_refl _⟩, ⟨by (with_reducible repeat (first | refine blk_drewN ?_ _ | refine blk_drew ?_ | refine blk_alloc ?_ _)); refine blk_put (cs := #[.int .i64 ((rd_T63 l0 x3_1).f0), .string ((rd_T63 l0 x3_1).f1), .string ((rd_T63 l0 x3_1).f2), .int .u64 0]) ?_ 3 _ rfl; (with_reducible repeat (first | refine blk_drewN ?_ _ | refine blk_drew ?_ | refine blk_alloc ?_ _)); refine blk_put (cs := #[.int .i64 ((rd_T63 l0 x3_1).f0), .string ((rd_T63 l0 x3_1).f1), .string (⟨#[]⟩ : ByteArray), .int .u64 0]) ?_ 2 _ rfl; (with_reducible repeat (first | refine blk_drewN ?_ _ | refine blk_drew ?_ | refine blk_alloc ?_ _)); refine blk_put (cs := #[.int .i64 ((rd_T63 l0 x3_1).f0), .string (⟨#[]⟩ : ByteArray), .string (⟨#[]⟩ : ByteArray), .int .u64 0]) ?_ 1 _ rfl; (with_reducible repeat (first | refine blk_drewN ?_ _ | refine blk_drew ?_ | refine blk_alloc ?_ _)); refine blk_put (cs := #[.int .i64 0, .string (⟨#[]⟩ : ByteArray), .string (⟨#[]⟩ : ByteArray), .int .u64 0]) ?_ 0 _ rfl; (with_reducible repeat (first | refine blk_drewN ?_ _ | refine blk_drew ?_ | refine blk_alloc ?_ _)); exact BK291.out⟩, ⟨by repeat (first | (with_reducible first | exact HB.out | apply below_alloc | apply pw_below_drewN | apply below_drew1 | refine below_set ?_ GE291.out) | exact HB.out)⟩⟩)
          | (refine Met.intro ?_; go_step; (repeat apply Exists.intro); refine ⟨?_, ?_⟩; rotate_left; (focus (simp only [c8b0, c14b0]; try rfl)); exact ⟨_, ((((rd_T63 l0 x3_1).f2).toList != ((rd_T63 l0 x3_1).f1).toList)), (true), (by first | rfl | (rw [bl_gt] <;> rfl) | (simp; done) | (simp [*]; done) | (simp [*, bl_gt]; done)), (by first | rfl | (rw [bl_gt] <;> rfl) | (simp; done) | (simp [*]; done) | (simp [*, bl_gt]; done)), H', ⟨by have := HK1.out; first | omega | exact Nat.le_refl _⟩, ⟨by (with_reducible repeat (first | refine blk_drewN ?_ _ | refine blk_drew ?_ | refine blk_alloc ?_ _)); refine blk_put (cs := #[.int .i64 ((rd_T63 l0 x3_1).f0), .string ((rd_T63 l0 x3_1).f1), .string ((rd_T63 l0 x3_1).f2), .int .u64 0]) ?_ 3 _ rfl; (with_reducible repeat (first | refine blk_drewN ?_ _ | refine blk_drew ?_ | refine blk_alloc ?_ _)); refine blk_put (cs := #[.int .i64 ((rd_T63 l0 x3_1).f0), .string ((rd_T63 l0 x3_1).f1), .string (⟨#[]⟩ : ByteArray), .int .u64 0]) ?_ 2 _ rfl; (with_reducible repeat (first | refine blk_drewN ?_ _ | refine blk_drew ?_ | refine blk_alloc ?_ _)); refine blk_put (cs := #[.int .i64 ((rd_T63 l0 x3_1).f0), .string (⟨#[]⟩ : ByteArray), .string (⟨#[]⟩ : ByteArray), .int .u64 0]) ?_ 1 _ rfl; (with_reducible repeat (first | refine blk_drewN ?_ _ | refine blk_drew ?_ | refine blk_alloc ?_ _)); refine blk_put (cs := #[.int .i64 0, .string (⟨#[]⟩ : ByteArray), .string (⟨#[]⟩ : ByteArray), .int .u64 0]) ?_ 0 _ rfl; (with_reducible repeat (first | refine blk_drewN ?_ _ | refine blk_drew ?_ | refine blk_alloc ?_ _)); exact BK291.out⟩, ⟨by repeat (first | (with_reducible first | exact HB.out | apply below_alloc | apply pw_below_drewN | apply below_drew1 | refine below_set ?_ GE291.out) | exact HB.out)⟩⟩)
         ·replace c16 := Bool.eq_false_iff.mpr c16
          subst c16
          have H1 : (folkmootref08_Check.j2 k1 l0 x3_1 false true ((rd_T63 l0 x3_1).f0) ((rd_T63 l0 x3_1).f1) ((rd_T63 l0 x3_1).f2) ((rd_T63 l0 x3_1).f3)) = some r := by rw [if_neg (show ¬ (false = true) by decide)] at H; exact H
          clear H
          have H := H1
          clear H1
          have H' := Aside0.mk H
          clear H
          have hcz18_0 : w6.cell? ⟨gb291, 0, none⟩ = some (.int .i64 0) := (blk_cell BK291.out 0).trans rfl
          have hcz18_1 : w6.cell? ⟨gb291, 1, none⟩ = some (.string (⟨#[]⟩ : ByteArray)) := (blk_cell BK291.out 1).trans rfl
          have hcz18_2 : w6.cell? ⟨gb291, 2, none⟩ = some (.string (⟨#[]⟩ : ByteArray)) := (blk_cell BK291.out 2).trans rfl
          have hcz18_3 : w6.cell? ⟨gb291, 3, none⟩ = some (.int .u64 0) := (blk_cell BK291.out 3).trans rfl
          have hfz18_0 := blk_frozen BK291.out 0
          have hfz18_1 := blk_frozen BK291.out 1
          have hfz18_2 := blk_frozen BK291.out 2
          have hfz18_3 := blk_frozen BK291.out 3
          go_wp2_with (first | ((with_reducible refine gate_callee (f := 37) rfl ?_); refine goesL_ (some 47) rfl rfl Tryz.func37 (by kernel_rfl) rfl #[.string ((rd_T63 l0 x3_1).f2)] rfl (by (try simp only [List.map_toArray, List.map_cons, List.map_nil]); first | done | rfl | (simp only [List.length_drop, List.length_take]; rfl)) ?_; (with_reducible refine (folkmootref03_Key.calls ((rd_T63 l0 x3_1).f2) false _ A15.out).mono ?_); rintro e w' ⟨rfl, ⟨nd, rfl⟩⟩; refine ⟨_, rfl, ?_⟩))
          first
          | (go_meet; case rel => exact ⟨_, (false), (true), (by first | rfl | (rw [bl_gt] <;> rfl) | (simp; done) | (simp [*]; done) | (simp [*, bl_gt]; done)), (by first | rfl | (rw [bl_gt] <;> rfl) | (simp; done) | (simp [*]; done) | (simp [*, bl_gt]; done)), H', ⟨by have := HK1.out; first | omega | exact Nat.le_refl _⟩, ⟨by (with_reducible repeat (first | refine blk_drewN ?_ _ | refine blk_drew ?_ | refine blk_alloc ?_ _)); refine blk_put (cs := #[.int .i64 ((rd_T63 l0 x3_1).f0), .string ((rd_T63 l0 x3_1).f1), .string ((rd_T63 l0 x3_1).f2), .int .u64 0]) ?_ 3 _ rfl; (with_reducible repeat (first | refine blk_drewN ?_ _ | refine blk_drew ?_ | refine blk_alloc ?_ _)); refine blk_put (cs := #[.int .i64 ((rd_T63 l0 x3_1).f0), .string ((rd_T63 l0 x3_1).f1), .string (⟨#[]⟩ : ByteArray), .int .u64 0]) ?_ 2 _ rfl; (with_reducible repeat (first | refine blk_drewN ?_ _ | refine blk_drew ?_ | refine blk_alloc ?_ _)); refine blk_put (cs := #[.int .i64 ((rd_T63 l0 x3_1).f0), .string (⟨#[]⟩ : ByteArray), .string (⟨#[]⟩ : ByteArray), .int .u64 0]) ?_ 1 _ rfl; (with_reducible repeat (first | refine blk_drewN ?_ _ | refine blk_drew ?_ | refine blk_alloc ?_ _)); refine blk_put (cs := #[.int .i64 0, .string (⟨#[]⟩ : ByteArray), .string (⟨#[]⟩ : ByteArray), .int .u64 0]) ?_ 0 _ rfl; (with_reducible repeat (first | refine blk_drewN ?_ _ | refine blk_drew ?_ | refine blk_alloc ?_ _)); exact BK291.out⟩, ⟨by repeat (first | (with_reducible first | exact HB.out | apply below_alloc | apply pw_below_drewN | apply below_drew1 | refine below_set ?_ GE291.out) | exact HB.out)⟩⟩)
          | (refine Met.intro ?_; go_step; (repeat apply Exists.intro); refine ⟨?_, ?_⟩; rotate_left; (focus (simp only [c8b0, c14b0]; try rfl)); exact ⟨_, (false), (true), (by first | rfl | (rw [bl_gt] <;> rfl) | (simp; done) | (simp [*]; done) | (simp [*, bl_gt]; done)), (by first | rfl | (rw [bl_gt] <;> rfl) | (simp; done) | (simp [*]; done) | (simp [*, bl_gt]; done)), H', ⟨by have := HK1.out; first | omega | exact Nat.le_refl _⟩, ⟨by (with_reducible repeat (first | refine blk_drewN ?_ _ | refine blk_drew ?_ | refine blk_alloc ?_ _)); refine blk_put (cs := #[.int .i64 ((rd_T63 l0 x3_1).f0), .string ((rd_T63 l0 x3_1).f1), .string ((rd_T63 l0 x3_1).f2), .int .u64 0]) ?_ 3 _ rfl; (with_reducible repeat (first | refine blk_drewN ?_ _ | refine blk_drew ?_ | refine blk_alloc ?_ _)); refine blk_put (cs := #[.int .i64 ((rd_T63 l0 x3_1).f0), .string ((rd_T63 l0 x3_1).f1), .string (⟨#[]⟩ : ByteArray), .int .u64 0]) ?_ 2 _ rfl; (with_reducible repeat (first | refine blk_drewN ?_ _ | refine blk_drew ?_ | refine blk_alloc ?_ _)); refine blk_put (cs := #[.int .i64 ((rd_T63 l0 x3_1).f0), .string (⟨#[]⟩ : ByteArray), .string (⟨#[]⟩ : ByteArray), .int .u64 0]) ?_ 1 _ rfl; (with_reducible repeat (first | refine blk_drewN ?_ _ | refine blk_drew ?_ | refine blk_alloc ?_ _)); refine blk_put (cs := #[.int .i64 0, .string (⟨#[]⟩ : ByteArray), .string (⟨#[]⟩ : ByteArray), .int .u64 0]) ?_ 0 _ rfl; (with_reducible repeat (first | refine blk_drewN ?_ _ | refine blk_drew ?_ | refine blk_alloc ?_ _)); exact BK291.out⟩, ⟨by repeat (first | (with_reducible first | exact HB.out | apply below_alloc | apply pw_below_drewN | apply below_drew1 | refine below_set ?_ GE291.out) | exact HB.out)⟩⟩)
        ·rw [if_neg c14] at H
         have c14b0 : (((rd_T63 l0 x3_1).f0) == 6) = false := beq_eq_false_iff_ne.mpr c14
         have c14b1 : (((rd_T63 l0 x3_1).f0) != 6) = true := bne_iff_ne.mpr c14
         have HC19 := Aside0.mk H
         clear H
         go_upto_if 55 with (fail)
         go_cut [55] (fun v55 wc => ∃ (kq : Nat) (x55_18 : Bool), v55 = .bool x55_18 ∧ Aside0 (folkmootref08_Check.j1 kq l0 x3_1 (((rd_T63 l0 x3_1).f2).toList == ([] : List UInt8)) (((rd_T63 l0 x3_1).f3) == 0) ((rd_T63 l0 x3_1).f0) x55_18 ((rd_T63 l0 x3_1).f0) ((rd_T63 l0 x3_1).f1) ((rd_T63 l0 x3_1).f2) ((rd_T63 l0 x3_1).f3) = some r) ∧ Aside0 (kq ≤ k1) ∧ Aside0 (wc.heap[gb291]? = some (.cells #[.int .i64 ((rd_T63 l0 x3_1).f0), .string ((rd_T63 l0 x3_1).f1), .string ((rd_T63 l0 x3_1).f2), .int .u64 ((rd_T63 l0 x3_1).f3)] 63 (0, 0))) ∧ Aside0 (Below w.heap.size w wc))
         case first =>
          have H := HC19.out
          clear HC19
          by_cases c20 : ((rd_T63 l0 x3_1).f0) = 3
          ·rw [if_pos c20] at H
           have c20b0 : (((rd_T63 l0 x3_1).f0) == 3) = true := beq_iff_eq.mpr c20
           have c20b1 : (((rd_T63 l0 x3_1).f0) != 3) = false := bne_eq_false_iff_eq.mpr c20
           clear c20
           (first | rw [c20b0] | (simp only [i64_w, i32_w]; rw [c20b0]) | skip)
           have H' := Aside0.mk H
           clear H
           go_wp2
           first
           | (go_meet; case rel => exact ⟨_, ((((rd_T63 l0 x3_1).f0) == 3)), (by first | rfl | (rw [bl_gt] <;> rfl) | (simp; done) | (simp [*]; done) | (simp [*, bl_gt]; done)), H', ⟨by have := HK1.out; first | omega | exact Nat.le_refl _⟩, ⟨by (with_reducible repeat (first | refine blk_drewN ?_ _ | refine blk_drew ?_ | refine blk_alloc ?_ _)); refine blk_put (cs := #[.int .i64 ((rd_T63 l0 x3_1).f0), .string ((rd_T63 l0 x3_1).f1), .string ((rd_T63 l0 x3_1).f2), .int .u64 0]) ?_ 3 _ rfl; (with_reducible repeat (first | refine blk_drewN ?_ _ | refine blk_drew ?_ | refine blk_alloc ?_ _)); refine blk_put (cs := #[.int .i64 ((rd_T63 l0 x3_1).f0), .string ((rd_T63 l0 x3_1).f1), .string (⟨#[]⟩ : ByteArray), .int .u64 0]) ?_ 2 _ rfl; (with_reducible repeat (first | refine blk_drewN ?_ _ | refine blk_drew ?_ | refine blk_alloc ?_ _)); refine blk_put (cs := #[.int .i64 ((rd_T63 l0 x3_1).f0), .string (⟨#[]⟩ : ByteArray), .string (⟨#[]⟩ : ByteArray), .int .u64 0]) ?_ 1 _ rfl; (with_reducible repeat (first | refine blk_drewN ?_ _ | refine blk_drew ?_ | refine blk_alloc ?_ _)); refine blk_put (cs := #[.int .i64 0, .string (⟨#[]⟩ : ByteArray), .string (⟨#[]⟩ : ByteArray), .int .u64 0]) ?_ 0 _ rfl; (with_reducible repeat (first | refine blk_drewN ?_ _ | refine blk_drew ?_ | refine blk_alloc ?_ _)); exact BK291.out⟩, ⟨by repeat (first | (with_reducible first | exact HB.out | apply below_alloc | apply pw_below_drewN | apply below_drew1 | refine below_set ?_ GE291.out) | exact HB.out)⟩⟩)
           | (refine Met.intro ?_; go_step; (repeat apply Exists.intro); refine ⟨?_, ?_⟩; rotate_left; (focus (simp only [c8b0, c14b0, c20b0]; try rfl)); exact ⟨_, ((((rd_T63 l0 x3_1).f0) == 3)), (by first | rfl | (rw [bl_gt] <;> rfl) | (simp; done) | (simp [*]; done) | (simp [*, bl_gt]; done)), H', ⟨by have := HK1.out; first | omega | exact Nat.le_refl _⟩, ⟨by (with_reducible repeat (first | refine blk_drewN ?_ _ | refine blk_drew ?_ | refine blk_alloc ?_ _)); refine blk_put (cs := #[.int .i64 ((rd_T63 l0 x3_1).f0), .string ((rd_T63 l0 x3_1).f1), .string ((rd_T63 l0 x3_1).f2), .int .u64 0]) ?_ 3 _ rfl; (with_reducible repeat (first | refine blk_drewN ?_ _ | refine blk_drew ?_ | refine blk_alloc ?_ _)); refine blk_put (cs := #[.int .i64 ((rd_T63 l0 x3_1).f0), .string ((rd_T63 l0 x3_1).f1), .string (⟨#[]⟩ : ByteArray), .int .u64 0]) ?_ 2 _ rfl; (with_reducible repeat (first | refine blk_drewN ?_ _ | refine blk_drew ?_ | refine blk_alloc ?_ _)); refine blk_put (cs := #[.int .i64 ((rd_T63 l0 x3_1).f0), .string (⟨#[]⟩ : ByteArray), .string (⟨#[]⟩ : ByteArray), .int .u64 0]) ?_ 1 _ rfl; (with_reducible repeat (first | refine blk_drewN ?_ _ | refine blk_drew ?_ | refine blk_alloc ?_ _)); refine blk_put (cs := #[.int .i64 0, .string (⟨#[]⟩ : ByteArray), .string (⟨#[]⟩ : ByteArray), .int .u64 0]) ?_ 0 _ rfl; (with_reducible repeat (first | refine blk_drewN ?_ _ | refine blk_drew ?_ | refine blk_alloc ?_ _)); exact BK291.out⟩, ⟨by repeat (first | (with_reducible first | exact HB.out | apply below_alloc | apply pw_below_drewN | apply below_drew1 | refine below_set ?_ GE291.out) | exact HB.out)⟩⟩)
          ·rw [if_neg c20] at H
           have c20b0 : (((rd_T63 l0 x3_1).f0) == 3) = false := beq_eq_false_iff_ne.mpr c20
           have c20b1 : (((rd_T63 l0 x3_1).f0) != 3) = true := bne_iff_ne.mpr c20
           (first | rw [c20b0] | (simp only [i64_w, i32_w]; rw [c20b0]) | skip)
           have H' := Aside0.mk H
           clear H
           go_wp2
           first
           | (go_meet; case rel => exact ⟨_, ((((rd_T63 l0 x3_1).f0) == 4)), (by first | rfl | (rw [bl_gt] <;> rfl) | (simp; done) | (simp [*]; done) | (simp [*, bl_gt]; done)), H', ⟨by have := HK1.out; first | omega | exact Nat.le_refl _⟩, ⟨by (with_reducible repeat (first | refine blk_drewN ?_ _ | refine blk_drew ?_ | refine blk_alloc ?_ _)); refine blk_put (cs := #[.int .i64 ((rd_T63 l0 x3_1).f0), .string ((rd_T63 l0 x3_1).f1), .string ((rd_T63 l0 x3_1).f2), .int .u64 0]) ?_ 3 _ rfl; (with_reducible repeat (first | refine blk_drewN ?_ _ | refine blk_drew ?_ | refine blk_alloc ?_ _)); refine blk_put (cs := #[.int .i64 ((rd_T63 l0 x3_1).f0), .string ((rd_T63 l0 x3_1).f1), .string (⟨#[]⟩ : ByteArray), .int .u64 0]) ?_ 2 _ rfl; (with_reducible repeat (first | refine blk_drewN ?_ _ | refine blk_drew ?_ | refine blk_alloc ?_ _)); refine blk_put (cs := #[.int .i64 ((rd_T63 l0 x3_1).f0), .string (⟨#[]⟩ : ByteArray), .string (⟨#[]⟩ : ByteArray), .int .u64 0]) ?_ 1 _ rfl; (with_reducible repeat (first | refine blk_drewN ?_ _ | refine blk_drew ?_ | refine blk_alloc ?_ _)); refine blk_put (cs := #[.int .i64 0, .string (⟨#[]⟩ : ByteArray), .string (⟨#[]⟩ : ByteArray), .int .u64 0]) ?_ 0 _ rfl; (with_reducible repeat (first | refine blk_drewN ?_ _ | refine blk_drew ?_ | refine blk_alloc ?_ _)); exact BK291.out⟩, ⟨by repeat (first | (with_reducible first | exact HB.out | apply below_alloc | apply pw_below_drewN | apply below_drew1 | refine below_set ?_ GE291.out) | exact HB.out)⟩⟩)
           | (refine Met.intro ?_; go_step; (repeat apply Exists.intro); refine ⟨?_, ?_⟩; rotate_left; (focus (simp only [c8b0, c14b0, c20b0]; try rfl)); exact ⟨_, ((((rd_T63 l0 x3_1).f0) == 4)), (by first | rfl | (rw [bl_gt] <;> rfl) | (simp; done) | (simp [*]; done) | (simp [*, bl_gt]; done)), H', ⟨by have := HK1.out; first | omega | exact Nat.le_refl _⟩, ⟨by (with_reducible repeat (first | refine blk_drewN ?_ _ | refine blk_drew ?_ | refine blk_alloc ?_ _)); refine blk_put (cs := #[.int .i64 ((rd_T63 l0 x3_1).f0), .string ((rd_T63 l0 x3_1).f1), .string ((rd_T63 l0 x3_1).f2), .int .u64 0]) ?_ 3 _ rfl; (with_reducible repeat (first | refine blk_drewN ?_ _ | refine blk_drew ?_ | refine blk_alloc ?_ _)); refine blk_put (cs := #[.int .i64 ((rd_T63 l0 x3_1).f0), .string ((rd_T63 l0 x3_1).f1), .string (⟨#[]⟩ : ByteArray), .int .u64 0]) ?_ 2 _ rfl; (with_reducible repeat (first | refine blk_drewN ?_ _ | refine blk_drew ?_ | refine blk_alloc ?_ _)); refine blk_put (cs := #[.int .i64 ((rd_T63 l0 x3_1).f0), .string (⟨#[]⟩ : ByteArray), .string (⟨#[]⟩ : ByteArray), .int .u64 0]) ?_ 1 _ rfl; (with_reducible repeat (first | refine blk_drewN ?_ _ | refine blk_drew ?_ | refine blk_alloc ?_ _)); refine blk_put (cs := #[.int .i64 0, .string (⟨#[]⟩ : ByteArray), .string (⟨#[]⟩ : ByteArray), .int .u64 0]) ?_ 0 _ rfl; (with_reducible repeat (first | refine blk_drewN ?_ _ | refine blk_drew ?_ | refine blk_alloc ?_ _)); exact BK291.out⟩, ⟨by repeat (first | (with_reducible first | exact HB.out | apply below_alloc | apply pw_below_drewN | apply below_drew1 | refine below_set ?_ GE291.out) | exact HB.out)⟩⟩)
         case rest =>
          clear HC19
          try clear c1
          try clear c2
          try clear c2b0
          try clear c2b1
          try clear p2
          try clear q2
          try clear hx2
          try clear c3
          try clear c3b0
          try clear c4
          try clear c4b0
          try clear c8
          try clear c8b0
          try clear c8b1
          try clear c9
          try clear c9b0
          try clear c9b1
          try clear c11
          try clear c14
          try clear c14b0
          try clear c14b1
          try clear c16
          try clear c20
          try clear c20b0
          try clear c20b1
          try clear hcz12_0
          try clear hcz12_1
          try clear hcz12_2
          try clear hcz12_3
          try clear hcz13_0
          try clear hcz13_1
          try clear hcz13_2
          try clear hcz13_3
          try clear hcz17_0
          try clear hcz17_1
          try clear hcz17_2
          try clear hcz17_3
          try clear hcz18_0
          try clear hcz18_1
          try clear hcz18_2
          try clear hcz18_3
          try clear hcz7_0
          try clear hcz7_1
          try clear hcz7_2
          try clear hcz7_3
          try clear hfz12_0
          try clear hfz12_1
          try clear hfz12_2
          try clear hfz12_3
          try clear hfz13_0
          try clear hfz13_1
          try clear hfz13_2
          try clear hfz13_3
          try clear hfz17_0
          try clear hfz17_1
          try clear hfz17_2
          try clear hfz17_3
          try clear hfz18_0
          try clear hfz18_1
          try clear hfz18_2
          try clear hfz18_3
          try clear hfz7_0
          try clear hfz7_1
          try clear hfz7_2
          try clear hfz7_3
          try clear hx290_0
          try clear hx290_1
          try clear hx290_2
          try clear hx290_3
          try clear p2
          try clear p290
          try clear q290
          obtain ⟨kq, x55_18, rfl, HA, HJ18, BK291, HB⟩ := hcut
          cases kq with
          | zero => exact absurd HA.out (by simp [folkmootref08_Check.j1])
          | succ kj18 =>
           have H := HA.out
           clear HA
           simp only [folkmootref08_Check.j1] at H
           by_cases c21 : x55_18 = true
           ·subst c21
            have H1 : (folkmootref08_Check.j2 kj18 l0 x3_1 (((rd_T63 l0 x3_1).f2).toList == ([] : List UInt8)) true ((rd_T63 l0 x3_1).f0) ((rd_T63 l0 x3_1).f1) ((rd_T63 l0 x3_1).f2) ((rd_T63 l0 x3_1).f3)) = some r := by rw [if_pos rfl] at H; exact H
            clear H
            have H := H1
            clear H1
            have H' := Aside0.mk H
            clear H
            go_wp2
            first
            | (go_meet; case rel => exact ⟨_, ((((rd_T63 l0 x3_1).f2).toList == ([] : List UInt8))), (true), (by first | rfl | (rw [bl_gt] <;> rfl) | (simp; done) | (simp [*]; done) | (simp [*, bl_gt]; done)), (by first | rfl | (rw [bl_gt] <;> rfl) | (simp; done) | (simp [*]; done) | (simp [*, bl_gt]; done)), H', ⟨by have := HK1.out; have := HJ18.out; first | omega | exact Nat.le_refl _⟩, ⟨by (with_reducible repeat (first | refine blk_drewN ?_ _ | refine blk_drew ?_ | refine blk_alloc ?_ _)); exact BK291.out⟩, ⟨by repeat (first | (with_reducible first | exact HB.out | apply below_alloc | apply pw_below_drewN | apply below_drew1 | refine below_set ?_ GE291.out) | exact HB.out)⟩⟩)
            | (refine Met.intro ?_; go_step; (repeat apply Exists.intro); refine ⟨?_, ?_⟩; rotate_left; (focus (simp only [c8b0, c14b0]; try rfl)); exact ⟨_, ((((rd_T63 l0 x3_1).f2).toList == ([] : List UInt8))), (true), (by first | rfl | (rw [bl_gt] <;> rfl) | (simp; done) | (simp [*]; done) | (simp [*, bl_gt]; done)), (by first | rfl | (rw [bl_gt] <;> rfl) | (simp; done) | (simp [*]; done) | (simp [*, bl_gt]; done)), H', ⟨by have := HK1.out; have := HJ18.out; first | omega | exact Nat.le_refl _⟩, ⟨by (with_reducible repeat (first | refine blk_drewN ?_ _ | refine blk_drew ?_ | refine blk_alloc ?_ _)); exact BK291.out⟩, ⟨by repeat (first | (with_reducible first | exact HB.out | apply below_alloc | apply pw_below_drewN | apply below_drew1 | refine below_set ?_ GE291.out) | exact HB.out)⟩⟩)
           ·replace c21 := Bool.eq_false_iff.mpr c21
            subst c21
            have H1 : (if ((rd_T63 l0 x3_1).f0) = 1 then (folkmootref08_Check.j2 kj18 l0 x3_1 (((rd_T63 l0 x3_1).f2).toList == ([] : List UInt8)) (((rd_T63 l0 x3_1).f3) == 0) ((rd_T63 l0 x3_1).f0) ((rd_T63 l0 x3_1).f1) ((rd_T63 l0 x3_1).f2) ((rd_T63 l0 x3_1).f3)) else (if ((rd_T63 l0 x3_1).f0) = 5 then (folkmootref08_Check.j2 kj18 l0 x3_1 (((rd_T63 l0 x3_1).f2).toList == ([] : List UInt8)) (((rd_T63 l0 x3_1).f3) == 0) ((rd_T63 l0 x3_1).f0) ((rd_T63 l0 x3_1).f1) ((rd_T63 l0 x3_1).f2) ((rd_T63 l0 x3_1).f3)) else (some 80))) = some r := by rw [if_neg (show ¬ (false = true) by decide)] at H; exact H
            clear H
            have H := H1
            clear H1
            by_cases c22 : ((rd_T63 l0 x3_1).f0) = 1
            ·rw [if_pos c22] at H
             have c22b0 : (((rd_T63 l0 x3_1).f0) == 1) = true := beq_iff_eq.mpr c22
             have c22b1 : (((rd_T63 l0 x3_1).f0) != 1) = false := bne_eq_false_iff_eq.mpr c22
             clear c22
             have H' := Aside0.mk H
             clear H
             go_wp2
             first
             | (go_meet; case rel => exact ⟨_, ((((rd_T63 l0 x3_1).f2).toList == ([] : List UInt8))), ((((rd_T63 l0 x3_1).f3) == 0)), (by first | rfl | (rw [bl_gt] <;> rfl) | (simp; done) | (simp [*]; done) | (simp [*, bl_gt]; done)), (by first | rfl | (rw [bl_gt] <;> rfl) | (simp; done) | (simp [*]; done) | (simp [*, bl_gt]; done)), H', ⟨by have := HK1.out; have := HJ18.out; first | omega | exact Nat.le_refl _⟩, ⟨by (with_reducible repeat (first | refine blk_drewN ?_ _ | refine blk_drew ?_ | refine blk_alloc ?_ _)); exact BK291.out⟩, ⟨by repeat (first | (with_reducible first | exact HB.out | apply below_alloc | apply pw_below_drewN | apply below_drew1 | refine below_set ?_ GE291.out) | exact HB.out)⟩⟩)
             | (refine Met.intro ?_; go_step; (repeat apply Exists.intro); refine ⟨?_, ?_⟩; rotate_left; (focus (simp only [c8b0, c14b0, c22b0]; try rfl)); exact ⟨_, ((((rd_T63 l0 x3_1).f2).toList == ([] : List UInt8))), ((((rd_T63 l0 x3_1).f3) == 0)), (by first | rfl | (rw [bl_gt] <;> rfl) | (simp; done) | (simp [*]; done) | (simp [*, bl_gt]; done)), (by first | rfl | (rw [bl_gt] <;> rfl) | (simp; done) | (simp [*]; done) | (simp [*, bl_gt]; done)), H', ⟨by have := HK1.out; have := HJ18.out; first | omega | exact Nat.le_refl _⟩, ⟨by (with_reducible repeat (first | refine blk_drewN ?_ _ | refine blk_drew ?_ | refine blk_alloc ?_ _)); exact BK291.out⟩, ⟨by repeat (first | (with_reducible first | exact HB.out | apply below_alloc | apply pw_below_drewN | apply below_drew1 | refine below_set ?_ GE291.out) | exact HB.out)⟩⟩)
            ·rw [if_neg c22] at H
             have c22b0 : (((rd_T63 l0 x3_1).f0) == 1) = false := beq_eq_false_iff_ne.mpr c22
             have c22b1 : (((rd_T63 l0 x3_1).f0) != 1) = true := bne_iff_ne.mpr c22
             by_cases c23 : ((rd_T63 l0 x3_1).f0) = 5
             ·rw [if_pos c23] at H
              have c23b0 : (((rd_T63 l0 x3_1).f0) == 5) = true := beq_iff_eq.mpr c23
              have c23b1 : (((rd_T63 l0 x3_1).f0) != 5) = false := bne_eq_false_iff_eq.mpr c23
              clear c23
              have H' := Aside0.mk H
              clear H
              go_wp2
              first
              | (go_meet; case rel => exact ⟨_, ((((rd_T63 l0 x3_1).f2).toList == ([] : List UInt8))), ((((rd_T63 l0 x3_1).f3) == 0)), (by first | rfl | (rw [bl_gt] <;> rfl) | (simp; done) | (simp [*]; done) | (simp [*, bl_gt]; done)), (by first | rfl | (rw [bl_gt] <;> rfl) | (simp; done) | (simp [*]; done) | (simp [*, bl_gt]; done)), H', ⟨by have := HK1.out; have := HJ18.out; first | omega | exact Nat.le_refl _⟩, ⟨by (with_reducible repeat (first | refine blk_drewN ?_ _ | refine blk_drew ?_ | refine blk_alloc ?_ _)); exact BK291.out⟩, ⟨by repeat (first | (with_reducible first | exact HB.out | apply below_alloc | apply pw_below_drewN | apply below_drew1 | refine below_set ?_ GE291.out) | exact HB.out)⟩⟩)
              | (refine Met.intro ?_; go_step; (repeat apply Exists.intro); refine ⟨?_, ?_⟩; rotate_left; (focus (simp only [c8b0, c14b0, c22b0, c23b0]; try rfl)); exact ⟨_, ((((rd_T63 l0 x3_1).f2).toList == ([] : List UInt8))), ((((rd_T63 l0 x3_1).f3) == 0)), (by first | rfl | (rw [bl_gt] <;> rfl) | (simp; done) | (simp [*]; done) | (simp [*, bl_gt]; done)), (by first | rfl | (rw [bl_gt] <;> rfl) | (simp; done) | (simp [*]; done) | (simp [*, bl_gt]; done)), H', ⟨by have := HK1.out; have := HJ18.out; first | omega | exact Nat.le_refl _⟩, ⟨by (with_reducible repeat (first | refine blk_drewN ?_ _ | refine blk_drew ?_ | refine blk_alloc ?_ _)); exact BK291.out⟩, ⟨by repeat (first | (with_reducible first | exact HB.out | apply below_alloc | apply pw_below_drewN | apply below_drew1 | refine below_set ?_ GE291.out) | exact HB.out)⟩⟩)
             ·rw [if_neg c23] at H
              have c23b0 : (((rd_T63 l0 x3_1).f0) == 5) = false := beq_eq_false_iff_ne.mpr c23
              have c23b1 : (((rd_T63 l0 x3_1).f0) != 5) = true := bne_iff_ne.mpr c23
              obtain rfl := Option.some.inj H
              go_wp2
              go_ret
              exact ⟨by first | rfl | (rw [bl_gt] <;> rfl) | (simp [errW_none, errW_some] <;> rfl) | (simp [*, errW_none, errW_some] <;> rfl), by repeat (first | (with_reducible first | exact HB.out | apply below_alloc | apply pw_below_drewN | apply below_drew1 | refine below_set ?_ GE291.out) | exact HB.out)⟩
      case rest =>
       clear HC5
       try clear c1
       try clear c2
       try clear c2b0
       try clear c2b1
       try clear p2
       try clear q2
       try clear hx2
       try clear c3
       try clear c3b0
       try clear c4
       try clear c4b0
       try clear c8
       try clear c8b0
       try clear c8b1
       try clear c9
       try clear c9b0
       try clear c9b1
       try clear c11
       try clear c14
       try clear c14b0
       try clear c14b1
       try clear c16
       try clear c20
       try clear c20b0
       try clear c20b1
       try clear c21
       try clear c22
       try clear c22b0
       try clear c22b1
       try clear c23
       try clear c23b0
       try clear c23b1
       try clear hcz12_0
       try clear hcz12_1
       try clear hcz12_2
       try clear hcz12_3
       try clear hcz13_0
       try clear hcz13_1
       try clear hcz13_2
       try clear hcz13_3
       try clear hcz17_0
       try clear hcz17_1
       try clear hcz17_2
       try clear hcz17_3
       try clear hcz18_0
       try clear hcz18_1
       try clear hcz18_2
       try clear hcz18_3
       try clear hcz7_0
       try clear hcz7_1
       try clear hcz7_2
       try clear hcz7_3
       try clear hfz12_0
       try clear hfz12_1
       try clear hfz12_2
       try clear hfz12_3
       try clear hfz13_0
       try clear hfz13_1
       try clear hfz13_2
       try clear hfz13_3
       try clear hfz17_0
       try clear hfz17_1
       try clear hfz17_2
       try clear hfz17_3
       try clear hfz18_0
       try clear hfz18_1
       try clear hfz18_2
       try clear hfz18_3
       try clear hfz7_0
       try clear hfz7_1
       try clear hfz7_2
       try clear hfz7_3
       try clear hx290_0
       try clear hx290_1
       try clear hx290_2
       try clear hx290_3
       try clear p2
       try clear p290
       try clear q2
       try clear q290
       obtain ⟨kq, x5_4, x6_4, rfl, rfl, HA, HJ4, BK291, HB⟩ := hcut
       cases kq with
       | zero => exact absurd HA.out (by simp [folkmootref08_Check.j2])
       | succ kj4 =>
        have H := HA.out
        clear HA
        simp only [folkmootref08_Check.j2] at H
        replace H := Option.bind_eq_some_iff.mp H
        obtain ⟨t294, A240, H⟩ := H
        replace H : (if t294 = true then (if x5_4 = true then (if x6_4 = true then ((folkmootref07_Is.f ((rd_T63 l0 x3_1).f3)).bind fun t295 => (if t295 = true then (folkmootref08_Check.l0 kj4 l0 (wrap64 (x3_1 + 1))) else (some 80))) else (some 80)) else (some 80)) else (some 80)) = some r := H
        have A24 := Aside0.mk A240
        clear A240
        by_cases c25 : t294 = true
        ·subst c25
         have H1 : (if x5_4 = true then (if x6_4 = true then ((folkmootref07_Is.f ((rd_T63 l0 x3_1).f3)).bind fun t295 => (if t295 = true then (folkmootref08_Check.l0 kj4 l0 (wrap64 (x3_1 + 1))) else (some 80))) else (some 80)) else (some 80)) = some r := by rw [if_pos rfl] at H; exact H
         clear H
         have H := H1
         clear H1
         by_cases c26 : x5_4 = true
         ·subst c26
          have H1 : (if x6_4 = true then ((folkmootref07_Is.f ((rd_T63 l0 x3_1).f3)).bind fun t295 => (if t295 = true then (folkmootref08_Check.l0 kj4 l0 (wrap64 (x3_1 + 1))) else (some 80))) else (some 80)) = some r := by rw [if_pos rfl] at H; exact H
          clear H
          have H := H1
          clear H1
          by_cases c27 : x6_4 = true
          ·subst c27
           have H1 : ((folkmootref07_Is.f ((rd_T63 l0 x3_1).f3)).bind fun t295 => (if t295 = true then (folkmootref08_Check.l0 kj4 l0 (wrap64 (x3_1 + 1))) else (some 80))) = some r := by rw [if_pos rfl] at H; exact H
           clear H
           have H := H1
           clear H1
           replace H := Option.bind_eq_some_iff.mp H
           obtain ⟨t295, A280, H⟩ := H
           replace H : (if t295 = true then (folkmootref08_Check.l0 kj4 l0 (wrap64 (x3_1 + 1))) else (some 80)) = some r := H
           have A28 := Aside0.mk A280
           clear A280
           by_cases c29 : t295 = true
           ·subst c29
            have H1 : (folkmootref08_Check.l0 kj4 l0 (wrap64 (x3_1 + 1))) = some r := by rw [if_pos rfl] at H; exact H
            clear H
            have H := H1
            clear H1
            have H' := Aside0.mk H
            clear H
            have hcz30_0 : wc.cell? ⟨gb291, 0, none⟩ = some (.int .i64 ((rd_T63 l0 x3_1).f0)) := (blk_cell BK291.out 0).trans rfl
            have hcz30_1 : wc.cell? ⟨gb291, 1, none⟩ = some (.string ((rd_T63 l0 x3_1).f1)) := (blk_cell BK291.out 1).trans rfl
            have hcz30_2 : wc.cell? ⟨gb291, 2, none⟩ = some (.string ((rd_T63 l0 x3_1).f2)) := (blk_cell BK291.out 2).trans rfl
            have hcz30_3 : wc.cell? ⟨gb291, 3, none⟩ = some (.int .u64 ((rd_T63 l0 x3_1).f3)) := (blk_cell BK291.out 3).trans rfl
            have hfz30_0 := blk_frozen BK291.out 0
            have hfz30_1 := blk_frozen BK291.out 1
            have hfz30_2 := blk_frozen BK291.out 2
            have hfz30_3 := blk_frozen BK291.out 3
            go_wp2_with (first | ((with_reducible refine gate_callee (f := 37) rfl ?_); refine goesL_ (some 63) rfl rfl Tryz.func37 (by kernel_rfl) rfl #[.string ((rd_T63 l0 x3_1).f1)] rfl (by (try simp only [List.map_toArray, List.map_cons, List.map_nil]); first | done | rfl | (simp only [List.length_drop, List.length_take]; rfl)) ?_; (with_reducible refine (folkmootref03_Key.calls ((rd_T63 l0 x3_1).f1) true _ A24.out).mono ?_); rintro e w' ⟨rfl, ⟨nd, rfl⟩⟩; refine ⟨_, rfl, ?_⟩) | (go_at_call 59; (with_reducible refine (folkmootref07_Is.calls ((rd_T63 l0 x3_1).f3) true _ A28.out).mono ?_); rintro e w' ⟨rfl, ⟨nd, rfl⟩⟩))
            go_roundg kj4
            case measure => have := HK1.out; have := HJ4.out; omega
            case rel => exact ⟨(wrap64 (x3_1 + 1)), (by first | rfl | (rw [bl_gt] <;> rfl) | (simp; done) | (simp [*]; done) | (simp [*, bl_gt]; done)), H', ⟨by have := HK1.out; have := HJ4.out; omega⟩, ⟨by repeat (first | (with_reducible first | exact HB.out | apply below_alloc | apply pw_below_drewN | apply below_drew1 | refine below_set ?_ GE291.out) | exact HB.out)⟩⟩
           ·replace c29 := Bool.eq_false_iff.mpr c29
            subst c29
            have H1 : (some 80) = some r := by rw [if_neg (show ¬ (false = true) by decide)] at H; exact H
            clear H
            have H := H1
            clear H1
            obtain rfl := Option.some.inj H
            have hcz31_0 : wc.cell? ⟨gb291, 0, none⟩ = some (.int .i64 ((rd_T63 l0 x3_1).f0)) := (blk_cell BK291.out 0).trans rfl
            have hcz31_1 : wc.cell? ⟨gb291, 1, none⟩ = some (.string ((rd_T63 l0 x3_1).f1)) := (blk_cell BK291.out 1).trans rfl
            have hcz31_2 : wc.cell? ⟨gb291, 2, none⟩ = some (.string ((rd_T63 l0 x3_1).f2)) := (blk_cell BK291.out 2).trans rfl
            have hcz31_3 : wc.cell? ⟨gb291, 3, none⟩ = some (.int .u64 ((rd_T63 l0 x3_1).f3)) := (blk_cell BK291.out 3).trans rfl
            have hfz31_0 := blk_frozen BK291.out 0
            have hfz31_1 := blk_frozen BK291.out 1
            have hfz31_2 := blk_frozen BK291.out 2
            have hfz31_3 := blk_frozen BK291.out 3
            go_wp2_with (first | ((with_reducible refine gate_callee (f := 37) rfl ?_); refine goesL_ (some 63) rfl rfl Tryz.func37 (by kernel_rfl) rfl #[.string ((rd_T63 l0 x3_1).f1)] rfl (by (try simp only [List.map_toArray, List.map_cons, List.map_nil]); first | done | rfl | (simp only [List.length_drop, List.length_take]; rfl)) ?_; (with_reducible refine (folkmootref03_Key.calls ((rd_T63 l0 x3_1).f1) true _ A24.out).mono ?_); rintro e w' ⟨rfl, ⟨nd, rfl⟩⟩; refine ⟨_, rfl, ?_⟩) | (go_at_call 59; (with_reducible refine (folkmootref07_Is.calls ((rd_T63 l0 x3_1).f3) false _ A28.out).mono ?_); rintro e w' ⟨rfl, ⟨nd, rfl⟩⟩))
            go_ret
            exact ⟨by first | rfl | (rw [bl_gt] <;> rfl) | (simp [errW_none, errW_some] <;> rfl) | (simp [*, errW_none, errW_some] <;> rfl), by repeat (first | (with_reducible first | exact HB.out | apply below_alloc | apply pw_below_drewN | apply below_drew1 | refine below_set ?_ GE291.out) | exact HB.out)⟩
          ·replace c27 := Bool.eq_false_iff.mpr c27
           subst c27
           have H1 : (some 80) = some r := by rw [if_neg (show ¬ (false = true) by decide)] at H; exact H
           clear H
           have H := H1
           clear H1
           obtain rfl := Option.some.inj H
           have hcz32_0 : wc.cell? ⟨gb291, 0, none⟩ = some (.int .i64 ((rd_T63 l0 x3_1).f0)) := (blk_cell BK291.out 0).trans rfl
           have hcz32_1 : wc.cell? ⟨gb291, 1, none⟩ = some (.string ((rd_T63 l0 x3_1).f1)) := (blk_cell BK291.out 1).trans rfl
           have hcz32_2 : wc.cell? ⟨gb291, 2, none⟩ = some (.string ((rd_T63 l0 x3_1).f2)) := (blk_cell BK291.out 2).trans rfl
           have hcz32_3 : wc.cell? ⟨gb291, 3, none⟩ = some (.int .u64 ((rd_T63 l0 x3_1).f3)) := (blk_cell BK291.out 3).trans rfl
           have hfz32_0 := blk_frozen BK291.out 0
           have hfz32_1 := blk_frozen BK291.out 1
           have hfz32_2 := blk_frozen BK291.out 2
           have hfz32_3 := blk_frozen BK291.out 3
           go_wp2_with (first | ((with_reducible refine gate_callee (f := 37) rfl ?_); refine goesL_ (some 63) rfl rfl Tryz.func37 (by kernel_rfl) rfl #[.string ((rd_T63 l0 x3_1).f1)] rfl (by (try simp only [List.map_toArray, List.map_cons, List.map_nil]); first | done | rfl | (simp only [List.length_drop, List.length_take]; rfl)) ?_; (with_reducible refine (folkmootref03_Key.calls ((rd_T63 l0 x3_1).f1) true _ A24.out).mono ?_); rintro e w' ⟨rfl, ⟨nd, rfl⟩⟩; refine ⟨_, rfl, ?_⟩))
           go_ret
           exact ⟨by first | rfl | (rw [bl_gt] <;> rfl) | (simp [errW_none, errW_some] <;> rfl) | (simp [*, errW_none, errW_some] <;> rfl), by repeat (first | (with_reducible first | exact HB.out | apply below_alloc | apply pw_below_drewN | apply below_drew1 | refine below_set ?_ GE291.out) | exact HB.out)⟩
         ·replace c26 := Bool.eq_false_iff.mpr c26
          subst c26
          have H1 : (some 80) = some r := by rw [if_neg (show ¬ (false = true) by decide)] at H; exact H
          clear H
          have H := H1
          clear H1
          obtain rfl := Option.some.inj H
          have hcz33_0 : wc.cell? ⟨gb291, 0, none⟩ = some (.int .i64 ((rd_T63 l0 x3_1).f0)) := (blk_cell BK291.out 0).trans rfl
          have hcz33_1 : wc.cell? ⟨gb291, 1, none⟩ = some (.string ((rd_T63 l0 x3_1).f1)) := (blk_cell BK291.out 1).trans rfl
          have hcz33_2 : wc.cell? ⟨gb291, 2, none⟩ = some (.string ((rd_T63 l0 x3_1).f2)) := (blk_cell BK291.out 2).trans rfl
          have hcz33_3 : wc.cell? ⟨gb291, 3, none⟩ = some (.int .u64 ((rd_T63 l0 x3_1).f3)) := (blk_cell BK291.out 3).trans rfl
          have hfz33_0 := blk_frozen BK291.out 0
          have hfz33_1 := blk_frozen BK291.out 1
          have hfz33_2 := blk_frozen BK291.out 2
          have hfz33_3 := blk_frozen BK291.out 3
          go_wp2_with (first | ((with_reducible refine gate_callee (f := 37) rfl ?_); refine goesL_ (some 63) rfl rfl Tryz.func37 (by kernel_rfl) rfl #[.string ((rd_T63 l0 x3_1).f1)] rfl (by (try simp only [List.map_toArray, List.map_cons, List.map_nil]); first | done | rfl | (simp only [List.length_drop, List.length_take]; rfl)) ?_; (with_reducible refine (folkmootref03_Key.calls ((rd_T63 l0 x3_1).f1) true _ A24.out).mono ?_); rintro e w' ⟨rfl, ⟨nd, rfl⟩⟩; refine ⟨_, rfl, ?_⟩))
          go_ret
          exact ⟨by first | rfl | (rw [bl_gt] <;> rfl) | (simp [errW_none, errW_some] <;> rfl) | (simp [*, errW_none, errW_some] <;> rfl), by repeat (first | (with_reducible first | exact HB.out | apply below_alloc | apply pw_below_drewN | apply below_drew1 | refine below_set ?_ GE291.out) | exact HB.out)⟩
        ·replace c25 := Bool.eq_false_iff.mpr c25
         subst c25
         have H1 : (some 80) = some r := by rw [if_neg (show ¬ (false = true) by decide)] at H; exact H
         clear H
         have H := H1
         clear H1
         obtain rfl := Option.some.inj H
         have hcz34_0 : wc.cell? ⟨gb291, 0, none⟩ = some (.int .i64 ((rd_T63 l0 x3_1).f0)) := (blk_cell BK291.out 0).trans rfl
         have hcz34_1 : wc.cell? ⟨gb291, 1, none⟩ = some (.string ((rd_T63 l0 x3_1).f1)) := (blk_cell BK291.out 1).trans rfl
         have hcz34_2 : wc.cell? ⟨gb291, 2, none⟩ = some (.string ((rd_T63 l0 x3_1).f2)) := (blk_cell BK291.out 2).trans rfl
         have hcz34_3 : wc.cell? ⟨gb291, 3, none⟩ = some (.int .u64 ((rd_T63 l0 x3_1).f3)) := (blk_cell BK291.out 3).trans rfl
         have hfz34_0 := blk_frozen BK291.out 0
         have hfz34_1 := blk_frozen BK291.out 1
         have hfz34_2 := blk_frozen BK291.out 2
         have hfz34_3 := blk_frozen BK291.out 3
         go_wp2_with (first | ((with_reducible refine gate_callee (f := 37) rfl ?_); refine goesL_ (some 63) rfl rfl Tryz.func37 (by kernel_rfl) rfl #[.string ((rd_T63 l0 x3_1).f1)] rfl (by (try simp only [List.map_toArray, List.map_cons, List.map_nil]); first | done | rfl | (simp only [List.length_drop, List.length_take]; rfl)) ?_; (with_reducible refine (folkmootref03_Key.calls ((rd_T63 l0 x3_1).f1) false _ A24.out).mono ?_); rintro e w' ⟨rfl, ⟨nd, rfl⟩⟩; refine ⟨_, rfl, ?_⟩))
         go_ret
         exact ⟨by first | rfl | (rw [bl_gt] <;> rfl) | (simp [errW_none, errW_some] <;> rfl) | (simp [*, errW_none, errW_some] <;> rfl), by repeat (first | (with_reducible first | exact HB.out | apply below_alloc | apply pw_below_drewN | apply below_drew1 | refine below_set ?_ GE291.out) | exact HB.out)⟩
     ·rw [if_neg c4] at H
      exact absurd H (by simp)
    ·rw [if_neg c3] at H
     have c3b0 : decide (x3_1 < (l0.length : Int)) = false := decide_eq_false c3
     clear c3
     by_cases c35 : (l0.length : Int) = 0
     ·rw [if_pos c35] at H
      have c35b0 : ((l0.length : Int) == 0) = true := beq_iff_eq.mpr c35
      have c35b1 : ((l0.length : Int) != 0) = false := bne_eq_false_iff_eq.mpr c35
      clear c35
      obtain rfl := Option.some.inj H
      go_wp2
      go_ret
      exact ⟨by first | rfl | (rw [bl_gt] <;> rfl) | (simp [errW_none, errW_some] <;> rfl) | (simp [*, errW_none, errW_some] <;> rfl), bB_⟩
     ·rw [if_neg c35] at H
      have c35b0 : ((l0.length : Int) == 0) = false := beq_eq_false_iff_ne.mpr c35
      have c35b1 : ((l0.length : Int) != 0) = true := bne_iff_ne.mpr c35
      have c35b2 : ¬ (l0 = []) := fun h_ => c35 (by rw [h_]; rfl)
      obtain rfl := Option.some.inj H
      go_wp2
      go_ret
      exact ⟨by first | rfl | (rw [bl_gt] <;> rfl) | (simp [errW_none, errW_some] <;> rfl) | (simp [*, errW_none, errW_some] <;> rfl), bB_⟩
end Go.Proofs.YtgmlenpcchhmbaaGreat.P
end
section
set_option linter.unusedVariables false
set_option linter.unusedSimpArgs false
namespace Go.Proofs.YtgmlenpcchhmbaaGreat.P
open Go.RowKit Go.Proofs.YtgmlenpcchhmbaaGreatW.PrintWords Go.Proofs.YtgmlenpcchhmbaaGreatW.PrintLast
theorem size_nil (k : ByteArray) : k.size = 0 ↔ k = emptyB := by
  obtain ⟨a⟩ := k
  constructor
  · intro h
    have : a = #[] := Array.size_eq_zero_iff.1 h
    rw [this]; rfl
  · intro h; rw [h]; rfl
theorem rkey_f (k : ByteArray) : folkmootref03_Key.f k = some (keyT k) := by
  unfold folkmootref03_Key.f keyT
  by_cases h : k = emptyB
  · have := (size_nil k).2 h
    rw [if_neg (by omega)]; simp [h]
  · have h1 : ¬ k.size = 0 := fun e => h ((size_nil k).1 e)
    rw [if_pos (by omega)]
    congr 1
    by_cases h2 : k.size ≤ 16
    · rw [decide_eq_true (by omega : (k.size : Int) ≤ 16)]; simp [h, h2]
    · rw [decide_eq_false (by omega : ¬ (k.size : Int) ≤ 16)]; simp [h2]
theorem ris_f {n : Int} (h0 : 0 ≤ n) (h1 : n < 18446744073709551616) : folkmootref07_Is.f n = some (numOk n) := by
  unfold folkmootref07_Is.f
  rw [rRight_f h0 h1]
  show some (rightN n == n) = some (decide (rightN n = n))
  congr 1
theorem rchk_j2 {l : List S63} {i : Nat} {R : Int} (hi : i < 9223372036854775807) (h : Ev (fun k => folkmootref08_Check.l0 k l ((i + 1 : Nat) : Int)) R) (o : S63) (h0 : 0 ≤ o.f3) (h1 : o.f3 < 18446744073709551616) (a b : Bool) :
    Ev (fun k => folkmootref08_Check.j2 k l (i : Int) a b o.f0 o.f1 o.f2 o.f3) (if (keyT o.f1 && a && b && numOk o.f3) = true then R else 80) := by
  refine Ev.succ ?_
  simp only [folkmootref08_Check.j2]
  rw [w64_succ hi]
  refine Ev.bind1 (rkey_f o.f1) ?_
  cases hk : keyT o.f1 with
  | false => exact Ev.no (by simp) (Ev.some _)
  | true =>
    refine Ev.yes rfl ?_
    cases a with
    | false => exact Ev.no (by simp) (Ev.some _)
    | true =>
      refine Ev.yes rfl ?_
      cases b with
      | false => exact Ev.no (by simp) (Ev.some _)
      | true =>
        refine Ev.yes rfl (Ev.bind1 (ris_f h0 h1) ?_)
        cases hn : numOk o.f3 with
        | false => exact Ev.no (by simp) (Ev.some _)
        | true => exact Ev.yes rfl h
theorem rd_atO {d : List S63} {i : Nat} (h : i < d.length) : rd_T63 d (i : Int) = d[i] := by
  unfold rd_T63
  rw [Int.toNat_natCast, List.getD_eq_getElem?_getD, List.getElem?_eq_getElem h]; rfl
theorem beq_nil (t : ByteArray) : (t.toList == ([] : List UInt8)) = decide (t = emptyB) := by
  rw [Bool.eq_iff_iff, beq_iff_eq, decide_eq_true_eq, toList_nil]
theorem beq_zero (n : Int) : (n == 0) = decide (n = 0) := by rw [Bool.eq_iff_iff, beq_iff_eq, decide_eq_true_eq]
theorem bne_text (a b : ByteArray) : (a.toList != b.toList) = decide (a ≠ b) := by
  rw [Bool.eq_iff_iff, bne_iff_ne, decide_eq_true_eq, Ne, toList_inj]
theorem rchk_l0 (l : List S63) (hl : l.length ≤ 1000) (hn : ∀ o ∈ l, 0 ≤ o.f3 ∧ o.f3 < 18446744073709551616) : ∀ (m i : Nat), i + m = l.length → Ev (fun k => folkmootref08_Check.l0 k l (i : Int)) (if (l.drop i).all isT = true then (if l.length = 0 then 80 else 0) else 80)
  | 0, i, h => by
    refine Ev.succ ?_
    simp only [folkmootref08_Check.l0]
    rw [List.drop_of_length_le (by omega)]
    refine Ev.no (by omega) (Ev.cond (fun e => ?_) (fun e => ?_))
    · rw [if_pos (by rfl), if_pos (by omega)]; exact Ev.some _
    · rw [if_pos (by rfl), if_neg (by omega)]; exact Ev.some _
  | m + 1, i, h => by
    have hi : i < l.length := by omega
    have ih := rchk_l0 l hl hn m (i + 1) (by omega)
    obtain ⟨n0, n1⟩ := hn l[i] (List.getElem_mem hi)
    have hd : (l.drop i).all isT = (isT l[i] && (l.drop (i + 1)).all isT) := by rw [List.drop_eq_getElem_cons hi, List.all_cons]
    rw [hd]
    refine Ev.succ ?_
    simp only [folkmootref08_Check.l0]
    rw [rd_atO hi]
    generalize hR : (if (l.drop (i + 1)).all isT = true then (if l.length = 0 then (80 : Int) else 0) else 80) = R at ih
    have hj2 := fun a b => rchk_j2 (by omega) ih l[i] n0 n1 a b
    have hgoal : (if (isT l[i] && (l.drop (i + 1)).all isT) = true then (if l.length = 0 then (80 : Int) else 0) else 80) = if isT l[i] = true then R else 80 := by
      cases isT l[i] with
      | false => rfl
      | true => rw [← hR]; rfl
    rw [hgoal]
    generalize l[i] = o at *
    have fin : ∀ a b : Bool, isT o = (keyT o.f1 && a && b && numOk o.f3) → Ev (fun k => folkmootref08_Check.j2 k l (i : Int) a b o.f0 o.f1 o.f2 o.f3) (if isT o = true then R else 80) := fun a b e => by rw [e]; exact hj2 a b
    rw [beq_nil, beq_zero]
    refine Ev.yes (by omega) (Ev.yes (by omega) ?_)
    refine Ev.cond (fun k2 => ?_) (fun k2 => Ev.cond (fun k6 => ?_) (fun k6 => Ev.cond (fun k3 => ?_) (fun k3 => ?_)))
    · refine Ev.cond (fun e => ?_) (fun e => Ev.bind1 (rkey_f o.f2) (Ev.cond (fun g => ?_) (fun g => ?_)))
      · have e' := (toList_nil _).1 e
        refine fin _ _ ?_
        unfold isT
        rw [if_neg (by omega), if_neg (by omega), if_pos k2, e']
        simp [Bool.and_comm, Bool.and_assoc]
      · have e' : ¬ o.f2 = emptyB := fun h => e ((toList_nil _).2 h)
        rw [klt_list]
        refine fin _ _ ?_
        unfold isT
        rw [if_neg (by omega), if_neg (by omega), if_pos k2, decide_eq_false e', g]
        cases keyT o.f1 <;> cases numOk o.f3 <;> cases klt o.f1 o.f2 <;> cases decide (o.f3 = 0) <;> rfl
      · have e' : ¬ o.f2 = emptyB := fun h => e ((toList_nil _).2 h)
        refine fin _ _ ?_
        unfold isT
        rw [if_neg (by omega), if_neg (by omega), if_pos k2, decide_eq_false e', Bool.eq_false_iff.2 g]
        cases keyT o.f1 <;> cases numOk o.f3 <;> cases decide (o.f3 = 0) <;> rfl
    · refine Ev.bind1 (rkey_f o.f2) (Ev.cond (fun g => ?_) (fun g => ?_))
      · rw [bne_text]
        refine fin _ _ ?_
        unfold isT
        rw [if_neg (by omega), if_neg (by omega), if_neg (by omega), if_pos k6, g]
        cases keyT o.f1 <;> cases numOk o.f3 <;> cases decide (o.f2 ≠ o.f1) <;> rfl
      · refine fin _ _ ?_
        unfold isT
        rw [if_neg (by omega), if_neg (by omega), if_neg (by omega), if_pos k6, Bool.eq_false_iff.2 g]
        cases keyT o.f1 <;> cases numOk o.f3 <;> rfl
    · refine Ev.succ ?_
      simp only [folkmootref08_Check.j1]
      refine Ev.yes (by rw [k3]; rfl) (fin _ _ ?_)
      unfold isT
      rw [if_neg (by omega), if_pos (by omega)]
      cases keyT o.f1 <;> cases numOk o.f3 <;> cases decide (o.f2 = emptyB) <;> rfl
    · refine Ev.succ ?_
      simp only [folkmootref08_Check.j1]
      refine Ev.cond (fun k4 => fin _ _ ?_) (fun k4 => Ev.cond (fun k1 => fin _ _ ?_) (fun k1 => Ev.cond (fun k5 => fin _ _ ?_) (fun k5 => ?_)))
      · have k4' : o.f0 = 4 := by simpa using k4
        unfold isT
        rw [if_neg (by omega), if_pos (by omega)]
        cases keyT o.f1 <;> cases numOk o.f3 <;> cases decide (o.f2 = emptyB) <;> rfl
      · unfold isT
        rw [if_pos (by omega)]
        cases keyT o.f1 <;> cases numOk o.f3 <;> cases decide (o.f2 = emptyB) <;> cases decide (o.f3 = 0) <;> rfl
      · unfold isT
        rw [if_pos (by omega)]
        cases keyT o.f1 <;> cases numOk o.f3 <;> cases decide (o.f2 = emptyB) <;> cases decide (o.f3 = 0) <;> rfl
      · have k4' : ¬ o.f0 = 4 := by simpa using k4
        have : isT o = false := by
          unfold isT
          rw [if_neg (by omega), if_neg (by omega), if_neg (by omega), if_neg (by omega), Bool.and_false]
        rw [this]
        exact Ev.some _
theorem ev_rcheck (l : List S63) (hn : ∀ o ∈ l, 0 ≤ o.f3 ∧ o.f3 < 18446744073709551616) : Ev (fun k => folkmootref08_Check.f k l) (checkT l) := by
  unfold folkmootref08_Check.f checkT
  refine Ev.cond (fun e => ?_) (fun e => ?_)
  · rw [if_pos (by omega)]; exact Ev.some _
  · rw [if_neg (by omega)]
    have h := rchk_l0 l (by omega) hn l.length 0 (by omega)
    rw [List.drop_zero] at h
    refine Ev.eq h ?_
    by_cases h0 : l.length = 0
    · rw [if_pos (Or.inl h0 : l.length = 0 ∨ l.any (fun o => !isT o) = true)]; split <;> simp [h0]
    · rw [if_neg h0]
      by_cases ha : l.all isT = true
      · have hno : ¬ (l.length = 0 ∨ l.any (fun o => !isT o) = true) := by
          rintro (h | h)
          · exact h0 h
          · obtain ⟨o, ho, e⟩ := List.any_eq_true.1 h
            rw [List.all_eq_true.1 ha o ho] at e; cases e
        rw [if_pos ha, if_neg hno]
      · rw [if_neg ha, if_pos (Or.inr ?_ : l.length = 0 ∨ l.any (fun o => !isT o) = true)]
        rw [List.any_eq_true]
        have : ¬ ∀ o ∈ l, isT o = true := fun h => ha (List.all_eq_true.2 h)
        simp only [Classical.not_forall] at this
        obtain ⟨o, ho, e⟩ := this
        exact ⟨o, ho, by simp [Bool.eq_false_iff.2 e]⟩
end Go.Proofs.YtgmlenpcchhmbaaGreat.P
end
section
set_option linter.unusedVariables false
set_option linter.unusedSimpArgs false
namespace Go.Proofs.YtgmlenpcchhmbaaGreat.P
open Go.RowKit Go.Proofs.YtgmlenpcchhmbaaGreatW.PrintWords Go.Proofs.YtgmlenpcchhmbaaGreatW.PrintLast Go.Proofs.YtgmlenpcchhmbaaGreatW.PrintMore
theorem u64c_bnd (x : Int) : 0 ≤ u64c x ∧ u64c x < 18446744073709551616 := by
  unfold u64c
  simp [IntKind.wrap, IntKind.bits, IntKind.signed]
  omega
theorem sOp_ok (s : Sight) : (sOp s).1.f1.size ≤ 1048576 ∧ (sOp s).1.f2.size ≤ 1048576 ∧ 0 ≤ (sOp s).1.f3 ∧ (sOp s).1.f3 < 18446744073709551616 := by
  unfold sOp
  exact ⟨sText_size _, sText_size _, (u64c_bnd _).1, (u64c_bnd _).2⟩
theorem rLoopO_ok : ∀ (k : Nat) (n : Int) (s : Sight), ∀ x ∈ (rLoopO k n s).1, x.f1.size ≤ 1048576 ∧ x.f2.size ≤ 1048576 ∧ 0 ≤ x.f3 ∧ x.f3 < 18446744073709551616
  | 0, n, s => by simp [rLoopO]
  | k + 1, n, s => by
    unfold rLoopO
    split
    · intro x hx
      rcases List.mem_cons.1 hx with rfl | hx
      · exact sOp_ok s
      · exact rLoopO_ok k (n - 1) (sOp s).2 x hx
    · simp
theorem rLoopO_len : ∀ (k : Nat) (n : Int) (s : Sight), (rLoopO k n s).1.length ≤ k
  | 0, n, s => by simp [rLoopO]
  | k + 1, n, s => by
    unfold rLoopO
    split
    · have := rLoopO_len k (n - 1) (sOp s).2
      simp only [List.length_cons]; omega
    · simp
theorem sInt_blind (s : Sight) (h : s.2 = true) : (sInt s).2.2 = true := by unfold sInt; rw [if_pos (.inl h)]
theorem sText_blind (s : Sight) (h : s.2 = true) : (sText s).2.2 = true := by unfold sText; rw [if_pos (.inl h)]
theorem sOp_blind (s : Sight) (h : s.2 = true) : (sOp s).2.2 = true := sInt_blind _ (sText_blind _ (sText_blind _ (sInt_blind s h)))
theorem txLoop_blind : ∀ (k : Nat) (n : Int) (s : Sight), s.2 = true → (txLoop k n s).2.2 = true
  | 0, n, s, h => h
  | k + 1, n, s, h => by
    unfold txLoop
    split
    · exact txLoop_blind k (n - 1) _ (sOp_blind s h)
    · exact h
theorem loopsO : ∀ (k : Nat) (n : Int) (s : Sight), ((rLoopO k n s).2.2 = true ∧ (txLoop k n s).2.2 = true) ∨ rLoopO k n s = txLoop k n s
  | 0, n, s => .inr rfl
  | k + 1, n, s => by
    unfold rLoopO txLoop
    by_cases hn : 0 < n
    · cases hs : s.2 with
      | true =>
        rw [if_neg (by simp), if_pos hn]
        exact .inl ⟨hs, txLoop_blind k (n - 1) _ (sOp_blind s hs)⟩
      | false =>
        rw [if_pos ⟨hn, rfl⟩, if_pos hn]
        rcases loopsO k (n - 1) (sOp s).2 with h | h
        · exact .inl h
        · exact .inr (by rw [h])
    · rw [if_neg (fun h => hn h.1), if_neg hn]; exact .inr rfl
def rAllO (b : List Int) : List S63 × Sight := rLoopO 9 (sInt (b, false)).1 (sInt (b, false)).2
theorem rAllO_ok (b : List Int) (q : Prop) : okDone (rAllO b).2 = true ∧ q ↔ (okDone (txAll b).2 = true ∧ rAllO b = txAll b) ∧ q := by
  have h := loopsO 9 (sInt (b, false)).1 (sInt (b, false)).2
  have hno : ∀ s : Sight, s.2 = true → ¬ okDone s = true := fun s hs k => of_decide_eq_true k (.inl hs)
  constructor
  · rintro ⟨k, hq⟩
    rcases h with h | h
    · exact absurd k (hno _ h.1)
    · have e : rAllO b = txAll b := h
      exact ⟨⟨by rw [← e]; exact k, e⟩, hq⟩
  · rintro ⟨⟨k, e⟩, hq⟩
    exact ⟨by rw [e]; exact k, hq⟩
theorem num8 (x : Int) (h0 : 0 ≤ x) (h1 : x < 256) : ((UInt8.ofNat x.toNat).toNat : Int) = x := by
  simp; omega
theorem strOf_inj {xs ys : List Int} (hx : bytesOk xs) (hy : bytesOk ys) (h : (strOfNums xs).toList = (strOfNums ys).toList) : xs = ys := by
  rw [Go.Lib.strOfNums_toList, Go.Lib.strOfNums_toList] at h
  have key : ∀ zs : List Int, bytesOk zs → (Go.Lib.bytesOf zs).map (fun u => (u.toNat : Int)) = zs := fun zs hz => by
    unfold Go.Lib.bytesOf
    rw [List.map_map]
    conv => rhs; rw [← List.map_id zs]
    exact List.map_congr_left fun z hm => num8 z (hz z hm).1 (hz z hm).2
  rw [← key xs hx, ← key ys hy, h]
theorem bytesOf_ok (s : ByteArray) : bytesOk (bytesOf s) := fun x hx => by
  unfold bytesOf at hx
  obtain ⟨u, _, rfl⟩ := List.mem_map.1 hx
  have := u.toNat_lt
  exact ⟨by omega, by omega⟩
theorem laidT_bytes (t : ByteArray) : bytesOk (laidT t) := fun x hx => by
  unfold laidT at hx
  exact (List.mem_append.1 hx).elim (leBytes_byte _ _ x) (bytesOf_ok _ x)
theorem laidI_bytesO (x : Int) : bytesOk (laidI x) := leBytes_byte _ _
theorem laidOps_bytes (d : List S63) : bytesOk (laidOps d) := by
  intro x hx
  unfold laidOps at hx
  rcases List.mem_append.1 hx with hx | hx
  · exact laidI_bytesO _ x hx
  · unfold laidOs at hx
    obtain ⟨y, hy, hx⟩ := List.mem_flatten.1 hx
    obtain ⟨e, _, rfl⟩ := List.mem_map.1 hy
    unfold laidO at hx
    rw [laidTs_two] at hx
    rcases List.mem_append.1 hx with hx | hx
    · rcases List.mem_append.1 hx with hx | hx
      · exact laidI_bytesO _ x hx
      · exact (List.mem_append.1 hx).elim (laidT_bytes _ x) (laidT_bytes _ x)
    · exact laidI_bytesO _ x hx
set_option maxHeartbeats 4000000 in
set_option maxRecDepth 100000 in
theorem rParse_any (A : Option Addr) (c : Nat) (b : List Int) (w : World) (hr : Kd.C (Kd.int .u8) w A b.length b) (hb : bytesOk b) (hl : b.length ≤ 100000000) (R : List S63 × Int) (hR : (parseT b) = R) :
    Calls Tryz.prog 16 #[.slice A b.length c] w fun e w' => ∃ v, e = .returned (.tuple #[v, .int .i64 R.2]) ∧ Kd.R k63 63 w' w.heap.size (fun _ => True) v R.1 ∧ Below w.heap.size w w' := by
  have hop := rfOpen_any A c b w hr (by omega)
  obtain ⟨F, hF⟩ : ∃ F, rAllO b = F := ⟨_, rfl⟩
  obtain ⟨D, s⟩ := F
  have hs1 := rLoopO_ok 9 (sInt (b, false)).1 (sInt (b, false)).2
  have hD9 := rLoopO_len 9 (sInt (b, false)).1 (sInt (b, false)).2
  have hF' : rLoopO 9 (sInt (b, false)).1 (sInt (b, false)).2 = (D, s) := hF
  rw [hF'] at hs1 hD9
  simp only at hs1 hD9
  obtain ⟨q, hq⟩ : ∃ q, checkT D = q := ⟨_, rfl⟩
  have hres : (okDone s = true ∧ q = 0 ∧ laidOps D = b → R = (D, 0)) ∧ (¬ (okDone s = true ∧ q = 0 ∧ laidOps D = b) → R = ([], 80)) := by
    have h1 := rAllO_ok b (checkT (txAll b).1 = 0 ∧ laidOps (txAll b).1 = b)
    have h2 := rAllO_ok b (checkT D = 0 ∧ laidOps D = b)
    rw [hF] at h1 h2
    simp only at h1 h2
    rw [← hR]
    constructor
    · rintro ⟨k1, k2, k3⟩
      obtain ⟨⟨m1, m2⟩, _⟩ := h2.1 ⟨k1, hq.trans k2, k3⟩
      have e1 : (txAll b).1 = D := by rw [← m2]
      unfold parseT
      have hc : okDone (txAll b).2 = true ∧ checkT (txAll b).1 = 0 ∧ laidOps (txAll b).1 = b := ⟨m1, by rw [e1, hq]; exact k2, by rw [e1]; exact k3⟩
      rw [if_pos hc, if_pos hc, e1]
    · intro k
      unfold parseT
      have hnc : ¬ (okDone (txAll b).2 = true ∧ checkT (txAll b).1 = 0 ∧ laidOps (txAll b).1 = b) := ?_
      rw [if_neg hnc, if_neg hnc]
      rintro ⟨m1, m2, m3⟩
      rcases loopsO 9 (sInt (b, false)).1 (sInt (b, false)).2 with h | h
      · exact of_decide_eq_true m1 (.inl h.2)
      · have e : (D, s) = txAll b := hF.symm.trans h
        rw [← e] at m1 m2 m3
        exact k ⟨m1, hq.symm.trans m2, m3⟩
  obtain ⟨kc, hkc⟩ := (ev_rcheck D (fun x hx => (hs1 x hx).2.2)).get
  rw [hq] at hkc
  have hlay : ∀ o ∈ D, o.f1.size ≤ 1048576 ∧ o.f2.size ≤ 1048576 := fun o ho => ⟨(hs1 o ho).1, (hs1 o ho).2.1⟩
  have HOP := Lib.hid hop
  have HX := Lib.hid (And.intro hr (And.intro hb (And.intro hl (And.intro hF' (And.intro hres (And.intro hkc hlay))))))
  have HD9 := Lib.hid hD9
  clear hop hr hb hl hF hF' hs1 hD9 hq hres hkc hlay hR
  go_enter Tryz.func16, Tryz.ntmps16
  go_wp2_with fail
  refine HOP.out.mono ?_
  rintro e w1 ⟨g, ab, rfl, hg, hab, hE1, hb1⟩
  have hrd := rRead_any (b, false) hE1 HX.out.2.1 (by have := HX.out.2.2.1; omega) (by have := HX.out.2.2.1; simp only; omega)
  rw [HX.out.2.2.2.1] at hrd
  have HRD := Lib.hid (And.intro hrd (And.intro hb1 hg))
  clear hrd hE1 hb1 hg hab
  go_wp2_with fail
  refine HRD.out.1.mono ?_
  rintro e w2 ⟨v2, rfl, hS2, hE2, hu2⟩
  have hb2 : Below w.heap.size w w2 := HRD.out.2.1.trans (hu2.below HRD.out.2.1.size (fun q hq e => by have := HRD.out.2.2; omega))
  obtain ⟨A2, c2, rfl⟩ := Kd.R_slice hS2
  obtain ⟨_, hc2, hC2⟩ := Kd.R_reads' hS2
  have HS2 := Lib.hid (And.intro (Kd.R_lower hS2 HRD.out.2.1.size) (And.intro hb2 (And.intro hc2 hC2)))
  have HDN := Lib.hid (fun (W : World) (h : Below w2.heap.size w2 W) => rfDone_any (hE2.below h))
  clear hS2 hE2 hu2 hb2 hc2 hC2
  obtain ⟨dv, hdv⟩ : ∃ dv, (if s.2 = true ∨ s.1.length ≠ 0 then (20 : Int) else 0) = dv := ⟨_, rfl⟩
  rw [hdv] at HDN
  have hok : okDone s = decide (dv = 0) := by
    rw [← hdv]
    unfold okDone
    split
    · rename_i h; rw [decide_eq_false (fun hn => hn h)]; rfl
    · rename_i h; rw [decide_eq_true h]; rfl
  have HOK := Lib.hid hok
  clear hdv hok
  have hcb := fun (W : World) (h : Below w2.heap.size w2 W) => Kd.C_string (P := Tryz.prog) (A := A) (c := c) (dst := 9) Tryz.underlying23 Tryz.underlying5 Tryz.underlying9 (Kd.C_below HX.out.1 (HS2.out.2.1.trans (h.mono HS2.out.2.1.size)))
  have HCB := Lib.hid hcb
  have hcb0 := HCB.out w2.drew (below_drew (Below.refl _ _))
  clear hcb
  obtain ⟨sb, hsb⟩ : ∃ sb, strOfNums b = sb := ⟨_, rfl⟩
  obtain ⟨sx, hsx⟩ : ∃ sx, strOfNums (laidOps D) = sx := ⟨_, rfl⟩
  rw [hsb] at HCB hcb0
  have HST := Lib.hid (And.intro hsb hsx)
  clear hsb hsx
  go_upto_region 3 with fail
  by_cases hd : dv = 0
  case neg =>
    have e1 : (dv == 0) = false := beq_eq_false_iff_ne.2 hd
    have e2 : (dv != 0) = true := bne_iff_ne.2 hd
    have HR := Lib.hid (HX.out.2.2.2.2.1.2 (fun h => by rw [HOK.out] at h; exact hd (of_decide_eq_true h.1)))
    refine wp_region_held (S := (fun W => Below w2.heap.size w2 W)) (by kernel_rfl) ?_
    simp only [List.size_toArray, List.length_cons, List.length_nil, Nat.zero_add, Nat.reduceAdd]
    have hHeld : ((fun W => Below w2.heap.size w2 W)) w2.drew := below_drew (Below.refl _ _)
    refine tk_ 0 hHeld ?_
    refine wpAnyH_ready (rs := [1]) (by kernel_rfl) (by simp) ?_
    refine (AllReadyH.cons rfl (fun K hK => ?_) AllReadyH.nil)
    go_simp
    refine (HDN.out _ hHeld).mono ?_
    rintro e w3 ⟨rfl, hb3⟩
    refine hK.out _ _ ?_ (fun hHeld => ?_)
    · exact hHeld.trans (hb3.mono hHeld.size)
    clear hK K
    have HB3 := Lib.hid hHeld
    clear hb3
    try simp only [List.getElem_toArray, List.getElem_cons_succ, List.getElem_cons_zero, Act.put, List.setIfInBounds_toArray, List.set_cons_zero, List.set_cons_succ]
    refine tk_ 2 hHeld ?_
    refine tk_ 3 hHeld ?_
    refine tf_ 4 hHeld ?_
    refine tf_ 5 hHeld ?_
    refine tf_ 6 hHeld ?_
    refine tk_ 7 hHeld ?_
    refine tk_ 8 hHeld ?_
    refine tf_ 9 hHeld ?_
    refine tf_ 10 hHeld ?_
    refine tf_ 11 hHeld ?_
    refine tf_ 12 hHeld ?_
    refine tf_ 13 hHeld ?_
    refine tf_ 14 hHeld ?_
    refine tk_ 15 hHeld ?_
    refine wpAnyH_done (by kernel_rfl) ?_ _
    go_wp2
    go_ret2
    have hr := HR.out
    subst hr
    exact ⟨_, rfl, Kd.R_nil _ _ _ _ _, HS2.out.2.1.trans (HB3.out.mono HS2.out.2.1.size)⟩
  case pos =>
    subst hd
    have hok2 : okDone s = true := by rw [HOK.out]; rfl
    have HOK2 := Lib.hid hok2
    clear hok2
    by_cases hq : q = 0
    case neg =>
      have e1 : (q == 0) = false := beq_eq_false_iff_ne.2 hq
      have e2 : (q != 0) = true := bne_iff_ne.2 hq
      have HR := Lib.hid (HX.out.2.2.2.2.1.2 (fun h => hq h.2.1))
      refine wp_region_held (S := (fun W => Below w2.heap.size w2 W)) (by kernel_rfl) ?_
      simp only [List.size_toArray, List.length_cons, List.length_nil, Nat.zero_add, Nat.reduceAdd]
      have hHeld : ((fun W => Below w2.heap.size w2 W)) w2.drew := below_drew (Below.refl _ _)
      refine tk_ 0 hHeld ?_
      refine wpAnyH_ready (rs := [1]) (by kernel_rfl) (by simp) ?_
      refine (AllReadyH.cons rfl (fun K hK => ?_) AllReadyH.nil)
      go_simp
      refine (HDN.out _ hHeld).mono ?_
      rintro e w3 ⟨rfl, hb3⟩
      refine hK.out _ _ ?_ (fun hHeld => ?_)
      · exact hHeld.trans (hb3.mono hHeld.size)
      clear hK K
      clear hb3
      try simp only [List.getElem_toArray, List.getElem_cons_succ, List.getElem_cons_zero, Act.put, List.setIfInBounds_toArray, List.set_cons_zero, List.set_cons_succ]
      refine tk_ 2 hHeld ?_
      refine tk_ 3 hHeld ?_
      refine tk_ 4 hHeld ?_
      refine wpAnyH_ready (rs := [5]) (by kernel_rfl) (by simp) ?_
      refine (AllReadyH.cons rfl (fun K hK => ?_) AllReadyH.nil)
      go_simp
      refine (folkmootref08_Check.calls kc A2 c2 D _ _ (Kd.C_below HS2.out.2.2.2 hHeld) HS2.out.2.2.1 HX.out.2.2.2.2.2.1).mono ?_
      rintro e w4 ⟨rfl, hb4⟩
      refine hK.out _ _ ?_ (fun hHeld => ?_)
      · exact hHeld.trans (hb4.mono hHeld.size)
      clear hK K
      have HB3 := Lib.hid hHeld
      clear hb4
      try simp only [List.getElem_toArray, List.getElem_cons_succ, List.getElem_cons_zero, Act.put, List.setIfInBounds_toArray, List.set_cons_zero, List.set_cons_succ]
      refine tk_ 6 hHeld ?_
      refine tk_ 7 hHeld ?_
      refine tk_ 8 hHeld ?_
      refine tf_ 9 hHeld ?_
      refine tf_ 10 hHeld ?_
      refine tf_ 11 hHeld ?_
      refine tf_ 12 hHeld ?_
      refine tf_ 13 hHeld ?_
      refine tf_ 14 hHeld ?_
      refine tk_ 15 hHeld ?_
      refine wpAnyH_done (by kernel_rfl) ?_ _
      go_wp2
      go_ret2
      have hr := HR.out
      subst hr
      exact ⟨_, rfl, Kd.R_nil _ _ _ _ _, HS2.out.2.1.trans (HB3.out.mono HS2.out.2.1.size)⟩
    case pos =>
      subst hq
      by_cases hbe : laidOps D = b
      case pos =>
        have hss : sb = sx := by rw [← HST.out.1, ← HST.out.2, hbe]
        have HR := Lib.hid (HX.out.2.2.2.2.1.1 ⟨HOK2.out, rfl, hbe⟩)
        subst hss
        clear hbe
        refine wp_region_held (S := (fun W => Below w2.heap.size w2 W ∧ (convert 23 9 (.slice A b.length c)).run Tryz.prog W = .ok (.string sb) W)) (by kernel_rfl) ?_
        simp only [List.size_toArray, List.length_cons, List.length_nil, Nat.zero_add, Nat.reduceAdd]
        have hHeld : ((fun W => Below w2.heap.size w2 W ∧ (convert 23 9 (.slice A b.length c)).run Tryz.prog W = .ok (.string sb) W)) w2.drew := ⟨below_drew (Below.refl _ _), hcb0⟩
        refine tk_ 0 hHeld ?_
        refine wpAnyH_ready (rs := [1]) (by kernel_rfl) (by simp) ?_
        refine (AllReadyH.cons rfl (fun K hK => ?_) AllReadyH.nil)
        go_simp
        refine (HDN.out _ hHeld.1).mono ?_
        rintro e w3 ⟨rfl, hb3⟩
        refine hK.out _ _ ?_ (fun hHeld => ?_)
        · exact ⟨hHeld.1.trans (hb3.mono hHeld.1.size), HCB.out _ (hHeld.1.trans (hb3.mono hHeld.1.size))⟩
        clear hK K
        clear hb3
        try simp only [List.getElem_toArray, List.getElem_cons_succ, List.getElem_cons_zero, Act.put, List.setIfInBounds_toArray, List.set_cons_zero, List.set_cons_succ]
        refine tk_ 2 hHeld ?_
        refine tk_ 3 hHeld ?_
        refine tk_ 4 hHeld ?_
        refine wpAnyH_ready (rs := [5]) (by kernel_rfl) (by simp) ?_
        refine (AllReadyH.cons rfl (fun K hK => ?_) AllReadyH.nil)
        go_simp
        refine (folkmootref08_Check.calls kc A2 c2 D _ _ (Kd.C_below HS2.out.2.2.2 hHeld.1) HS2.out.2.2.1 HX.out.2.2.2.2.2.1).mono ?_
        rintro e w4 ⟨rfl, hb4⟩
        refine hK.out _ _ ?_ (fun hHeld => ?_)
        · exact ⟨hHeld.1.trans (hb4.mono hHeld.1.size), HCB.out _ (hHeld.1.trans (hb4.mono hHeld.1.size))⟩
        clear hK K
        clear hb4
        try simp only [List.getElem_toArray, List.getElem_cons_succ, List.getElem_cons_zero, Act.put, List.setIfInBounds_toArray, List.set_cons_zero, List.set_cons_succ]
        refine tk_ 6 hHeld ?_
        refine tk_ 7 hHeld ?_
        refine tk_ 8 hHeld ?_
        refine tk_ 9 hHeld ?_
        refine tk_ 12 hHeld ?_
        refine tk_ 13 hHeld ?_
        refine wpAnyH_ready (rs := [10]) (by kernel_rfl) (by simp) ?_
        refine (AllReadyH.cons rfl (fun K hK => ?_) AllReadyH.nil)
        go_simp
        refine (rLayO_any A2 c2 D _ (Kd.C_below HS2.out.2.2.2 hHeld.1) (Nat.le_trans HD9.out (by decide)) HX.out.2.2.2.2.2.2).mono ?_
        rintro e w5 ⟨v5, rfl, ho5, hb5⟩
        obtain ⟨A5, c5, rfl, hc5, hC5⟩ := Kd.R_reads ho5
        have HL := Lib.hid (Kd.C_string (P := Tryz.prog) (A := A5) (c := c5) (dst := 9) Tryz.underlying23 Tryz.underlying5 Tryz.underlying9 hC5)
        rw [HST.out.2] at HL
        refine hK.out _ _ ?_ (fun hHeld => ?_)
        · exact ⟨hHeld.1.trans (hb5.mono hHeld.1.size), HCB.out _ (hHeld.1.trans (hb5.mono hHeld.1.size))⟩
        clear hK K
        clear ho5 hb5 hc5 hC5
        try simp only [List.getElem_toArray, List.getElem_cons_succ, List.getElem_cons_zero, Act.put, List.setIfInBounds_toArray, List.set_cons_zero, List.set_cons_succ]
        refine wpAnyH_ready (rs := [11]) (by kernel_rfl) (by simp) ?_
        refine (AllReadyH.cons rfl (fun K hK => ?_) AllReadyH.nil)
        have hcl := HL.out
        go_simp
        clear hcl
        refine hK.out _ _ ?_ (fun hHeld => ?_)
        · exact hHeld
        clear hK K
        have HB3 := Lib.hid hHeld.1
        try simp only [List.getElem_toArray, List.getElem_cons_succ, List.getElem_cons_zero, Act.put, List.setIfInBounds_toArray, List.set_cons_zero, List.set_cons_succ]
        refine tk_ 14 hHeld ?_
        refine tk_ 15 hHeld ?_
        refine wpAnyH_done (by kernel_rfl) ?_ _
        go_wp2
        go_ret2
        have hr := HR.out
        subst hr
        exact ⟨_, rfl, Kd.R_below HS2.out.1 HB3.out, HS2.out.2.1.trans (HB3.out.mono HS2.out.2.1.size)⟩
      case neg =>
        have hss : ¬ sx.toList = sb.toList := fun h => hbe (strOf_inj (laidOps_bytes D) HX.out.2.1 (by rw [HST.out.1, HST.out.2]; exact h))
        have HR := Lib.hid (HX.out.2.2.2.2.1.2 (fun h => hbe h.2.2))
        have f1 : (sx.toList == sb.toList) = false := beq_eq_false_iff_ne.2 hss
        have f2 : (sx.toList != sb.toList) = true := bne_iff_ne.2 hss
        clear hbe hss
        refine wp_region_held (S := (fun W => Below w2.heap.size w2 W ∧ (convert 23 9 (.slice A b.length c)).run Tryz.prog W = .ok (.string sb) W)) (by kernel_rfl) ?_
        simp only [List.size_toArray, List.length_cons, List.length_nil, Nat.zero_add, Nat.reduceAdd]
        have hHeld : ((fun W => Below w2.heap.size w2 W ∧ (convert 23 9 (.slice A b.length c)).run Tryz.prog W = .ok (.string sb) W)) w2.drew := ⟨below_drew (Below.refl _ _), hcb0⟩
        refine tk_ 0 hHeld ?_
        refine wpAnyH_ready (rs := [1]) (by kernel_rfl) (by simp) ?_
        refine (AllReadyH.cons rfl (fun K hK => ?_) AllReadyH.nil)
        go_simp
        refine (HDN.out _ hHeld.1).mono ?_
        rintro e w3 ⟨rfl, hb3⟩
        refine hK.out _ _ ?_ (fun hHeld => ?_)
        · exact ⟨hHeld.1.trans (hb3.mono hHeld.1.size), HCB.out _ (hHeld.1.trans (hb3.mono hHeld.1.size))⟩
        clear hK K
        clear hb3
        try simp only [List.getElem_toArray, List.getElem_cons_succ, List.getElem_cons_zero, Act.put, List.setIfInBounds_toArray, List.set_cons_zero, List.set_cons_succ]
        refine tk_ 2 hHeld ?_
        refine tk_ 3 hHeld ?_
        refine tk_ 4 hHeld ?_
        refine wpAnyH_ready (rs := [5]) (by kernel_rfl) (by simp) ?_
        refine (AllReadyH.cons rfl (fun K hK => ?_) AllReadyH.nil)
        go_simp
        refine (folkmootref08_Check.calls kc A2 c2 D _ _ (Kd.C_below HS2.out.2.2.2 hHeld.1) HS2.out.2.2.1 HX.out.2.2.2.2.2.1).mono ?_
        rintro e w4 ⟨rfl, hb4⟩
        refine hK.out _ _ ?_ (fun hHeld => ?_)
        · exact ⟨hHeld.1.trans (hb4.mono hHeld.1.size), HCB.out _ (hHeld.1.trans (hb4.mono hHeld.1.size))⟩
        clear hK K
        clear hb4
        try simp only [List.getElem_toArray, List.getElem_cons_succ, List.getElem_cons_zero, Act.put, List.setIfInBounds_toArray, List.set_cons_zero, List.set_cons_succ]
        refine tk_ 6 hHeld ?_
        refine tk_ 7 hHeld ?_
        refine tk_ 8 hHeld ?_
        refine tk_ 9 hHeld ?_
        refine tk_ 12 hHeld ?_
        refine tk_ 13 hHeld ?_
        refine wpAnyH_ready (rs := [10]) (by kernel_rfl) (by simp) ?_
        refine (AllReadyH.cons rfl (fun K hK => ?_) AllReadyH.nil)
        go_simp
        refine (rLayO_any A2 c2 D _ (Kd.C_below HS2.out.2.2.2 hHeld.1) (Nat.le_trans HD9.out (by decide)) HX.out.2.2.2.2.2.2).mono ?_
        rintro e w5 ⟨v5, rfl, ho5, hb5⟩
        obtain ⟨A5, c5, rfl, hc5, hC5⟩ := Kd.R_reads ho5
        have HL := Lib.hid (Kd.C_string (P := Tryz.prog) (A := A5) (c := c5) (dst := 9) Tryz.underlying23 Tryz.underlying5 Tryz.underlying9 hC5)
        rw [HST.out.2] at HL
        refine hK.out _ _ ?_ (fun hHeld => ?_)
        · exact ⟨hHeld.1.trans (hb5.mono hHeld.1.size), HCB.out _ (hHeld.1.trans (hb5.mono hHeld.1.size))⟩
        clear hK K
        clear ho5 hb5 hc5 hC5
        try simp only [List.getElem_toArray, List.getElem_cons_succ, List.getElem_cons_zero, Act.put, List.setIfInBounds_toArray, List.set_cons_zero, List.set_cons_succ]
        refine wpAnyH_ready (rs := [11]) (by kernel_rfl) (by simp) ?_
        refine (AllReadyH.cons rfl (fun K hK => ?_) AllReadyH.nil)
        have hcl := HL.out
        go_simp
        clear hcl
        refine hK.out _ _ ?_ (fun hHeld => ?_)
        · exact hHeld
        clear hK K
        have HB3 := Lib.hid hHeld.1
        try simp only [List.getElem_toArray, List.getElem_cons_succ, List.getElem_cons_zero, Act.put, List.setIfInBounds_toArray, List.set_cons_zero, List.set_cons_succ]
        refine tk_ 14 hHeld ?_
        refine tk_ 15 hHeld ?_
        refine wpAnyH_done (by kernel_rfl) ?_ _
        go_wp2
        go_ret2
        have hr := HR.out
        subst hr
        exact ⟨_, rfl, Kd.R_nil _ _ _ _ _, HS2.out.2.1.trans (HB3.out.mono HS2.out.2.1.size)⟩
def folkmootref08_Parse.f (b : List Int) : Option (List S63 × Int) := if bytesOk b ∧ b.length ≤ 100000000 then some (parseT b) else none
theorem folkmootref08_Parse.calls (A0 : Option Addr) (c0 : Nat) (l0 : List Int) (r0 : List S63) (r1 : Int) (w : World) (hr0 : Kd.C (Kd.int .u8) w A0 l0.length l0) (_hc0 : l0.length ≤ c0) (h : folkmootref08_Parse.f l0 = some (r0, r1)) :
    Calls Tryz.prog 16 #[.slice A0 l0.length c0] w fun e w' => ∃ v0_ : Value, e = .returned (.tuple #[v0_, .int .i64 r1]) ∧ Kd.R k63 63 w' w.heap.size (fun _ => True) v0_ r0 ∧ Below w.heap.size w w' := by
  unfold folkmootref08_Parse.f at h
  split at h
  · rename_i hc
    exact rParse_any A0 c0 l0 w hr0 hc.1 hc.2 (r0, r1) (Option.some.inj h)
  · cases h
end Go.Proofs.YtgmlenpcchhmbaaGreat.P
end
section
set_option linter.unusedVariables false
set_option linter.unusedSimpArgs false
namespace Go.Proofs.YtgmlenpcchhmbaaGreat.P
open Go.RowKit Go.Proofs.YtgmlenpcchhmbaaGreatW.PrintWords Go.Proofs.YtgmlenpcchhmbaaGreatW.PrintLast
theorem str_bytes (t : ByteArray) : strOfNums (bytesOf t) = t := by
  rw [← toList_inj, Go.Lib.strOfNums_toList]
  unfold Go.Lib.bytesOf bytesOf
  rw [List.map_map]
  have h : ∀ b : UInt8, UInt8.ofNat ((b.toNat : Int)).toNat = b := fun b => by simp
  conv => rhs; rw [← List.map_id t.toList]
  first
  | exact List.map_congr_left fun b _ => h b
  | (rw [ByteArray.toList_eq]; exact List.map_congr_left fun b _ => h b)
theorem numOf_le (k n : Nat) (r : List Int) (h : n < 256 ^ k) : numOf (leBytes k n ++ r) k = n := by
  unfold numOf
  rw [List.take_append_of_le_length (by rw [leBytes_len]; omega), List.take_of_length_le (by rw [leBytes_len]; omega), leNum_leBytes]
  exact Nat.mod_eq_of_lt h
theorem drop_le (k n : Nat) (r : List Int) : (leBytes k n ++ r).drop k = r := by
  rw [List.drop_append_of_le_length (by rw [leBytes_len]; omega), List.drop_eq_nil_of_le (by rw [leBytes_len]; omega), List.nil_append]
theorem sInt_laidO {x : Int} (h0 : -9223372036854775808 ≤ x) (h1 : x ≤ 9223372036854775807) (r : List Int) : sInt (laidI x ++ r, false) = (x, (r, false)) := by
  have h8 := u64_lt x
  rw [sInt_ok (by rw [List.length_append, laidI_len]; omega)]
  unfold laidI
  rw [numOf_le 8 _ _ (by omega), drop_le, i64_u64 h0 h1]
theorem sText_laid {t : ByteArray} (h : t.size ≤ 1048576) (r : List Int) : sText (laidT t ++ r, false) = (t, (r, false)) := by
  have hc : cutT t = t := by unfold cutT; rw [Nat.min_eq_left h]; exact ByteArray.extract_zero_size
  have hl : laidT t = leBytes 4 t.size ++ bytesOf t := by unfold laidT; rw [hc, Nat.min_eq_left h]
  have hn : numOf (leBytes 4 t.size ++ (bytesOf t ++ r)) 4 = t.size := numOf_le 4 _ _ (by omega)
  rw [hl, List.append_assoc, sText_ok (by
    unfold textAt
    rw [hn, List.length_append, List.length_append, leBytes_len, bytesOf_length]
    simp; omega), hn, drop_le]
  have e1 : (bytesOf t ++ r).take t.size = bytesOf t := by rw [List.take_append_of_le_length (by rw [bytesOf_length]; omega), List.take_of_length_le (by rw [bytesOf_length]; omega)]
  have e2 : (bytesOf t ++ r).drop t.size = r := by rw [List.drop_append_of_le_length (by rw [bytesOf_length]; omega), List.drop_eq_nil_of_le (by rw [bytesOf_length]; omega), List.nil_append]
  rw [e1, e2, str_bytes]
theorem u64c_wrap {x : Int} (h0 : 0 ≤ x) (h1 : x < 18446744073709551616) : u64c (wrap64 x) = x := by
  unfold u64c
  rw [← wrap_i64]
  simp [IntKind.wrap, IntKind.bits, IntKind.signed]
  omega
def fitO (o : S63) : Prop := (-9223372036854775808 ≤ o.f0 ∧ o.f0 ≤ 9223372036854775807) ∧ o.f1.size ≤ 1048576 ∧ o.f2.size ≤ 1048576 ∧ 0 ≤ o.f3 ∧ o.f3 < 18446744073709551616
theorem wrap64_bnd (x : Int) : -9223372036854775808 ≤ wrap64 x ∧ wrap64 x ≤ 9223372036854775807 := by unfold wrap64; omega
theorem sOp_laid {o : S63} (h : fitO o) (r : List Int) : sOp (laidO o ++ r, false) = (o, (r, false)) := by
  have e : laidO o ++ r = laidI o.f0 ++ (laidT o.f1 ++ (laidT o.f2 ++ (laidI (wrap64 o.f3) ++ r))) := by unfold laidO; rw [laidTs_two]; simp only [List.append_assoc]
  rw [e]
  unfold sOp
  rw [sInt_laidO h.1.1 h.1.2]
  simp only
  rw [sText_laid h.2.1]
  simp only
  rw [sText_laid h.2.2.1]
  simp only
  rw [sInt_laidO (wrap64_bnd _).1 (wrap64_bnd _).2, u64c_wrap h.2.2.2.1 h.2.2.2.2]
theorem laidOs_cons (o : S63) (l : List S63) : laidOs (o :: l) = laidO o ++ laidOs l := by unfold laidOs; simp
theorem txLoop_laid : ∀ (l : List S63) (k : Nat) (r : List Int), (∀ o ∈ l, fitO o) → l.length ≤ k → txLoop k (l.length : Int) (laidOs l ++ r, false) = (l, (r, false))
  | [], 0, r, _, _ => rfl
  | [], k + 1, r, _, _ => by
    unfold txLoop
    rw [if_neg (by simp)]; rfl
  | o :: l, 0, r, _, h => by simp at h
  | o :: l, k + 1, r, hf, h => by
    unfold txLoop
    rw [if_pos (by simp), laidOs_cons, List.append_assoc, sOp_laid (hf o (List.mem_cons_self ..))]
    simp only
    rw [show (((o :: l).length : Nat) : Int) - 1 = (l.length : Int) by simp, txLoop_laid l k r (fun x hx => hf x (List.mem_cons_of_mem _ hx)) (by simpa using h)]
theorem txAll_laid {l : List S63} (hf : ∀ o ∈ l, fitO o) (hl : l.length ≤ 9) : txAll (laidOps l) = (l, ([], false)) := by
  unfold txAll laidOps
  rw [sInt_laidO (by omega) (by omega)]
  simp only
  have := txLoop_laid l 9 [] hf hl
  rwa [List.append_nil] at this
theorem parse_laidO {l : List S63} (hf : ∀ o ∈ l, fitO o) (hl : l.length ≤ 9) (hc : checkT l = 0) : parseT (laidOps l) = (l, 0) := by
  have h := txAll_laid hf hl
  unfold parseT
  have hok : okDone (txAll (laidOps l)).2 = true ∧ checkT (txAll (laidOps l)).1 = 0 ∧ laidOps (txAll (laidOps l)).1 = laidOps l := by
    rw [h]
    exact ⟨by unfold okDone; simp, hc, rfl⟩
  rw [if_pos hok, if_pos hok, h]
end Go.Proofs.YtgmlenpcchhmbaaGreat.P
end
section
set_option linter.unusedVariables false
set_option linter.unusedSimpArgs false
namespace Go.Proofs.YtgmlenpcchhmbaaGreat.P
open Go.RowKit Go.Shelf Go.Proofs.YtgmlenpcchhmbaaGreatW.PrintWords Go.Proofs.YtgmlenpcchhmbaaGreatW.PrintLast Go.Proofs.YtgmlenpcchhmbaaGreatW.PrintMore
set_option maxHeartbeats 1000000 in
theorem idxPr_any (g : Nat) (fst lb : Array Value) (p : S61 → Bool) (eg : ∀ args w, (callFunc g args).run Tryz.prog w = .ok (.enter g args) w) (base blk cap : Nat) (xs : List (S61)) (w : World)
    (hown : RowPr w base (.slice (some ⟨blk, 0, none⟩) xs.length cap) xs) (hm : xs.length ≤ cap ∧ cap ≤ 9223372036854775807)
    (hp : ∀ (W : World) (s : S61), s ∈ xs → Below w.heap.size w W → Calls Tryz.prog g (fst ++ #[.agg #[.string s.f0, .int .u64 s.f1]] ++ lb) W fun e w' => e = .returned (.bool (p s)) ∧ Below W.heap.size W w') :
    Calls Tryz.prog 125 #[.slice (some ⟨blk, 0, none⟩) xs.length cap, .func (.func g) fst lb] w fun e w' => e = .returned (.int .i64 (idxP p xs)) ∧ Below w.heap.size w w' := by
  obtain ⟨hm1, hm2⟩ := hm
  have HR := Lib.hid hown; clear hown
  have HP := Lib.hid hp; clear hp
  go_enter Tryz.func125, Tryz.ntmps125
  go_wp2
  go_loopw [5, 8] (fun _ i wr => ∃ k : Nat, i = .int .i64 k ∧ k ≤ xs.length ∧ Below w.heap.size w wr ∧ RowKit.Hid (∀ j (hj : j < xs.length), j < k → p xs[j] = false)) (fun _ i _ => xs.length - (intOf i).toNat)
  case atStart => exact ⟨0, rfl, Nat.zero_le _, Below.refl _ _, Lib.hid (fun j _ h => absurd h (Nat.not_lt_zero _))⟩
  case round =>
    obtain ⟨k, rfl, hk, hB, HN⟩ := hrel
    by_cases hlt : k < xs.length
    · obtain ⟨x0, x1, _, _⟩ := RowPr.at_ (pw_own_below HR.out hB) k xs[k] (List.getElem?_eq_getElem hlt)
      have hc := HP.out wr xs[k] (List.getElem_mem hlt) hB
      generalize hu : xs[k] = u at *
      have HU := Lib.hid hu; clear hu
      cases hq : p u with
      | true =>
        rw [hq] at hc
        have HQ := Lib.hid hq; clear hq
        go_wp2_with (go_at_fn g; refine hc.mono ?_; rintro e w' ⟨rfl, hb⟩)
        go_ret
        refine ⟨?_, hB.trans (hb.mono hB.size)⟩
        rw [idxP_hit hlt HN.out (by rw [HU.out]; exact HQ.out)]
        rfl
      | false =>
        rw [hq] at hc
        have HQ := Lib.hid hq; clear hq
        go_wp2_with (go_at_fn g; refine hc.mono ?_; rintro e w' ⟨rfl, hb⟩)
        go_roundw
        case rel => exact ⟨k + 1, by go_num, by omega, hB.trans (hb.mono hB.size), Lib.hid (fun j hj h => by
          by_cases e : j = k
          · subst e; rw [HU.out]; exact HQ.out
          · exact HN.out j hj (by omega))⟩
        case measure => simp [intOf]; omega
    · obtain rfl : k = xs.length := by omega
      go_wp2
      go_ret
      refine ⟨?_, hB⟩
      rw [idxP_none (fun j hj => HN.out j hj (by omega))]
      rfl
set_option maxHeartbeats 4000000 in
set_option maxRecDepth 100000 in
theorem delPr_any (g : Nat) (fst lb : Array Value) (p : S61 → Bool) (eg : ∀ args w, (callFunc g args).run Tryz.prog w = .ok (.enter g args) w) (base blk cap : Nat) (xs : List (S61)) (w : World)
    (hown : RowPr w base (.slice (some ⟨blk, 0, none⟩) xs.length cap) xs)
    (hp : ∀ (W : World) (s : S61), s ∈ xs → Upd w W (· = blk) → Calls Tryz.prog g (fst ++ #[.agg #[.string s.f0, .int .u64 s.f1]] ++ lb) W fun e w' => e = .returned (.bool (p s)) ∧ Below W.heap.size W w') :
    Calls Tryz.prog 82 #[.slice (some ⟨blk, 0, none⟩) xs.length cap, .func (.func g) fst lb] w fun e w' =>
      e = .returned (.slice (some ⟨blk, 0, none⟩) (xs.filter fun x => !p x).length cap) ∧ RowPr w' base (.slice (some ⟨blk, 0, none⟩) (xs.filter fun x => !p x).length cap) (xs.filter fun x => !p x) ∧ Upd w w' (· = blk) := by
  have hcap : xs.length ≤ cap ∧ cap ≤ 9223372036854775807 := by
    rcases hown.2 with ⟨h, _⟩ | ⟨g', cap', cur, h, _, _, h1, h2, _⟩
    · cases h
    · injection h with _ _ h
      subst h
      exact ⟨h1, by simpa [maxLen] using h2⟩
  have hidx := idxPr_any g fst lb p eg base blk cap xs w hown hcap (fun W x hx hb => hp W x hx (Upd.of_below hb _))
  obtain ⟨hcap1, hcap2⟩ := hcap
  have HO := Lib.hid hown
  have HP := Lib.hid hp; clear hp
  by_cases hall : ∀ j (hj : j < xs.length), p xs[j] = false
  · rw [idxP_none hall] at hidx
    have hf : (xs.filter fun x => !p x) = xs := List.filter_eq_self.2 (fun x hx => by
      obtain ⟨j, hj, rfl⟩ := List.getElem_of_mem hx
      simp [hall j hj])
    rw [hf]
    clear hf hall hown
    go_enter Tryz.func82, Tryz.ntmps82
    go_wp2_with (go_at_call 125; refine hidx.mono ?_; rintro e w' ⟨rfl, hb⟩)
    go_ret
    exact ⟨rfl, pw_own_below HO.out hb, Upd.of_below hb _⟩
  · obtain ⟨k, hk, ht, hlow⟩ : ∃ k, ∃ hk : k < xs.length, p xs[k] = true ∧ ∀ j (hj : j < xs.length), j < k → p xs[j] = false := by
      cases hf : xs.findIdx? p with
      | none =>
        rw [List.findIdx?_eq_none_iff] at hf
        exact absurd (fun j hj => hf _ (List.getElem_mem hj)) hall
      | some k =>
        rw [List.findIdx?_eq_some_iff_getElem] at hf
        obtain ⟨hk, ht, h⟩ := hf
        exact ⟨k, hk, ht, fun j _ hj => by simpa using h j hj⟩
    rw [idxP_hit hk hlow ht] at hidx
    have HI := Lib.hid (DelInv.start hk hlow ht)
    clear hall hlow ht hown
    have hne : ((k : Int) == -1) = false := beq_eq_false_iff_ne.2 (by omega)
    go_enter Tryz.func82, Tryz.ntmps82
    go_wp2_with (go_at_call 125; refine hidx.mono ?_; rintro e w' ⟨rfl, hb⟩)
    go_loopw [5, 6, 7] (fun si sj _ wr => ∃ (i j : Nat) (ys : List (S61)), si = .int .i64 i ∧ sj = .int .i64 j ∧ i < j ∧ j ≤ xs.length ∧ RowKit.Hid (DelInv p xs ys i j) ∧ RowKit.Hid (RowPr wr base (.slice (some ⟨blk, 0, none⟩) xs.length cap) ys ∧ Upd w wr (· = blk))) (fun _ j _ _ => xs.length - (intOf j).toNat)
    case atStart => exact ⟨k, k + 1, xs, rfl, by go_num, by omega, by omega, HI, Lib.hid ⟨pw_own_below HO.out hb, Upd.of_below hb _⟩⟩
    case round =>
      obtain ⟨i, j, ys, rfl, rfl, hij, hj, HD, HS⟩ := hrel
      have hyl := HD.out.len
      by_cases hlt : j < xs.length
      · have hget := HD.out.get hlt
        obtain ⟨x0, x1, _, _⟩ := RowPr.at_ HS.out.1 j xs[j] (by rw [List.getElem?_eq_getElem (by omega), hget])
        obtain ⟨z', hz'⟩ : ∃ z', ys[i]? = some z' := ⟨_, List.getElem?_eq_getElem (by omega)⟩
        obtain ⟨c0, c1, q0, q1⟩ := RowPr.at_ HS.out.1 i z' hz'
        have hblk : blk < wr.heap.size := (World.ownsRow.lt HS.out.1 blk rfl).2
        have hc := fun W (h : Below wr.heap.size wr W) => HP.out W xs[j] (List.getElem_mem hlt) (HS.out.2.then_below h)
        have hx : RowKit.Hid (∀ q, p xs[j] = q → DelInv p xs (if q then ys else ys.set i xs[j]) (if q then i else i + 1) (j + 1)) := Lib.hid (fun q hq => by
          cases q with
          | true => exact HD.out.skip hlt hq
          | false => exact HD.out.keep hlt hq)
        clear hget hyl hz'
        generalize xs[j] = s at *
        obtain ⟨q, hq⟩ : ∃ q, p s = q := ⟨_, rfl⟩
        rw [hq] at hc
        have HC := Lib.hid hc; clear hc
        have HQ := Lib.hid hq; clear hq
        cases q with
        | true =>
          have HSK := Lib.hid (hx.out true HQ.out)
          go_wp2_with (go_at_fn g; refine (HC.out _ ((Below.refl _ _).alloc (Nat.le_refl _) _)).mono ?_; rintro e w2 ⟨rfl, hb2⟩)
          go_roundw
          case rel =>
            have hbw : Below wr.heap.size wr w2 := ((Below.refl _ _).alloc (Nat.le_refl _) _).trans (hb2.mono (by simp))
            exact ⟨i, j + 1, ys, rfl, by go_num, by omega, by omega, HSK, Lib.hid ⟨pw_own_below HS.out.1 hbw, HS.out.2.then_below hbw⟩⟩
          case measure => simp [intOf]; omega
        | false =>
          have HSK := Lib.hid (hx.out false HQ.out)
          have hcells := fun w2 (hb2 : Below (wr.alloc (.cells #[.string s.f0, .int .u64 s.f1] 61)).heap.size (wr.alloc (.cells #[.string s.f0, .int .u64 s.f1] 61)) w2) => (show Below wr.heap.size wr w2 ∧ w2.cell? ⟨wr.heap.size, 0, none⟩ = some (.string s.f0) ∧ w2.cell? ⟨wr.heap.size, 1, none⟩ = some (.int .u64 s.f1) from by
            have hn := Blk.new wr 61 #[.string s.f0, .int .u64 s.f1]
            exact ⟨((Below.refl _ _).alloc (Nat.le_refl _) _).trans (hb2.mono (by simp)), (hn.below hb2 (by simp)).cell 0, (hn.below hb2 (by simp)).cell 1⟩)
          have HCE := Lib.hid hcells
          clear hcells
          go_wp2_with (go_at_fn g; refine (HC.out _ ((Below.refl _ _).alloc (Nat.le_refl _) _)).mono ?_; rintro e w2 ⟨rfl, hb2⟩; obtain ⟨hbw, n0, n1⟩ := HCE.out w2 hb2; have c0' := pw_cell_below hbw c0; have c1' := pw_cell_below hbw c1; have q0' := (hbw.frozen (p := ⟨blk, i * 2, none⟩) hblk).trans q0; have q1' := (hbw.frozen (p := ⟨blk, i * 2 + 1, none⟩) hblk).trans q1)
          go_roundw
          case rel => exact ⟨i + 1, j + 1, ys.set i s, by go_num, by go_num, by omega, by omega, HSK, Lib.hid ⟨RowPr.store (pw_own_below HS.out.1 hbw) i s, ((HS.out.2.then_below hbw).setCell (.inl rfl) _).setCell (.inl rfl) _⟩⟩
          case measure => simp [intOf]; omega
      · obtain rfl : j = xs.length := by omega
        have hsz := HD.out.size
        have hdn := Lib.hid HD.out.done
        obtain ⟨vs, hcl⟩ : ∃ vs, ∀ ty, (Builtin.clear_ #[39] ty #[.slice (some ⟨blk, i * 2, none⟩) (xs.length - i) (cap - i)]).run Tryz.prog wr = .ok (.tuple #[]) (wr.setCells blk (i * 2) vs) := ⟨_, fun ty =>
          run_clear2 wr _ _ ty _ (.string ⟨#[]⟩) (.int .u64 0) Tryz.underlying39 Tryz.zeroValue61 rfl rfl rfl blk (i * 2) _ _ (by omega) (fun t ht => by
            have h := World.ownsRow.cellAt (n := xs.length) (by have h := HS.out.1; unfold RowPr at h; rw [hyl] at h; exact h) (i * 2 + t) (by omega)
            rw [h, List.getElem?_eq_getElem (by rw [enc2_len, List.length_map]; omega)]; rfl) (fun t ht => World.ownsRow.frozenAt (n := xs.length) (by have h := HS.out.1; unfold RowPr at h; rw [hyl] at h; exact h) _)⟩
        have HSZ := Lib.hid hsz
        clear hsz
        go_wp2
        go_ret
        obtain ⟨zs, hz, ht⟩ := own_setCells vs (i * 2) wr _ (by have h := HS.out.1; unfold RowPr at h; rw [hyl] at h; exact h)
        have h3 := own_take hz (m := i) (by omega)
        rw [ht, enc2_take, ← List.map_take, hdn.out] at h3
        rw [HSZ.out]
        refine ⟨rfl, ?_, HS.out.2.setCells (.inl rfl) vs (i * 2)⟩
        unfold RowPr
        rw [HSZ.out]
        exact h3
theorem delPr_nil (g : Nat) (fst lb : Array Value) (eg : ∀ args w, (callFunc g args).run Tryz.prog w = .ok (.enter g args) w) (w : World) :
    Calls Tryz.prog 82 #[.slice none 0 0, .func (.func g) fst lb] w fun e w' => e = .returned (.slice none 0 0) ∧ Below w.heap.size w w' := by
  have hidx : Calls Tryz.prog 125 #[.slice none 0 0, .func (.func g) fst lb] w fun e w' => e = .returned (.int .i64 (-1)) ∧ Below w.heap.size w w' := by
    go_enter Tryz.func125, Tryz.ntmps125
    go_wp2
    refine wp_loop_rounds 1 ?_
    rw [rounds_succ]
    go_wp2
    go_ret
    exact ⟨rfl, Below.refl _ _⟩
  go_enter Tryz.func82, Tryz.ntmps82
  go_wp2_with (go_at_call 125; refine hidx.mono ?_; rintro e w' ⟨rfl, hb⟩)
  go_ret
  exact ⟨rfl, hb⟩
theorem delPr_own (g : Nat) (fst lb : Array Value) (p : S61 → Bool) (eg : ∀ args w, (callFunc g args).run Tryz.prog w = .ok (.enter g args) w) (base : Nat) (v : Value) (xs : List (S61)) (w w0 : World)
    (hown : RowPr w base v xs) (hb : Below base w0 w) (hbs : base ≤ w.heap.size)
    (hp : ∀ (W : World) (s : S61), s ∈ xs → Below base w0 W → Calls Tryz.prog g (fst ++ #[.agg #[.string s.f0, .int .u64 s.f1]] ++ lb) W fun e w' => e = .returned (.bool (p s)) ∧ Below W.heap.size W w') :
    Calls Tryz.prog 82 #[v, .func (.func g) fst lb] w fun e w' => ∃ v', e = .returned v' ∧ RowPr w' base v' (xs.filter fun x => !p x) ∧ Below base w0 w' ∧ Upd w w' (fun k => v.ownBlock = some k) ∧ v'.ownBlock = v.ownBlock := by
  have hg := hown
  rcases hg.2 with ⟨rfl, h0⟩ | ⟨blk, cap, cur, rfl, hbb, hgb, _⟩
  · obtain rfl : xs = [] := List.eq_nil_of_length_eq_zero h0
    exact (delPr_nil g fst lb eg w).mono fun e w' ⟨he, h⟩ => ⟨_, he, own_nil _ _ _ _, hb.trans (h.mono hbs), Upd.of_below h _, rfl⟩
  · have hU : ∀ W, Upd w W (· = blk) → Below base w0 W := fun W h => hb.trans (h.below hbs (fun k hk e => by omega))
    exact (delPr_any g fst lb p eg base blk cap xs w hown (fun W x hx h => hp W x hx (hU W h))).mono fun e w' ⟨he, ho, h⟩ => ⟨_, he, ho, hU w' h, h.mono fun k _ e => by simp [Value.ownBlock, e], rfl⟩
end Go.Proofs.YtgmlenpcchhmbaaGreat.P
end
section
set_option linter.unusedVariables false
set_option linter.unusedSimpArgs false
namespace Go.Proofs.YtgmlenpcchhmbaaGreat.P
open Go.RowKit Go.Proofs.YtgmlenpcchhmbaaGreatW.PrintWords Go.Proofs.YtgmlenpcchhmbaaGreatW.PrintLast Go.Proofs.YtgmlenpcchhmbaaGreatW.PrintMore
attribute [local go_sem] max2_int min2_int max_two min_two max_three min_three max_four min_four   -- for this text's walks alone
theorem eqA69 (d : Nat) (w : World) (x0 y0 : ByteArray) (x1 y1 : Int) (x2 y2 : Bool) :
  (Op.equalIn (d + 2) 69 (.agg #[.string x0, .int .u64 x1, .bool x2]) (.agg #[.string y0, .int .u64 y1, .bool y2])).run Tryz.prog w = .ok (x0.toList == y0.toList && (x1 == y1 && (x2 == y2))) w := by
 refine eqA_of Tryz.underlying69 (by kernel_rfl) ?_
 refine eqf_cons (by rfl) (by go_simp; rfl) (by go_simp; rfl) (by go_simp) ?_
 refine eqf_cons (by rfl) (by go_simp; rfl) (by go_simp; rfl) (by go_simp) ?_
 exact eqf_last (by rfl) (by go_simp; rfl) (by go_simp; rfl) (by go_simp)
end Go.Proofs.YtgmlenpcchhmbaaGreat.P
end
section
set_option linter.unusedVariables false
set_option linter.unusedSimpArgs false
namespace Go.Proofs.YtgmlenpcchhmbaaGreat.P
open Go.RowKit Go.Proofs.YtgmlenpcchhmbaaGreatW.PrintWords Go.Proofs.YtgmlenpcchhmbaaGreatW.PrintLast Go.Proofs.YtgmlenpcchhmbaaGreatW.PrintMore
attribute [local go_sem] max2_int min2_int max_two min_two max_three min_three max_four min_four   -- for this text's walks alone
attribute [local go_sem high] eqA69
def folkmootref08_WritesSame.l0 : Nat → List (S69) → List (S69) → Int → Option (Bool)
 | 0, _, _, _ => none
 | k + 1, x0, x1, x5 => if x5 < (x0.length : Int) then (if 0 ≤ x5 then (if x5 < (x1.length : Int) then (if (!((((rd_T69 x0 x5).f0).toList) == (((rd_T69 x1 x5).f0).toList)) || (!(((rd_T69 x0 x5).f1) == ((rd_T69 x1 x5).f1)) || (!(((rd_T69 x0 x5).f2) == ((rd_T69 x1 x5).f2))))) = true then (some false) else (folkmootref08_WritesSame.l0 k x0 x1 (wrap64 (x5 + 1)))) else (none)) else (none)) else (some true)
def folkmootref08_WritesSame.f (k : Nat) (l0 : List (S69)) (l1 : List (S69)) : Option (Bool) := if (l0.length : Int) = (l1.length : Int) then (folkmootref08_WritesSame.l0 k l0 l1 0) else (some false)
set_option maxHeartbeats 8000000 in
set_option maxRecDepth 100000 in
theorem folkmootref08_WritesSame.calls (k : Nat) (A0 : Option Addr) (c0 : Nat) (l0 : List (S69)) (A1 : Option Addr) (c1 : Nat) (l1 : List (S69)) (r : Bool) (w : World) (hr0 : Kd.C k69 w A0 l0.length l0) (hc0 : l0.length ≤ c0) (hr1 : Kd.C k69 w A1 l1.length l1) (hc1 : l1.length ≤ c1) (h : folkmootref08_WritesSame.f k l0 l1 = some r) :
  Calls Tryz.prog 29 #[.slice A0 l0.length c0, .slice A1 l1.length c1] w fun e w' => e = .returned (.bool r) ∧ Drawn0 w w' := by
 have hu69 := Tryz.underlying69
 have HR0 := Aside0.mk hr0
 have HC0 := Aside0.mk hc0
 clear hr0 hc0
 have HR1 := Aside0.mk hr1
 have HC1 := Aside0.mk hc1
 clear hr1 hc1
 have H : (if (l0.length : Int) = (l1.length : Int) then (folkmootref08_WritesSame.l0 k l0 l1 0) else (some false)) = some r := h
 clear h
 by_cases c3 : (l0.length : Int) = (l1.length : Int)
 ·rw [if_pos c3] at H
  have c3b0 : ((l0.length : Int) == (l1.length : Int)) = true := beq_iff_eq.mpr c3
  have c3b1 : ((l0.length : Int) != (l1.length : Int)) = false := bne_eq_false_iff_eq.mpr c3
  have c3b2 : (l0.length == l1.length) = true := by first | simpa using c3 | (simp at c3 ⊢; omega)
  clear c3
  have H' := Aside0.mk H
  clear H
  go_enter Tryz.func29, Tryz.ntmps29
  go_wp2
  repeat (go_quiet (fail); try go_wp2)
  go_loopg [5] k (fun kq v5 w' => ∃ (x5_1 : Int), v5 = .int .i64 x5_1 ∧ Aside0 (folkmootref08_WritesSame.l0 kq l0 l1 x5_1 = some r) ∧ Aside0 (kq ≤ k) ∧ Drawn0 w w')
  case atStart => exact ⟨(0), (by first | rfl | (rw [bl_gt] <;> rfl) | (simp; done) | (simp [*]; done)), H', ⟨Nat.le_refl _⟩, by repeat (first | exact Drawn0.refl _ | apply Drawn0.step)⟩
  case round =>
   clear H'
   try clear c1
   try clear c2
   try clear p2
   try clear c3
   try clear c3b0
   try clear c3b1
   try clear c3b2
   obtain ⟨x5_1, rfl, HA, HK1, ⟨m1, rfl⟩⟩ := hrel
   cases gk with
   | zero => exact absurd HA.out (by simp [folkmootref08_WritesSame.l0])
   | succ k1 =>
    have H := HA.out
    clear HA
    simp only [folkmootref08_WritesSame.l0] at H
    by_cases c4 : x5_1 < (l0.length : Int)
    ·rw [if_pos c4] at H
     have c4b0 : decide (x5_1 < (l0.length : Int)) = true := decide_eq_true c4
     clear c4
     by_cases c5 : 0 ≤ x5_1
     ·rw [if_pos c5] at H
      have c5b0 : decide (0 ≤ x5_1) = true := decide_eq_true c5
      clear c5
      by_cases c6 : x5_1 < (l1.length : Int)
      ·rw [if_pos c6] at H
       have c6b0 : decide (x5_1 < (l1.length : Int)) = true := decide_eq_true c6
       clear c6
       by_cases c7 : (!((((rd_T69 l0 x5_1).f0).toList) == (((rd_T69 l1 x5_1).f0).toList)) || (!(((rd_T69 l0 x5_1).f1) == ((rd_T69 l1 x5_1).f1)) || (!(((rd_T69 l0 x5_1).f2) == ((rd_T69 l1 x5_1).f2))))) = true
       ·rw [if_pos c7] at H
        have c7b0 : (!((((rd_T69 l0 x5_1).f0).toList) == (((rd_T69 l1 x5_1).f0).toList)) || (!(((rd_T69 l0 x5_1).f1) == ((rd_T69 l1 x5_1).f1)) || (!(((rd_T69 l0 x5_1).f2) == ((rd_T69 l1 x5_1).f2))))) = true := c7
        clear c7
        obtain rfl := Option.some.inj H
        have p560 : 0 ≤ (x5_1 : Int) := of_decide_eq_true (by first | (with_reducible assumption) | assumption)
        have q560 : x5_1 < (l0.length : Int) := of_decide_eq_true (by first | (with_reducible assumption) | assumption)
        obtain ⟨ad560, e560, hx560_0, hx560_1, hx560_2⟩ := at_T69 HR0.out x5_1 p560 q560
        cases e560
        replace p560 := eq_true p560
        replace q560 := eq_true q560
        have p561 : 0 ≤ (x5_1 : Int) := of_decide_eq_true (by first | (with_reducible assumption) | assumption)
        have q561 : x5_1 < (l1.length : Int) := of_decide_eq_true (by first | (with_reducible assumption) | assumption)
        obtain ⟨ad561, e561, hx561_0, hx561_1, hx561_2⟩ := at_T69 HR1.out x5_1 p561 q561
        cases e561
        replace p561 := eq_true p561
        replace q561 := eq_true q561
        go_wp2
        repeat (go_quiet (fail); try go_wp2)
        go_ret
        exact ⟨by first | rfl | (simp; done) | (simp [*]; done), by repeat (first | exact Drawn0.refl _ | apply Drawn0.step)⟩
       ·rw [if_neg c7] at H
        have c7b0 : (!((((rd_T69 l0 x5_1).f0).toList) == (((rd_T69 l1 x5_1).f0).toList)) || (!(((rd_T69 l0 x5_1).f1) == ((rd_T69 l1 x5_1).f1)) || (!(((rd_T69 l0 x5_1).f2) == ((rd_T69 l1 x5_1).f2))))) = false := by simpa using c7
        clear c7
        have H' := Aside0.mk H
        clear H
        have p560 : 0 ≤ (x5_1 : Int) := of_decide_eq_true (by first | (with_reducible assumption) | assumption)
        have q560 : x5_1 < (l0.length : Int) := of_decide_eq_true (by first | (with_reducible assumption) | assumption)
        obtain ⟨ad560, e560, hx560_0, hx560_1, hx560_2⟩ := at_T69 HR0.out x5_1 p560 q560
        cases e560
        replace p560 := eq_true p560
        replace q560 := eq_true q560
        have p561 : 0 ≤ (x5_1 : Int) := of_decide_eq_true (by first | (with_reducible assumption) | assumption)
        have q561 : x5_1 < (l1.length : Int) := of_decide_eq_true (by first | (with_reducible assumption) | assumption)
        obtain ⟨ad561, e561, hx561_0, hx561_1, hx561_2⟩ := at_T69 HR1.out x5_1 p561 q561
        cases e561
        replace p561 := eq_true p561
        replace q561 := eq_true q561
        go_wp2
        repeat (go_quiet (fail); try go_wp2)
        go_roundg k1
        case measure => have := HK1.out; omega
        case rel => exact ⟨(wrap64 (x5_1 + 1)), (by first | rfl | (rw [bl_gt] <;> rfl) | (simp; done) | (simp [*]; done)), H', ⟨by have := HK1.out; omega⟩, by repeat (first | exact Drawn0.refl _ | apply Drawn0.step)⟩
      ·rw [if_neg c6] at H
       exact absurd H (by simp)
     ·rw [if_neg c5] at H
      exact absurd H (by simp)
    ·rw [if_neg c4] at H
     have c4b0 : decide (x5_1 < (l0.length : Int)) = false := decide_eq_false c4
     clear c4
     obtain rfl := Option.some.inj H
     go_wp2
     repeat (go_quiet (fail); try go_wp2)
     go_ret
     exact ⟨by first | rfl | (simp; done) | (simp [*]; done), by repeat (first | exact Drawn0.refl _ | apply Drawn0.step)⟩
 ·rw [if_neg c3] at H
  have c3b0 : ((l0.length : Int) == (l1.length : Int)) = false := beq_eq_false_iff_ne.mpr c3
  have c3b1 : ((l0.length : Int) != (l1.length : Int)) = true := bne_iff_ne.mpr c3
  have c3b2 : (l0.length == l1.length) = false := by first | simpa using c3 | (simp at c3 ⊢; omega)
  obtain rfl := Option.some.inj H
  go_enter Tryz.func29, Tryz.ntmps29
  go_wp2
  repeat (go_quiet (fail); try go_wp2)
  go_ret
  exact ⟨by first | rfl | (simp; done) | (simp [*]; done), by repeat (first | exact Drawn0.refl _ | apply Drawn0.step)⟩
end Go.Proofs.YtgmlenpcchhmbaaGreat.P
end
