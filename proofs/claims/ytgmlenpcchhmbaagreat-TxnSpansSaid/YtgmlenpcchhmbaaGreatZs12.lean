/- what the claim's row stands on, part 12. -/
import Derived.Test.YtgmlenpcchhmbaaGreatZs2
import Derived.Test.YtgmlenpcchhmbaaGreatZs3
import Derived.Test.YtgmlenpcchhmbaaGreatZs8
import Derived.Test.YtgmlenpcchhmbaaGreatZs7
import Derived.Test.YtgmlenpcchhmbaaGreatZs10
import Derived.Test.YtgmlenpcchhmbaaGreatZs11
section
set_option linter.unusedVariables false
set_option linter.unusedSimpArgs false
namespace Go.Proofs.YtgmlenpcchhmbaaGreat.P
open Go.RowKit Go.Proofs.YtgmlenpcchhmbaaGreatW.PrintWords Go.Proofs.YtgmlenpcchhmbaaGreatW.PrintLast Go.Proofs.YtgmlenpcchhmbaaGreatW.PrintMore
attribute [local go_sem] max2_int min2_int max_two min_two max_three min_three max_four min_four   -- for this text's walks alone
def folkmootlaw08_TxnSpans.j0 : Nat → List (S63) → List (S63) → Bool → Option (Bool)
 | 0, _, _, _ => none
 | k + 1, x0, x1, x22 => if x22 = true then ((folkmootlaw08_live.f).bind fun t935 => (some t935)) else ((folkmootlaw08_ops.f x0).bind fun t936 => ((txn_Reads.f k t936).bind fun t939 => ((folkmootref08_Reads.f k x0).bind fun t942 => ((folkmootref03_Same.f k t939 t942).bind fun t945 => (if t945 = true then ((folkmootlaw08_ops.f x0).bind fun t946 => ((txn_Writes.f k t946).bind fun t949 => ((folkmootref08_Writes.f k x0).bind fun t952 => ((folkmootref03_Same.f k t949 t952).bind fun t955 => (if t955 = true then ((folkmootlaw08_ops.f x0).bind fun t956 => ((txn_All.f k t956).bind fun t959 => ((folkmootref08_All.f k x0).bind fun t962 => ((folkmootref03_Same.f k t959 t962).bind fun t965 => (if t965 = true then ((folkmootlaw08_ops.f x0).bind fun t966 => ((folkmootlaw08_ops.f x1).bind fun t969 => ((txn_Conflict.f k t966 t969).bind fun t972 => ((folkmootref08_Conflict.f k x0 x1).bind fun t973 => (if (t972 == t973) = true then ((folkmootlaw08_live.f).bind fun t974 => (some t974)) else (some false)))))) else (some false)))))) else (some false)))))) else (some false))))))
def folkmootlaw08_TxnSpans.f (k : Nat) (l0 : List (S63)) (l1 : List (S63)) : Option (Bool) := (folkmootlaw08_small.f k l0 ([] : List (S61))).bind fun t931 => (if t931 = true then ((folkmootlaw08_small.f k l1 ([] : List (S61))).bind fun t932 => (if t932 = true then ((folkmootref08_Check.f k l0).bind fun t933 => (if t933 = 0 then ((folkmootref08_Check.f k l1).bind fun t934 => (folkmootlaw08_TxnSpans.j0 k l0 l1 (t934 != 0))) else (folkmootlaw08_TxnSpans.j0 k l0 l1 true))) else (folkmootlaw08_TxnSpans.j0 k l0 l1 true))) else (folkmootlaw08_TxnSpans.j0 k l0 l1 true))
set_option maxHeartbeats 8000000 in
set_option maxRecDepth 100000 in
theorem folkmootlaw08_TxnSpans.calls (k : Nat) (A0 : Option Addr) (c0 : Nat) (l0 : List (S63)) (A1 : Option Addr) (c1 : Nat) (l1 : List (S63)) (r : Bool) (w : World) (hr0 : Kd.C k63 w A0 l0.length l0) (hc0 : l0.length ≤ c0) (hr1 : Kd.C k63 w A1 l1.length l1) (hc1 : l1.length ≤ c1) (hr_ : Aside0 (r = true)) (h : folkmootlaw08_TxnSpans.f k l0 l1 = some r) :
  Calls Tryz.prog 11 #[.slice A0 l0.length c0, .slice A1 l1.length c1] w fun e w' => e = .returned (.bool r) ∧ Below w.heap.size w w' := by
 have HR0 := Aside0.mk hr0
 have HC0 := Aside0.mk hc0
 clear hr0 hc0
 have HR1 := Aside0.mk hr1
 have HC1 := Aside0.mk hc1
 clear hr1 hc1
 have HB := Aside0.mk (Below.refl w.heap.size w)
 have H : ((folkmootlaw08_small.f k l0 ([] : List (S61))).bind fun t931 => (if t931 = true then ((folkmootlaw08_small.f k l1 ([] : List (S61))).bind fun t932 => (if t932 = true then ((folkmootref08_Check.f k l0).bind fun t933 => (if t933 = 0 then ((folkmootref08_Check.f k l1).bind fun t934 => (folkmootlaw08_TxnSpans.j0 k l0 l1 (t934 != 0))) else (folkmootlaw08_TxnSpans.j0 k l0 l1 true))) else (folkmootlaw08_TxnSpans.j0 k l0 l1 true))) else (folkmootlaw08_TxnSpans.j0 k l0 l1 true))) = some r := h
 clear h
 have HC3 := Aside0.mk H
 clear H
 go_enter Tryz.func11, Tryz.ntmps11
 go_upto_region 1 with (fail)
 go_cut [22] (fun v22 wc => ∃ (kq : Nat) (x22_2 : Bool), v22 = .bool x22_2 ∧ Aside0 (folkmootlaw08_TxnSpans.j0 kq l0 l1 x22_2 = some r) ∧ Aside0 (kq ≤ k) ∧ Aside0 (Below w.heap.size w wc))
 case first =>
  have H := HC3.out;clear HC3
  replace H := Option.bind_eq_some_iff.mp H
  obtain ⟨t931, A40, H⟩ := H
  replace H : (if t931 = true then ((folkmootlaw08_small.f k l1 ([] : List (S61))).bind fun t932 => (if t932 = true then ((folkmootref08_Check.f k l0).bind fun t933 => (if t933 = 0 then ((folkmootref08_Check.f k l1).bind fun t934 => (folkmootlaw08_TxnSpans.j0 k l0 l1 (t934 != 0))) else (folkmootlaw08_TxnSpans.j0 k l0 l1 true))) else (folkmootlaw08_TxnSpans.j0 k l0 l1 true))) else (folkmootlaw08_TxnSpans.j0 k l0 l1 true)) = some r := H
  have A4 := Aside0.mk A40
  clear A40
  by_cases c5 : t931 = true
  ·subst c5
   have H1 : ((folkmootlaw08_small.f k l1 ([] : List (S61))).bind fun t932 => (if t932 = true then ((folkmootref08_Check.f k l0).bind fun t933 => (if t933 = 0 then ((folkmootref08_Check.f k l1).bind fun t934 => (folkmootlaw08_TxnSpans.j0 k l0 l1 (t934 != 0))) else (folkmootlaw08_TxnSpans.j0 k l0 l1 true))) else (folkmootlaw08_TxnSpans.j0 k l0 l1 true))) = some r := by rw [if_pos rfl] at H; exact H
   clear H;have H := H1;clear H1
   replace H := Option.bind_eq_some_iff.mp H
   obtain ⟨t932, A60, H⟩ := H
   replace H : (if t932 = true then ((folkmootref08_Check.f k l0).bind fun t933 => (if t933 = 0 then ((folkmootref08_Check.f k l1).bind fun t934 => (folkmootlaw08_TxnSpans.j0 k l0 l1 (t934 != 0))) else (folkmootlaw08_TxnSpans.j0 k l0 l1 true))) else (folkmootlaw08_TxnSpans.j0 k l0 l1 true)) = some r := H
   have A6 := Aside0.mk A60
   clear A60
   by_cases c7 : t932 = true
   ·subst c7
    have H1 : ((folkmootref08_Check.f k l0).bind fun t933 => (if t933 = 0 then ((folkmootref08_Check.f k l1).bind fun t934 => (folkmootlaw08_TxnSpans.j0 k l0 l1 (t934 != 0))) else (folkmootlaw08_TxnSpans.j0 k l0 l1 true))) = some r := by rw [if_pos rfl] at H; exact H
    clear H;have H := H1;clear H1
    replace H := Option.bind_eq_some_iff.mp H
    obtain ⟨t933, A80, H⟩ := H
    replace H : (if t933 = 0 then ((folkmootref08_Check.f k l1).bind fun t934 => (folkmootlaw08_TxnSpans.j0 k l0 l1 (t934 != 0))) else (folkmootlaw08_TxnSpans.j0 k l0 l1 true)) = some r := H
    have A8 := Aside0.mk A80
    clear A80
    by_cases c9 : t933 = 0
    ·rw [if_pos c9] at H
     have c9b0 : (t933 == 0) = true := beq_iff_eq.mpr c9
     have c9b1 : (t933 != 0) = false := bne_eq_false_iff_eq.mpr c9
     clear c9
     (first | rw [c9b0] | (simp only [i64_w, i32_w]; rw [c9b0]) | skip)
     replace H := Option.bind_eq_some_iff.mp H
     obtain ⟨t934, A100, H⟩ := H
     replace H : (folkmootlaw08_TxnSpans.j0 k l0 l1 (t934 != 0)) = some r := H
     have A10 := Aside0.mk A100
     clear A100
     have H' := Aside0.mk H
     clear H
     go_wp2_with (first | ((with_reducible refine gate_callee (f := 13) rfl ?_); refine goesL_ (some 6) rfl rfl Tryz.func13 (by kernel_rfl) rfl #[.slice A0 l0.length c0, .slice none 0 0] rfl (by (try simp only [List.map_toArray, List.map_cons, List.map_nil]); first | done | rfl | (simp only [List.length_drop, List.length_take]; rfl)) ?_; (refine (folkmootlaw08_small.calls k _ _ l0 _ _ ([] : List (S61)) true _ ?side1 ?side2 ?side3 ?side4 A4.out).mono ?_); (case side1 => repeat (first | exact (Kd.C_below HR0.out HB.out) | (with_reducible refine Kd.C_alloc ?_ _) | (with_reducible refine Kd.C_drewN ?_ _) | (with_reducible refine Kd.C_drew ?_))); (case side2 => exact HC0.out); (case side3 => exact Kd.C_nil _ _); (case side4 => exact Nat.le_refl _); rintro e w' ⟨rfl, ⟨nd, rfl⟩⟩; refine ⟨_, rfl, ?_⟩) | (go_at_call 13; (refine (folkmootlaw08_small.calls k _ _ l1 _ _ ([] : List (S61)) true _ ?side1 ?side2 ?side3 ?side4 A6.out).mono ?_); (case side1 => repeat (first | exact (Kd.C_below HR1.out bB_) | (with_reducible refine Kd.C_alloc ?_ _) | (with_reducible refine Kd.C_drewN ?_ _) | (with_reducible refine Kd.C_drew ?_))); (case side2 => exact HC1.out); (case side3 => exact Kd.C_nil _ _); (case side4 => exact Nat.le_refl _); rintro e w' ⟨rfl, ⟨nd, rfl⟩⟩) | (go_at_call 20; (with_reducible refine (folkmootref08_Check.calls k _ _ l0 t933 _ ?side1 ?side2 A8.out).mono ?_); (case side1 => repeat (first | exact (Kd.C_below HR0.out bB_) | (with_reducible refine Kd.C_alloc ?_ _) | (with_reducible refine Kd.C_drewN ?_ _) | (with_reducible refine Kd.C_drew ?_))); (case side2 => exact HC0.out); rintro e w11 ⟨rfl, hb⟩; have n0_ := Aside0.mk (below_step bB_ hb); clear HB; have HB := n0_; clear n0_; (try clear hb); (try clear hb2); (try clear hk); (try clear hi)) | (go_at_call 20; (with_reducible refine (folkmootref08_Check.calls k _ _ l1 t934 _ ?side1 ?side2 A10.out).mono ?_); (case side1 => repeat (first | exact (Kd.C_below HR1.out HB.out) | (with_reducible refine Kd.C_alloc ?_ _) | (with_reducible refine Kd.C_drewN ?_ _) | (with_reducible refine Kd.C_drew ?_))); (case side2 => exact HC1.out); rintro e w12 ⟨rfl, hb⟩; have n0_ := Aside0.mk (below_step bB_ hb); clear HB; have HB := n0_; clear n0_; (try clear hb); (try clear hb2); (try clear hk); (try clear hi)))
     first
     | (go_meet; case rel => exact ⟨_, ((t934 != 0)), (by first | rfl | (rw [bl_gt] <;> rfl) | (simp; done) | (simp [*]; done)), H', ⟨by first | omega | exact Nat.le_refl _⟩, ⟨bB_⟩⟩)
     | (refine Met.intro ?_; go_step; (repeat apply Exists.intro); refine ⟨?_, ?_⟩; rotate_left; (focus (simp only [c9b0]; try rfl)); exact ⟨_, ((t934 != 0)), (by first | rfl | (rw [bl_gt] <;> rfl) | (simp; done) | (simp [*]; done)), H', ⟨by first | omega | exact Nat.le_refl _⟩, ⟨bB_⟩⟩)
    ·rw [if_neg c9] at H
     have c9b0 : (t933 == 0) = false := beq_eq_false_iff_ne.mpr c9
     have c9b1 : (t933 != 0) = true := bne_iff_ne.mpr c9
     (first | rw [c9b0] | (simp only [i64_w, i32_w]; rw [c9b0]) | skip)
     have H' := Aside0.mk H
     clear H
     go_wp2_with (first | ((with_reducible refine gate_callee (f := 13) rfl ?_); refine goesL_ (some 6) rfl rfl Tryz.func13 (by kernel_rfl) rfl #[.slice A0 l0.length c0, .slice none 0 0] rfl (by (try simp only [List.map_toArray, List.map_cons, List.map_nil]); first | done | rfl | (simp only [List.length_drop, List.length_take]; rfl)) ?_; (refine (folkmootlaw08_small.calls k _ _ l0 _ _ ([] : List (S61)) true _ ?side1 ?side2 ?side3 ?side4 A4.out).mono ?_); (case side1 => repeat (first | exact (Kd.C_below HR0.out HB.out) | (with_reducible refine Kd.C_alloc ?_ _) | (with_reducible refine Kd.C_drewN ?_ _) | (with_reducible refine Kd.C_drew ?_))); (case side2 => exact HC0.out); (case side3 => exact Kd.C_nil _ _); (case side4 => exact Nat.le_refl _); rintro e w' ⟨rfl, ⟨nd, rfl⟩⟩; refine ⟨_, rfl, ?_⟩) | (go_at_call 13; (refine (folkmootlaw08_small.calls k _ _ l1 _ _ ([] : List (S61)) true _ ?side1 ?side2 ?side3 ?side4 A6.out).mono ?_); (case side1 => repeat (first | exact (Kd.C_below HR1.out bB_) | (with_reducible refine Kd.C_alloc ?_ _) | (with_reducible refine Kd.C_drewN ?_ _) | (with_reducible refine Kd.C_drew ?_))); (case side2 => exact HC1.out); (case side3 => exact Kd.C_nil _ _); (case side4 => exact Nat.le_refl _); rintro e w' ⟨rfl, ⟨nd, rfl⟩⟩) | (go_at_call 20; (with_reducible refine (folkmootref08_Check.calls k _ _ l0 t933 _ ?side1 ?side2 A8.out).mono ?_); (case side1 => repeat (first | exact (Kd.C_below HR0.out bB_) | (with_reducible refine Kd.C_alloc ?_ _) | (with_reducible refine Kd.C_drewN ?_ _) | (with_reducible refine Kd.C_drew ?_))); (case side2 => exact HC0.out); rintro e w13 ⟨rfl, hb⟩; have n0_ := Aside0.mk (below_step bB_ hb); clear HB; have HB := n0_; clear n0_; (try clear hb); (try clear hb2); (try clear hk); (try clear hi)))
     first
     | (go_meet; case rel => exact ⟨_, (true), (by first | rfl | (rw [bl_gt] <;> rfl) | (simp; done) | (simp [*]; done)), H', ⟨by first | omega | exact Nat.le_refl _⟩, ⟨bB_⟩⟩)
     | (refine Met.intro ?_; go_step; (repeat apply Exists.intro); refine ⟨?_, ?_⟩; rotate_left; (focus (simp only [c9b0]; try rfl)); exact ⟨_, (true), (by first | rfl | (rw [bl_gt] <;> rfl) | (simp; done) | (simp [*]; done)), H', ⟨by first | omega | exact Nat.le_refl _⟩, ⟨bB_⟩⟩)
   ·replace c7 := Bool.eq_false_iff.mpr c7
    subst c7
    have H1 : (folkmootlaw08_TxnSpans.j0 k l0 l1 true) = some r := by rw [if_neg (show ¬ (false = true) by decide)] at H; exact H
    clear H;have H := H1;clear H1
    have H' := Aside0.mk H
    clear H
    go_wp2_with (first | ((with_reducible refine gate_callee (f := 13) rfl ?_); refine goesL_ (some 6) rfl rfl Tryz.func13 (by kernel_rfl) rfl #[.slice A0 l0.length c0, .slice none 0 0] rfl (by (try simp only [List.map_toArray, List.map_cons, List.map_nil]); first | done | rfl | (simp only [List.length_drop, List.length_take]; rfl)) ?_; (refine (folkmootlaw08_small.calls k _ _ l0 _ _ ([] : List (S61)) true _ ?side1 ?side2 ?side3 ?side4 A4.out).mono ?_); (case side1 => repeat (first | exact (Kd.C_below HR0.out HB.out) | (with_reducible refine Kd.C_alloc ?_ _) | (with_reducible refine Kd.C_drewN ?_ _) | (with_reducible refine Kd.C_drew ?_))); (case side2 => exact HC0.out); (case side3 => exact Kd.C_nil _ _); (case side4 => exact Nat.le_refl _); rintro e w' ⟨rfl, ⟨nd, rfl⟩⟩; refine ⟨_, rfl, ?_⟩) | (go_at_call 13; (refine (folkmootlaw08_small.calls k _ _ l1 _ _ ([] : List (S61)) false _ ?side1 ?side2 ?side3 ?side4 A6.out).mono ?_); (case side1 => repeat (first | exact (Kd.C_below HR1.out bB_) | (with_reducible refine Kd.C_alloc ?_ _) | (with_reducible refine Kd.C_drewN ?_ _) | (with_reducible refine Kd.C_drew ?_))); (case side2 => exact HC1.out); (case side3 => exact Kd.C_nil _ _); (case side4 => exact Nat.le_refl _); rintro e w' ⟨rfl, ⟨nd, rfl⟩⟩))
    go_meet
    case rel => exact ⟨_, (true), (by first | rfl | (rw [bl_gt] <;> rfl) | (simp; done) | (simp [*]; done)), H', ⟨by first | omega | exact Nat.le_refl _⟩, ⟨bB_⟩⟩
  ·replace c5 := Bool.eq_false_iff.mpr c5
   subst c5
   have H1 : (folkmootlaw08_TxnSpans.j0 k l0 l1 true) = some r := by rw [if_neg (show ¬ (false = true) by decide)] at H; exact H
   clear H;have H := H1;clear H1
   have H' := Aside0.mk H
   clear H
   go_wp2_with (first | ((with_reducible refine gate_callee (f := 13) rfl ?_); refine goesL_ (some 6) rfl rfl Tryz.func13 (by kernel_rfl) rfl #[.slice A0 l0.length c0, .slice none 0 0] rfl (by (try simp only [List.map_toArray, List.map_cons, List.map_nil]); first | done | rfl | (simp only [List.length_drop, List.length_take]; rfl)) ?_; (refine (folkmootlaw08_small.calls k _ _ l0 _ _ ([] : List (S61)) false _ ?side1 ?side2 ?side3 ?side4 A4.out).mono ?_); (case side1 => repeat (first | exact (Kd.C_below HR0.out HB.out) | (with_reducible refine Kd.C_alloc ?_ _) | (with_reducible refine Kd.C_drewN ?_ _) | (with_reducible refine Kd.C_drew ?_))); (case side2 => exact HC0.out); (case side3 => exact Kd.C_nil _ _); (case side4 => exact Nat.le_refl _); rintro e w' ⟨rfl, ⟨nd, rfl⟩⟩; refine ⟨_, rfl, ?_⟩))
   go_meet
   case rel => exact ⟨_, (true), (by first | rfl | (rw [bl_gt] <;> rfl) | (simp; done) | (simp [*]; done)), H', ⟨by first | omega | exact Nat.le_refl _⟩, ⟨bB_⟩⟩
 case rest =>
  clear HC3
  try clear c1
  try clear p2
  try clear c5
  try clear c7
  try clear c9
  try clear c9b0
  try clear c9b1
  try clear c11
  try clear c13
  obtain ⟨kq, x22_2, rfl, HA, HJ2, HB⟩ := hcut
  cases kq with
  | zero => exact absurd HA.out (by simp [folkmootlaw08_TxnSpans.j0])
  | succ kj2 =>
   have H := HA.out;clear HA
   simp only [folkmootlaw08_TxnSpans.j0] at H
   by_cases c14 : x22_2 = true
   ·subst c14
    have H1 : ((folkmootlaw08_live.f).bind fun t935 => (some t935)) = some r := by rw [if_pos rfl] at H; exact H
    clear H;have H := H1;clear H1
    replace H := Option.bind_eq_some_iff.mp H
    obtain ⟨t935, A150, H⟩ := H
    replace H : (some t935) = some r := H
    have A15 := Aside0.mk A150
    clear A150;obtain rfl := Option.some.inj H
    go_wp2_with (first | ((with_reducible refine gate_callee (f := 14) rfl ?_); refine goesL_ (some 23) rfl rfl Tryz.func14 (by kernel_rfl) rfl #[] rfl (by (try simp only [List.map_toArray, List.map_cons, List.map_nil]); first | done | rfl | (simp only [List.length_drop, List.length_take]; rfl)) ?_; (with_reducible refine (folkmootlaw08_live.calls  t935 _ A15.out).mono ?_); rintro e w16 ⟨rfl, hb⟩; refine ⟨_, rfl, ?_⟩; have n0_ := Aside0.mk (below_step bB_ hb); clear HB; have HB := n0_; clear n0_; (try clear hb); (try clear hb2); (try clear hk); (try clear hi)))
    go_ret
    exact ⟨by first | rfl | (rw [bl_gt] <;> rfl) | (simp [errW_none, errW_some] <;> rfl) | (simp [*, errW_none, errW_some] <;> rfl), bB_⟩
   ·replace c14 := Bool.eq_false_iff.mpr c14
    subst c14
    have H1 : ((folkmootlaw08_ops.f l0).bind fun t936 => ((txn_Reads.f kj2 t936).bind fun t939 => ((folkmootref08_Reads.f kj2 l0).bind fun t942 => ((folkmootref03_Same.f kj2 t939 t942).bind fun t945 => (if t945 = true then ((folkmootlaw08_ops.f l0).bind fun t946 => ((txn_Writes.f kj2 t946).bind fun t949 => ((folkmootref08_Writes.f kj2 l0).bind fun t952 => ((folkmootref03_Same.f kj2 t949 t952).bind fun t955 => (if t955 = true then ((folkmootlaw08_ops.f l0).bind fun t956 => ((txn_All.f kj2 t956).bind fun t959 => ((folkmootref08_All.f kj2 l0).bind fun t962 => ((folkmootref03_Same.f kj2 t959 t962).bind fun t965 => (if t965 = true then ((folkmootlaw08_ops.f l0).bind fun t966 => ((folkmootlaw08_ops.f l1).bind fun t969 => ((txn_Conflict.f kj2 t966 t969).bind fun t972 => ((folkmootref08_Conflict.f kj2 l0 l1).bind fun t973 => (if (t972 == t973) = true then ((folkmootlaw08_live.f).bind fun t974 => (some t974)) else (some false)))))) else (some false)))))) else (some false)))))) else (some false)))))) = some r := by rw [if_neg (show ¬ (false = true) by decide)] at H; exact H
    clear H;have H := H1;clear H1
    replace H := Option.bind_eq_some_iff.mp H
    obtain ⟨t936, A170, H⟩ := H
    replace H : ((txn_Reads.f kj2 t936).bind fun t939 => ((folkmootref08_Reads.f kj2 l0).bind fun t942 => ((folkmootref03_Same.f kj2 t939 t942).bind fun t945 => (if t945 = true then ((folkmootlaw08_ops.f l0).bind fun t946 => ((txn_Writes.f kj2 t946).bind fun t949 => ((folkmootref08_Writes.f kj2 l0).bind fun t952 => ((folkmootref03_Same.f kj2 t949 t952).bind fun t955 => (if t955 = true then ((folkmootlaw08_ops.f l0).bind fun t956 => ((txn_All.f kj2 t956).bind fun t959 => ((folkmootref08_All.f kj2 l0).bind fun t962 => ((folkmootref03_Same.f kj2 t959 t962).bind fun t965 => (if t965 = true then ((folkmootlaw08_ops.f l0).bind fun t966 => ((folkmootlaw08_ops.f l1).bind fun t969 => ((txn_Conflict.f kj2 t966 t969).bind fun t972 => ((folkmootref08_Conflict.f kj2 l0 l1).bind fun t973 => (if (t972 == t973) = true then ((folkmootlaw08_live.f).bind fun t974 => (some t974)) else (some false)))))) else (some false)))))) else (some false)))))) else (some false))))) = some r := H
    have A17 := Aside0.mk A170
    clear A170
    replace H := Option.bind_eq_some_iff.mp H
    obtain ⟨t939, A180, H⟩ := H
    replace H : ((folkmootref08_Reads.f kj2 l0).bind fun t942 => ((folkmootref03_Same.f kj2 t939 t942).bind fun t945 => (if t945 = true then ((folkmootlaw08_ops.f l0).bind fun t946 => ((txn_Writes.f kj2 t946).bind fun t949 => ((folkmootref08_Writes.f kj2 l0).bind fun t952 => ((folkmootref03_Same.f kj2 t949 t952).bind fun t955 => (if t955 = true then ((folkmootlaw08_ops.f l0).bind fun t956 => ((txn_All.f kj2 t956).bind fun t959 => ((folkmootref08_All.f kj2 l0).bind fun t962 => ((folkmootref03_Same.f kj2 t959 t962).bind fun t965 => (if t965 = true then ((folkmootlaw08_ops.f l0).bind fun t966 => ((folkmootlaw08_ops.f l1).bind fun t969 => ((txn_Conflict.f kj2 t966 t969).bind fun t972 => ((folkmootref08_Conflict.f kj2 l0 l1).bind fun t973 => (if (t972 == t973) = true then ((folkmootlaw08_live.f).bind fun t974 => (some t974)) else (some false)))))) else (some false)))))) else (some false)))))) else (some false)))) = some r := H
    have A18 := Aside0.mk A180
    clear A180
    replace H := Option.bind_eq_some_iff.mp H
    obtain ⟨t942, A190, H⟩ := H
    replace H : ((folkmootref03_Same.f kj2 t939 t942).bind fun t945 => (if t945 = true then ((folkmootlaw08_ops.f l0).bind fun t946 => ((txn_Writes.f kj2 t946).bind fun t949 => ((folkmootref08_Writes.f kj2 l0).bind fun t952 => ((folkmootref03_Same.f kj2 t949 t952).bind fun t955 => (if t955 = true then ((folkmootlaw08_ops.f l0).bind fun t956 => ((txn_All.f kj2 t956).bind fun t959 => ((folkmootref08_All.f kj2 l0).bind fun t962 => ((folkmootref03_Same.f kj2 t959 t962).bind fun t965 => (if t965 = true then ((folkmootlaw08_ops.f l0).bind fun t966 => ((folkmootlaw08_ops.f l1).bind fun t969 => ((txn_Conflict.f kj2 t966 t969).bind fun t972 => ((folkmootref08_Conflict.f kj2 l0 l1).bind fun t973 => (if (t972 == t973) = true then ((folkmootlaw08_live.f).bind fun t974 => (some t974)) else (some false)))))) else (some false)))))) else (some false)))))) else (some false))) = some r := H
    have A19 := Aside0.mk A190
    clear A190
    replace H := Option.bind_eq_some_iff.mp H
    obtain ⟨t945, A200, H⟩ := H
    replace H : (if t945 = true then ((folkmootlaw08_ops.f l0).bind fun t946 => ((txn_Writes.f kj2 t946).bind fun t949 => ((folkmootref08_Writes.f kj2 l0).bind fun t952 => ((folkmootref03_Same.f kj2 t949 t952).bind fun t955 => (if t955 = true then ((folkmootlaw08_ops.f l0).bind fun t956 => ((txn_All.f kj2 t956).bind fun t959 => ((folkmootref08_All.f kj2 l0).bind fun t962 => ((folkmootref03_Same.f kj2 t959 t962).bind fun t965 => (if t965 = true then ((folkmootlaw08_ops.f l0).bind fun t966 => ((folkmootlaw08_ops.f l1).bind fun t969 => ((txn_Conflict.f kj2 t966 t969).bind fun t972 => ((folkmootref08_Conflict.f kj2 l0 l1).bind fun t973 => (if (t972 == t973) = true then ((folkmootlaw08_live.f).bind fun t974 => (some t974)) else (some false)))))) else (some false)))))) else (some false)))))) else (some false)) = some r := H
    have A20 := Aside0.mk A200
    clear A200
    by_cases c21 : t945 = true
    ·subst c21
     have H1 : ((folkmootlaw08_ops.f l0).bind fun t946 => ((txn_Writes.f kj2 t946).bind fun t949 => ((folkmootref08_Writes.f kj2 l0).bind fun t952 => ((folkmootref03_Same.f kj2 t949 t952).bind fun t955 => (if t955 = true then ((folkmootlaw08_ops.f l0).bind fun t956 => ((txn_All.f kj2 t956).bind fun t959 => ((folkmootref08_All.f kj2 l0).bind fun t962 => ((folkmootref03_Same.f kj2 t959 t962).bind fun t965 => (if t965 = true then ((folkmootlaw08_ops.f l0).bind fun t966 => ((folkmootlaw08_ops.f l1).bind fun t969 => ((txn_Conflict.f kj2 t966 t969).bind fun t972 => ((folkmootref08_Conflict.f kj2 l0 l1).bind fun t973 => (if (t972 == t973) = true then ((folkmootlaw08_live.f).bind fun t974 => (some t974)) else (some false)))))) else (some false)))))) else (some false)))))) = some r := by rw [if_pos rfl] at H; exact H
     clear H;have H := H1;clear H1
     replace H := Option.bind_eq_some_iff.mp H
     obtain ⟨t946, A220, H⟩ := H
     replace H : ((txn_Writes.f kj2 t946).bind fun t949 => ((folkmootref08_Writes.f kj2 l0).bind fun t952 => ((folkmootref03_Same.f kj2 t949 t952).bind fun t955 => (if t955 = true then ((folkmootlaw08_ops.f l0).bind fun t956 => ((txn_All.f kj2 t956).bind fun t959 => ((folkmootref08_All.f kj2 l0).bind fun t962 => ((folkmootref03_Same.f kj2 t959 t962).bind fun t965 => (if t965 = true then ((folkmootlaw08_ops.f l0).bind fun t966 => ((folkmootlaw08_ops.f l1).bind fun t969 => ((txn_Conflict.f kj2 t966 t969).bind fun t972 => ((folkmootref08_Conflict.f kj2 l0 l1).bind fun t973 => (if (t972 == t973) = true then ((folkmootlaw08_live.f).bind fun t974 => (some t974)) else (some false)))))) else (some false)))))) else (some false))))) = some r := H
     have A22 := Aside0.mk A220
     clear A220
     replace H := Option.bind_eq_some_iff.mp H
     obtain ⟨t949, A230, H⟩ := H
     replace H : ((folkmootref08_Writes.f kj2 l0).bind fun t952 => ((folkmootref03_Same.f kj2 t949 t952).bind fun t955 => (if t955 = true then ((folkmootlaw08_ops.f l0).bind fun t956 => ((txn_All.f kj2 t956).bind fun t959 => ((folkmootref08_All.f kj2 l0).bind fun t962 => ((folkmootref03_Same.f kj2 t959 t962).bind fun t965 => (if t965 = true then ((folkmootlaw08_ops.f l0).bind fun t966 => ((folkmootlaw08_ops.f l1).bind fun t969 => ((txn_Conflict.f kj2 t966 t969).bind fun t972 => ((folkmootref08_Conflict.f kj2 l0 l1).bind fun t973 => (if (t972 == t973) = true then ((folkmootlaw08_live.f).bind fun t974 => (some t974)) else (some false)))))) else (some false)))))) else (some false)))) = some r := H
     have A23 := Aside0.mk A230
     clear A230
     replace H := Option.bind_eq_some_iff.mp H
     obtain ⟨t952, A240, H⟩ := H
     replace H : ((folkmootref03_Same.f kj2 t949 t952).bind fun t955 => (if t955 = true then ((folkmootlaw08_ops.f l0).bind fun t956 => ((txn_All.f kj2 t956).bind fun t959 => ((folkmootref08_All.f kj2 l0).bind fun t962 => ((folkmootref03_Same.f kj2 t959 t962).bind fun t965 => (if t965 = true then ((folkmootlaw08_ops.f l0).bind fun t966 => ((folkmootlaw08_ops.f l1).bind fun t969 => ((txn_Conflict.f kj2 t966 t969).bind fun t972 => ((folkmootref08_Conflict.f kj2 l0 l1).bind fun t973 => (if (t972 == t973) = true then ((folkmootlaw08_live.f).bind fun t974 => (some t974)) else (some false)))))) else (some false)))))) else (some false))) = some r := H
     have A24 := Aside0.mk A240
     clear A240
     replace H := Option.bind_eq_some_iff.mp H
     obtain ⟨t955, A250, H⟩ := H
     replace H : (if t955 = true then ((folkmootlaw08_ops.f l0).bind fun t956 => ((txn_All.f kj2 t956).bind fun t959 => ((folkmootref08_All.f kj2 l0).bind fun t962 => ((folkmootref03_Same.f kj2 t959 t962).bind fun t965 => (if t965 = true then ((folkmootlaw08_ops.f l0).bind fun t966 => ((folkmootlaw08_ops.f l1).bind fun t969 => ((txn_Conflict.f kj2 t966 t969).bind fun t972 => ((folkmootref08_Conflict.f kj2 l0 l1).bind fun t973 => (if (t972 == t973) = true then ((folkmootlaw08_live.f).bind fun t974 => (some t974)) else (some false)))))) else (some false)))))) else (some false)) = some r := H
     have A25 := Aside0.mk A250
     clear A250
     by_cases c26 : t955 = true
     ·subst c26
      have H1 : ((folkmootlaw08_ops.f l0).bind fun t956 => ((txn_All.f kj2 t956).bind fun t959 => ((folkmootref08_All.f kj2 l0).bind fun t962 => ((folkmootref03_Same.f kj2 t959 t962).bind fun t965 => (if t965 = true then ((folkmootlaw08_ops.f l0).bind fun t966 => ((folkmootlaw08_ops.f l1).bind fun t969 => ((txn_Conflict.f kj2 t966 t969).bind fun t972 => ((folkmootref08_Conflict.f kj2 l0 l1).bind fun t973 => (if (t972 == t973) = true then ((folkmootlaw08_live.f).bind fun t974 => (some t974)) else (some false)))))) else (some false)))))) = some r := by rw [if_pos rfl] at H; exact H
      clear H;have H := H1;clear H1
      replace H := Option.bind_eq_some_iff.mp H
      obtain ⟨t956, A270, H⟩ := H
      replace H : ((txn_All.f kj2 t956).bind fun t959 => ((folkmootref08_All.f kj2 l0).bind fun t962 => ((folkmootref03_Same.f kj2 t959 t962).bind fun t965 => (if t965 = true then ((folkmootlaw08_ops.f l0).bind fun t966 => ((folkmootlaw08_ops.f l1).bind fun t969 => ((txn_Conflict.f kj2 t966 t969).bind fun t972 => ((folkmootref08_Conflict.f kj2 l0 l1).bind fun t973 => (if (t972 == t973) = true then ((folkmootlaw08_live.f).bind fun t974 => (some t974)) else (some false)))))) else (some false))))) = some r := H
      have A27 := Aside0.mk A270
      clear A270
      replace H := Option.bind_eq_some_iff.mp H
      obtain ⟨t959, A280, H⟩ := H
      replace H : ((folkmootref08_All.f kj2 l0).bind fun t962 => ((folkmootref03_Same.f kj2 t959 t962).bind fun t965 => (if t965 = true then ((folkmootlaw08_ops.f l0).bind fun t966 => ((folkmootlaw08_ops.f l1).bind fun t969 => ((txn_Conflict.f kj2 t966 t969).bind fun t972 => ((folkmootref08_Conflict.f kj2 l0 l1).bind fun t973 => (if (t972 == t973) = true then ((folkmootlaw08_live.f).bind fun t974 => (some t974)) else (some false)))))) else (some false)))) = some r := H
      have A28 := Aside0.mk A280
      clear A280
      replace H := Option.bind_eq_some_iff.mp H
      obtain ⟨t962, A290, H⟩ := H
      replace H : ((folkmootref03_Same.f kj2 t959 t962).bind fun t965 => (if t965 = true then ((folkmootlaw08_ops.f l0).bind fun t966 => ((folkmootlaw08_ops.f l1).bind fun t969 => ((txn_Conflict.f kj2 t966 t969).bind fun t972 => ((folkmootref08_Conflict.f kj2 l0 l1).bind fun t973 => (if (t972 == t973) = true then ((folkmootlaw08_live.f).bind fun t974 => (some t974)) else (some false)))))) else (some false))) = some r := H
      have A29 := Aside0.mk A290
      clear A290
      replace H := Option.bind_eq_some_iff.mp H
      obtain ⟨t965, A300, H⟩ := H
      replace H : (if t965 = true then ((folkmootlaw08_ops.f l0).bind fun t966 => ((folkmootlaw08_ops.f l1).bind fun t969 => ((txn_Conflict.f kj2 t966 t969).bind fun t972 => ((folkmootref08_Conflict.f kj2 l0 l1).bind fun t973 => (if (t972 == t973) = true then ((folkmootlaw08_live.f).bind fun t974 => (some t974)) else (some false)))))) else (some false)) = some r := H
      have A30 := Aside0.mk A300
      clear A300
      by_cases c31 : t965 = true
      ·subst c31
       have H1 : ((folkmootlaw08_ops.f l0).bind fun t966 => ((folkmootlaw08_ops.f l1).bind fun t969 => ((txn_Conflict.f kj2 t966 t969).bind fun t972 => ((folkmootref08_Conflict.f kj2 l0 l1).bind fun t973 => (if (t972 == t973) = true then ((folkmootlaw08_live.f).bind fun t974 => (some t974)) else (some false)))))) = some r := by rw [if_pos rfl] at H; exact H
       clear H;have H := H1;clear H1
       replace H := Option.bind_eq_some_iff.mp H
       obtain ⟨t966, A320, H⟩ := H
       replace H : ((folkmootlaw08_ops.f l1).bind fun t969 => ((txn_Conflict.f kj2 t966 t969).bind fun t972 => ((folkmootref08_Conflict.f kj2 l0 l1).bind fun t973 => (if (t972 == t973) = true then ((folkmootlaw08_live.f).bind fun t974 => (some t974)) else (some false))))) = some r := H
       have A32 := Aside0.mk A320
       clear A320
       replace H := Option.bind_eq_some_iff.mp H
       obtain ⟨t969, A330, H⟩ := H
       replace H : ((txn_Conflict.f kj2 t966 t969).bind fun t972 => ((folkmootref08_Conflict.f kj2 l0 l1).bind fun t973 => (if (t972 == t973) = true then ((folkmootlaw08_live.f).bind fun t974 => (some t974)) else (some false)))) = some r := H
       have A33 := Aside0.mk A330
       clear A330
       replace H := Option.bind_eq_some_iff.mp H
       obtain ⟨t972, A340, H⟩ := H
       replace H : ((folkmootref08_Conflict.f kj2 l0 l1).bind fun t973 => (if (t972 == t973) = true then ((folkmootlaw08_live.f).bind fun t974 => (some t974)) else (some false))) = some r := H
       have A34 := Aside0.mk A340
       clear A340
       replace H := Option.bind_eq_some_iff.mp H
       obtain ⟨t973, A350, H⟩ := H
       replace H : (if (t972 == t973) = true then ((folkmootlaw08_live.f).bind fun t974 => (some t974)) else (some false)) = some r := H
       have A35 := Aside0.mk A350
       clear A350
       by_cases c36 : (t972 == t973) = true
       ·rw [if_pos c36] at H
        have c36b0 : (t972 == t973) = true := c36
        (try (have c36b1 : decide (t972 = t973) = true := by simpa using c36))
        (try (have c36b2 : (t972 == t973) = true := by simpa using c36))
        clear c36
        replace H := Option.bind_eq_some_iff.mp H
        obtain ⟨t974, A370, H⟩ := H
        replace H : (some t974) = some r := H
        have A37 := Aside0.mk A370
        clear A370;obtain rfl := Option.some.inj H
        go_wp2_with (first | ((with_reducible refine gate_callee (f := 19) rfl ?_); refine goesL_ (some 25) rfl rfl Tryz.func19 (by kernel_rfl) rfl #[.slice A0 l0.length c0] rfl (by (try simp only [List.map_toArray, List.map_cons, List.map_nil]); first | done | rfl | (simp only [List.length_drop, List.length_take]; rfl)) ?_; (with_reducible refine (folkmootlaw08_ops.calls _ _ l0 t936 _ ?side1 ?side2 A17.out).mono ?_); (case side1 => repeat (first | exact (Kd.C_below HR0.out HB.out) | (with_reducible refine Kd.C_alloc ?_ _) | (with_reducible refine Kd.C_drewN ?_ _) | (with_reducible refine Kd.C_drew ?_))); (case side2 => exact HC0.out); rintro e w38 ⟨v937, rfl, ho0, hb⟩; refine ⟨_, rfl, ?_⟩; have n0_ := Aside0.mk (Kd.R_lower ho0 (below_size bB_)); have n1_ := Aside0.mk (below_step bB_ hb); clear HB; have HO938 := n0_; have HB := n1_; clear n0_ n1_; (try clear hb); (try clear hb2); (try clear hk); (try clear hi); (try clear ho0); obtain ⟨Ao39, co39, eo39⟩ := Kd.R_slice HO938.out; subst eo39) | ((with_reducible refine gate_callee (f := 38) rfl ?_); refine goesL_ (some 26) rfl rfl Tryz.func38 (by kernel_rfl) rfl #[.slice Ao39 t936.length co39] rfl (by (try simp only [List.map_toArray, List.map_cons, List.map_nil]); first | done | rfl | (simp only [List.length_drop, List.length_take]; rfl)) ?_; (with_reducible refine (txn_Reads.calls kj2 _ _ t936 t939 _ ?side1 ?side2 A18.out).mono ?_); (case side1 => repeat (first | exact (Kd.R_reads' HO938.out).2.2 | (with_reducible refine Kd.C_alloc ?_ _) | (with_reducible refine Kd.C_drewN ?_ _) | (with_reducible refine Kd.C_drew ?_))); (case side2 => exact (Kd.R_reads' HO938.out).2.1); rintro e w40 ⟨v940, rfl, ho0, hb⟩; refine ⟨_, rfl, ?_⟩; have n0_ := Aside0.mk (Kd.R_below (rR_ HO938.out) hb); have n1_ := Aside0.mk (Kd.R_lower ho0 (below_size bB_)); have n2_ := Aside0.mk (below_step bB_ hb); clear HO938; clear HB; have HO938 := n0_; have HO941 := n1_; have HB := n2_; clear n0_ n1_ n2_; (try clear hb); (try clear hb2); (try clear hk); (try clear hi); (try clear ho0)) | ((with_reducible refine gate_callee (f := 43) rfl ?_); refine goesL_ (some 28) rfl rfl Tryz.func43 (by kernel_rfl) rfl #[.slice A0 l0.length c0] rfl (by (try simp only [List.map_toArray, List.map_cons, List.map_nil]); first | done | rfl | (simp only [List.length_drop, List.length_take]; rfl)) ?_; (with_reducible refine (folkmootref08_Reads.calls kj2 _ _ l0 t942 _ ?side1 ?side2 A19.out).mono ?_); (case side1 => repeat (first | exact (Kd.C_below HR0.out HB.out) | (with_reducible refine Kd.C_alloc ?_ _) | (with_reducible refine Kd.C_drewN ?_ _) | (with_reducible refine Kd.C_drew ?_))); (case side2 => exact HC0.out); rintro e w41 ⟨v943, rfl, ho0, hb⟩; refine ⟨_, rfl, ?_⟩; have n0_ := Aside0.mk (Kd.R_below (rR_ HO938.out) hb); have n1_ := Aside0.mk (Kd.R_elder' (rR_ HO941.out) (Kd.R_base ho0) hb); have n2_ := Aside0.mk (Kd.R_lower (Kd.R_new' ho0 (Kd.R_lt (rR_ HO941.out))) (below_size bB_)); have n3_ := Aside0.mk (below_step bB_ hb); clear HO938; clear HO941; clear HB; have HO938 := n0_; have HO941 := n1_; have HO944 := n2_; have HB := n3_; clear n0_ n1_ n2_ n3_; (try clear hb); (try clear hb2); (try clear hk); (try clear hi); (try clear ho0); obtain ⟨Ao42, co42, eo42⟩ := Kd.R_slice HO941.out; subst eo42; obtain ⟨Ao43, co43, eo43⟩ := Kd.R_slice HO944.out; subst eo43) | ((with_reducible refine gate_callee (f := 41) rfl ?_); refine goesL_ (some 29) rfl rfl Tryz.func41 (by kernel_rfl) rfl #[.slice Ao42 t939.length co42, .slice Ao43 t942.length co43] rfl (by (try simp only [List.map_toArray, List.map_cons, List.map_nil]); first | done | rfl | (simp only [List.length_drop, List.length_take]; rfl)) ?_; (with_reducible refine (folkmootref03_Same.calls kj2 _ _ t939 _ _ t942 true _ ?side1 ?side2 ?side3 ?side4 A20.out).mono ?_); (case side1 => repeat (first | exact (Kd.R_reads' HO941.out).2.2 | (with_reducible refine Kd.C_alloc ?_ _) | (with_reducible refine Kd.C_drewN ?_ _) | (with_reducible refine Kd.C_drew ?_))); (case side2 => exact (Kd.R_reads' HO941.out).2.1); (case side3 => repeat (first | exact (Kd.R_reads' HO944.out).2.2 | (with_reducible refine Kd.C_alloc ?_ _) | (with_reducible refine Kd.C_drewN ?_ _) | (with_reducible refine Kd.C_drew ?_))); (case side4 => exact (Kd.R_reads' HO944.out).2.1); rintro e w' ⟨rfl, ⟨nd, rfl⟩⟩; refine ⟨_, rfl, ?_⟩))
        go_wp2_with ((go_at_call 19; (with_reducible refine (folkmootlaw08_ops.calls _ _ l0 t946 _ ?side1 ?side2 A22.out).mono ?_); (case side1 => repeat (first | exact (Kd.C_below HR0.out bB_) | (with_reducible refine Kd.C_alloc ?_ _) | (with_reducible refine Kd.C_drewN ?_ _) | (with_reducible refine Kd.C_drew ?_))); (case side2 => exact HC0.out); rintro e w44 ⟨v947, rfl, ho0, hb⟩; have n0_ := Aside0.mk (Kd.R_elder' (rR_ HO938.out) (Kd.R_base ho0) hb); have n1_ := Aside0.mk (Kd.R_below (rR_ HO941.out) hb); have n2_ := Aside0.mk (Kd.R_below (rR_ HO944.out) hb); have n3_ := Aside0.mk (Kd.R_lower (Kd.R_new' ho0 (Kd.R_lt (rR_ HO938.out))) (below_size bB_)); have n4_ := Aside0.mk (below_step bB_ hb); clear HO938; clear HO941; clear HO944; clear HB; have HO938 := n0_; have HO941 := n1_; have HO944 := n2_; have HO948 := n3_; have HB := n4_; clear n0_ n1_ n2_ n3_ n4_; (try clear hb); (try clear hb2); (try clear hk); (try clear hi); (try clear ho0); obtain ⟨Ao45, co45, eo45⟩ := Kd.R_slice HO948.out; subst eo45))
        go_wp2_with ((go_at_call 39; (with_reducible refine (txn_Writes.calls kj2 _ _ t946 t949 _ ?side1 ?side2 A23.out).mono ?_); (case side1 => repeat (first | exact (Kd.R_reads' HO948.out).2.2 | (with_reducible refine Kd.C_alloc ?_ _) | (with_reducible refine Kd.C_drewN ?_ _) | (with_reducible refine Kd.C_drew ?_))); (case side2 => exact (Kd.R_reads' HO948.out).2.1); rintro e w46 ⟨v950, rfl, ho0, hb⟩; have n0_ := Aside0.mk (Kd.R_below (rR_ HO938.out) hb); have n1_ := Aside0.mk (Kd.R_elder' (rR_ HO941.out) (Kd.R_base ho0) hb); have n2_ := Aside0.mk (Kd.R_elder' (rR_ HO944.out) (Kd.R_base ho0) hb); have n3_ := Aside0.mk (Kd.R_below (rR_ HO948.out) hb); have n4_ := Aside0.mk (Kd.R_lower (Kd.R_new' (Kd.R_new' ho0 (Kd.R_lt (rR_ HO941.out))) (Kd.R_lt (rR_ HO944.out))) (below_size bB_)); have n5_ := Aside0.mk (below_step bB_ hb); clear HO938; clear HO941; clear HO944; clear HO948; clear HB; have HO938 := n0_; have HO941 := n1_; have HO944 := n2_; have HO948 := n3_; have HO951 := n4_; have HB := n5_; clear n0_ n1_ n2_ n3_ n4_ n5_; (try clear hb); (try clear hb2); (try clear hk); (try clear hi); (try clear ho0)))
        go_wp2_with ((go_at_call 44; (with_reducible refine (folkmootref08_Writes.calls kj2 _ _ l0 t952 _ ?side1 ?side2 A24.out).mono ?_); (case side1 => repeat (first | exact (Kd.C_below HR0.out HB.out) | (with_reducible refine Kd.C_alloc ?_ _) | (with_reducible refine Kd.C_drewN ?_ _) | (with_reducible refine Kd.C_drew ?_))); (case side2 => exact HC0.out); rintro e w47 ⟨v953, rfl, ho0, hb⟩; have n0_ := Aside0.mk (Kd.R_below (rR_ HO938.out) hb); have n1_ := Aside0.mk (Kd.R_elder' (rR_ HO941.out) (Kd.R_base ho0) hb); have n2_ := Aside0.mk (Kd.R_elder' (rR_ HO944.out) (Kd.R_base ho0) hb); have n3_ := Aside0.mk (Kd.R_below (rR_ HO948.out) hb); have n4_ := Aside0.mk (Kd.R_elder' (rR_ HO951.out) (Kd.R_base ho0) hb); have n5_ := Aside0.mk (Kd.R_lower (Kd.R_new' (Kd.R_new' (Kd.R_new' ho0 (Kd.R_lt (rR_ HO941.out))) (Kd.R_lt (rR_ HO944.out))) (Kd.R_lt (rR_ HO951.out))) (below_size bB_)); have n6_ := Aside0.mk (below_step bB_ hb); clear HO938; clear HO941; clear HO944; clear HO948; clear HO951; clear HB; have HO938 := n0_; have HO941 := n1_; have HO944 := n2_; have HO948 := n3_; have HO951 := n4_; have HO954 := n5_; have HB := n6_; clear n0_ n1_ n2_ n3_ n4_ n5_ n6_; (try clear hb); (try clear hb2); (try clear hk); (try clear hi); (try clear ho0); obtain ⟨Ao48, co48, eo48⟩ := Kd.R_slice HO951.out; subst eo48; obtain ⟨Ao49, co49, eo49⟩ := Kd.R_slice HO954.out; subst eo49))
        go_wp2_with ((go_at_call 41; (with_reducible refine (folkmootref03_Same.calls kj2 _ _ t949 _ _ t952 true _ ?side1 ?side2 ?side3 ?side4 A25.out).mono ?_); (case side1 => repeat (first | exact (Kd.R_reads' HO951.out).2.2 | (with_reducible refine Kd.C_alloc ?_ _) | (with_reducible refine Kd.C_drewN ?_ _) | (with_reducible refine Kd.C_drew ?_))); (case side2 => exact (Kd.R_reads' HO951.out).2.1); (case side3 => repeat (first | exact (Kd.R_reads' HO954.out).2.2 | (with_reducible refine Kd.C_alloc ?_ _) | (with_reducible refine Kd.C_drewN ?_ _) | (with_reducible refine Kd.C_drew ?_))); (case side4 => exact (Kd.R_reads' HO954.out).2.1); rintro e w' ⟨rfl, ⟨nd, rfl⟩⟩))
        go_wp2_with ((go_at_call 19; (with_reducible refine (folkmootlaw08_ops.calls _ _ l0 t956 _ ?side1 ?side2 A27.out).mono ?_); (case side1 => repeat (first | exact (Kd.C_below HR0.out bB_) | (with_reducible refine Kd.C_alloc ?_ _) | (with_reducible refine Kd.C_drewN ?_ _) | (with_reducible refine Kd.C_drew ?_))); (case side2 => exact HC0.out); rintro e w50 ⟨v957, rfl, ho0, hb⟩; have n0_ := Aside0.mk (Kd.R_elder' (rR_ HO938.out) (Kd.R_base ho0) hb); have n1_ := Aside0.mk (Kd.R_below (rR_ HO941.out) hb); have n2_ := Aside0.mk (Kd.R_below (rR_ HO944.out) hb); have n3_ := Aside0.mk (Kd.R_elder' (rR_ HO948.out) (Kd.R_base ho0) hb); have n4_ := Aside0.mk (Kd.R_below (rR_ HO951.out) hb); have n5_ := Aside0.mk (Kd.R_below (rR_ HO954.out) hb); have n6_ := Aside0.mk (Kd.R_lower (Kd.R_new' (Kd.R_new' ho0 (Kd.R_lt (rR_ HO938.out))) (Kd.R_lt (rR_ HO948.out))) (below_size bB_)); have n7_ := Aside0.mk (below_step bB_ hb); clear HO938; clear HO941; clear HO944; clear HO948; clear HO951; clear HO954; clear HB; have HO938 := n0_; have HO941 := n1_; have HO944 := n2_; have HO948 := n3_; have HO951 := n4_; have HO954 := n5_; have HO958 := n6_; have HB := n7_; clear n0_ n1_ n2_ n3_ n4_ n5_ n6_ n7_; (try clear hb); (try clear hb2); (try clear hk); (try clear hi); (try clear ho0); obtain ⟨Ao51, co51, eo51⟩ := Kd.R_slice HO958.out; subst eo51))
        go_wp2_with ((go_at_call 42; (with_reducible refine (txn_All.calls kj2 _ _ t956 t959 _ ?side1 ?side2 A28.out).mono ?_); (case side1 => repeat (first | exact (Kd.R_reads' HO958.out).2.2 | (with_reducible refine Kd.C_alloc ?_ _) | (with_reducible refine Kd.C_drewN ?_ _) | (with_reducible refine Kd.C_drew ?_))); (case side2 => exact (Kd.R_reads' HO958.out).2.1); rintro e w52 ⟨v960, rfl, ho0, hb⟩; have n0_ := Aside0.mk (Kd.R_below (rR_ HO938.out) hb); have n1_ := Aside0.mk (Kd.R_elder' (rR_ HO941.out) (Kd.R_base ho0) hb); have n2_ := Aside0.mk (Kd.R_elder' (rR_ HO944.out) (Kd.R_base ho0) hb); have n3_ := Aside0.mk (Kd.R_below (rR_ HO948.out) hb); have n4_ := Aside0.mk (Kd.R_elder' (rR_ HO951.out) (Kd.R_base ho0) hb); have n5_ := Aside0.mk (Kd.R_elder' (rR_ HO954.out) (Kd.R_base ho0) hb); have n6_ := Aside0.mk (Kd.R_below (rR_ HO958.out) hb); have n7_ := Aside0.mk (Kd.R_lower (Kd.R_new' (Kd.R_new' (Kd.R_new' (Kd.R_new' ho0 (Kd.R_lt (rR_ HO941.out))) (Kd.R_lt (rR_ HO944.out))) (Kd.R_lt (rR_ HO951.out))) (Kd.R_lt (rR_ HO954.out))) (below_size bB_)); have n8_ := Aside0.mk (below_step bB_ hb); clear HO938; clear HO941; clear HO944; clear HO948; clear HO951; clear HO954; clear HO958; clear HB; have HO938 := n0_; have HO941 := n1_; have HO944 := n2_; have HO948 := n3_; have HO951 := n4_; have HO954 := n5_; have HO958 := n6_; have HO961 := n7_; have HB := n8_; clear n0_ n1_ n2_ n3_ n4_ n5_ n6_ n7_ n8_; (try clear hb); (try clear hb2); (try clear hk); (try clear hi); (try clear ho0)))
        go_wp2_with ((go_at_call 45; (with_reducible refine (folkmootref08_All.calls kj2 _ _ l0 t962 _ ?side1 ?side2 A29.out).mono ?_); (case side1 => repeat (first | exact (Kd.C_below HR0.out HB.out) | (with_reducible refine Kd.C_alloc ?_ _) | (with_reducible refine Kd.C_drewN ?_ _) | (with_reducible refine Kd.C_drew ?_))); (case side2 => exact HC0.out); rintro e w53 ⟨v963, rfl, ho0, hb⟩; have n0_ := Aside0.mk (Kd.R_below (rR_ HO938.out) hb); have n1_ := Aside0.mk (Kd.R_elder' (rR_ HO941.out) (Kd.R_base ho0) hb); have n2_ := Aside0.mk (Kd.R_elder' (rR_ HO944.out) (Kd.R_base ho0) hb); have n3_ := Aside0.mk (Kd.R_below (rR_ HO948.out) hb); have n4_ := Aside0.mk (Kd.R_elder' (rR_ HO951.out) (Kd.R_base ho0) hb); have n5_ := Aside0.mk (Kd.R_elder' (rR_ HO954.out) (Kd.R_base ho0) hb); have n6_ := Aside0.mk (Kd.R_below (rR_ HO958.out) hb); have n7_ := Aside0.mk (Kd.R_elder' (rR_ HO961.out) (Kd.R_base ho0) hb); have n8_ := Aside0.mk (Kd.R_lower (Kd.R_new' (Kd.R_new' (Kd.R_new' (Kd.R_new' (Kd.R_new' ho0 (Kd.R_lt (rR_ HO941.out))) (Kd.R_lt (rR_ HO944.out))) (Kd.R_lt (rR_ HO951.out))) (Kd.R_lt (rR_ HO954.out))) (Kd.R_lt (rR_ HO961.out))) (below_size bB_)); have n9_ := Aside0.mk (below_step bB_ hb); clear HO938; clear HO941; clear HO944; clear HO948; clear HO951; clear HO954; clear HO958; clear HO961; clear HB; have HO938 := n0_; have HO941 := n1_; have HO944 := n2_; have HO948 := n3_; have HO951 := n4_; have HO954 := n5_; have HO958 := n6_; have HO961 := n7_; have HO964 := n8_; have HB := n9_; clear n0_ n1_ n2_ n3_ n4_ n5_ n6_ n7_ n8_ n9_; (try clear hb); (try clear hb2); (try clear hk); (try clear hi); (try clear ho0); obtain ⟨Ao54, co54, eo54⟩ := Kd.R_slice HO961.out; subst eo54; obtain ⟨Ao55, co55, eo55⟩ := Kd.R_slice HO964.out; subst eo55))
        go_wp2_with ((go_at_call 41; (with_reducible refine (folkmootref03_Same.calls kj2 _ _ t959 _ _ t962 true _ ?side1 ?side2 ?side3 ?side4 A30.out).mono ?_); (case side1 => repeat (first | exact (Kd.R_reads' HO961.out).2.2 | (with_reducible refine Kd.C_alloc ?_ _) | (with_reducible refine Kd.C_drewN ?_ _) | (with_reducible refine Kd.C_drew ?_))); (case side2 => exact (Kd.R_reads' HO961.out).2.1); (case side3 => repeat (first | exact (Kd.R_reads' HO964.out).2.2 | (with_reducible refine Kd.C_alloc ?_ _) | (with_reducible refine Kd.C_drewN ?_ _) | (with_reducible refine Kd.C_drew ?_))); (case side4 => exact (Kd.R_reads' HO964.out).2.1); rintro e w' ⟨rfl, ⟨nd, rfl⟩⟩))
        go_wp2_with ((go_at_call 19; (with_reducible refine (folkmootlaw08_ops.calls _ _ l0 t966 _ ?side1 ?side2 A32.out).mono ?_); (case side1 => repeat (first | exact (Kd.C_below HR0.out bB_) | (with_reducible refine Kd.C_alloc ?_ _) | (with_reducible refine Kd.C_drewN ?_ _) | (with_reducible refine Kd.C_drew ?_))); (case side2 => exact HC0.out); rintro e w56 ⟨v967, rfl, ho0, hb⟩; have n0_ := Aside0.mk (Kd.R_elder' (rR_ HO938.out) (Kd.R_base ho0) hb); have n1_ := Aside0.mk (Kd.R_below (rR_ HO941.out) hb); have n2_ := Aside0.mk (Kd.R_below (rR_ HO944.out) hb); have n3_ := Aside0.mk (Kd.R_elder' (rR_ HO948.out) (Kd.R_base ho0) hb); have n4_ := Aside0.mk (Kd.R_below (rR_ HO951.out) hb); have n5_ := Aside0.mk (Kd.R_below (rR_ HO954.out) hb); have n6_ := Aside0.mk (Kd.R_elder' (rR_ HO958.out) (Kd.R_base ho0) hb); have n7_ := Aside0.mk (Kd.R_below (rR_ HO961.out) hb); have n8_ := Aside0.mk (Kd.R_below (rR_ HO964.out) hb); have n9_ := Aside0.mk (Kd.R_lower (Kd.R_new' (Kd.R_new' (Kd.R_new' ho0 (Kd.R_lt (rR_ HO938.out))) (Kd.R_lt (rR_ HO948.out))) (Kd.R_lt (rR_ HO958.out))) (below_size bB_)); have n10_ := Aside0.mk (below_step bB_ hb); clear HO938; clear HO941; clear HO944; clear HO948; clear HO951; clear HO954; clear HO958; clear HO961; clear HO964; clear HB; have HO938 := n0_; have HO941 := n1_; have HO944 := n2_; have HO948 := n3_; have HO951 := n4_; have HO954 := n5_; have HO958 := n6_; have HO961 := n7_; have HO964 := n8_; have HO968 := n9_; have HB := n10_; clear n0_ n1_ n2_ n3_ n4_ n5_ n6_ n7_ n8_ n9_ n10_; (try clear hb); (try clear hb2); (try clear hk); (try clear hi); (try clear ho0)))
        go_wp2_with ((go_at_call 19; (with_reducible refine (folkmootlaw08_ops.calls _ _ l1 t969 _ ?side1 ?side2 A33.out).mono ?_); (case side1 => repeat (first | exact (Kd.C_below HR1.out HB.out) | (with_reducible refine Kd.C_alloc ?_ _) | (with_reducible refine Kd.C_drewN ?_ _) | (with_reducible refine Kd.C_drew ?_))); (case side2 => exact HC1.out); rintro e w57 ⟨v970, rfl, ho0, hb⟩; have n0_ := Aside0.mk (Kd.R_elder' (rR_ HO938.out) (Kd.R_base ho0) hb); have n1_ := Aside0.mk (Kd.R_below (rR_ HO941.out) hb); have n2_ := Aside0.mk (Kd.R_below (rR_ HO944.out) hb); have n3_ := Aside0.mk (Kd.R_elder' (rR_ HO948.out) (Kd.R_base ho0) hb); have n4_ := Aside0.mk (Kd.R_below (rR_ HO951.out) hb); have n5_ := Aside0.mk (Kd.R_below (rR_ HO954.out) hb); have n6_ := Aside0.mk (Kd.R_elder' (rR_ HO958.out) (Kd.R_base ho0) hb); have n7_ := Aside0.mk (Kd.R_below (rR_ HO961.out) hb); have n8_ := Aside0.mk (Kd.R_below (rR_ HO964.out) hb); have n9_ := Aside0.mk (Kd.R_elder' (rR_ HO968.out) (Kd.R_base ho0) hb); have n10_ := Aside0.mk (Kd.R_lower (Kd.R_new' (Kd.R_new' (Kd.R_new' (Kd.R_new' ho0 (Kd.R_lt (rR_ HO938.out))) (Kd.R_lt (rR_ HO948.out))) (Kd.R_lt (rR_ HO958.out))) (Kd.R_lt (rR_ HO968.out))) (below_size bB_)); have n11_ := Aside0.mk (below_step bB_ hb); clear HO938; clear HO941; clear HO944; clear HO948; clear HO951; clear HO954; clear HO958; clear HO961; clear HO964; clear HO968; clear HB; have HO938 := n0_; have HO941 := n1_; have HO944 := n2_; have HO948 := n3_; have HO951 := n4_; have HO954 := n5_; have HO958 := n6_; have HO961 := n7_; have HO964 := n8_; have HO968 := n9_; have HO971 := n10_; have HB := n11_; clear n0_ n1_ n2_ n3_ n4_ n5_ n6_ n7_ n8_ n9_ n10_ n11_; (try clear hb); (try clear hb2); (try clear hk); (try clear hi); (try clear ho0); obtain ⟨Ao58, co58, eo58⟩ := Kd.R_slice HO968.out; subst eo58; obtain ⟨Ao59, co59, eo59⟩ := Kd.R_slice HO971.out; subst eo59))
        go_wp2_with ((go_at_call 46; (with_reducible refine (txn_Conflict.calls kj2 _ _ t966 _ _ t969 t972 _ ?side1 ?side2 ?side3 ?side4 A34.out).mono ?_); (case side1 => repeat (first | exact (Kd.R_reads' HO968.out).2.2 | (with_reducible refine Kd.C_alloc ?_ _) | (with_reducible refine Kd.C_drewN ?_ _) | (with_reducible refine Kd.C_drew ?_))); (case side2 => exact (Kd.R_reads' HO968.out).2.1); (case side3 => repeat (first | exact (Kd.R_reads' HO971.out).2.2 | (with_reducible refine Kd.C_alloc ?_ _) | (with_reducible refine Kd.C_drewN ?_ _) | (with_reducible refine Kd.C_drew ?_))); (case side4 => exact (Kd.R_reads' HO971.out).2.1); rintro e w60 ⟨rfl, hb⟩; have n0_ := Aside0.mk (Kd.R_below (rR_ HO938.out) hb); have n1_ := Aside0.mk (Kd.R_below (rR_ HO941.out) hb); have n2_ := Aside0.mk (Kd.R_below (rR_ HO944.out) hb); have n3_ := Aside0.mk (Kd.R_below (rR_ HO948.out) hb); have n4_ := Aside0.mk (Kd.R_below (rR_ HO951.out) hb); have n5_ := Aside0.mk (Kd.R_below (rR_ HO954.out) hb); have n6_ := Aside0.mk (Kd.R_below (rR_ HO958.out) hb); have n7_ := Aside0.mk (Kd.R_below (rR_ HO961.out) hb); have n8_ := Aside0.mk (Kd.R_below (rR_ HO964.out) hb); have n9_ := Aside0.mk (Kd.R_below (rR_ HO968.out) hb); have n10_ := Aside0.mk (Kd.R_below (rR_ HO971.out) hb); have n11_ := Aside0.mk (below_step bB_ hb); clear HO938; clear HO941; clear HO944; clear HO948; clear HO951; clear HO954; clear HO958; clear HO961; clear HO964; clear HO968; clear HO971; clear HB; have HO938 := n0_; have HO941 := n1_; have HO944 := n2_; have HO948 := n3_; have HO951 := n4_; have HO954 := n5_; have HO958 := n6_; have HO961 := n7_; have HO964 := n8_; have HO968 := n9_; have HO971 := n10_; have HB := n11_; clear n0_ n1_ n2_ n3_ n4_ n5_ n6_ n7_ n8_ n9_ n10_ n11_; (try clear hb); (try clear hb2); (try clear hk); (try clear hi)))
        go_wp2_with ((go_at_call 47; (with_reducible refine (folkmootref08_Conflict.calls kj2 _ _ l0 _ _ l1 t973 _ ?side1 ?side2 ?side3 ?side4 A35.out).mono ?_); (case side1 => repeat (first | exact (Kd.C_below HR0.out HB.out) | (with_reducible refine Kd.C_alloc ?_ _) | (with_reducible refine Kd.C_drewN ?_ _) | (with_reducible refine Kd.C_drew ?_))); (case side2 => exact HC0.out); (case side3 => repeat (first | exact (Kd.C_below HR1.out HB.out) | (with_reducible refine Kd.C_alloc ?_ _) | (with_reducible refine Kd.C_drewN ?_ _) | (with_reducible refine Kd.C_drew ?_))); (case side4 => exact HC1.out); rintro e w61 ⟨rfl, hb⟩; have n0_ := Aside0.mk (Kd.R_below (rR_ HO938.out) hb); have n1_ := Aside0.mk (Kd.R_below (rR_ HO941.out) hb); have n2_ := Aside0.mk (Kd.R_below (rR_ HO944.out) hb); have n3_ := Aside0.mk (Kd.R_below (rR_ HO948.out) hb); have n4_ := Aside0.mk (Kd.R_below (rR_ HO951.out) hb); have n5_ := Aside0.mk (Kd.R_below (rR_ HO954.out) hb); have n6_ := Aside0.mk (Kd.R_below (rR_ HO958.out) hb); have n7_ := Aside0.mk (Kd.R_below (rR_ HO961.out) hb); have n8_ := Aside0.mk (Kd.R_below (rR_ HO964.out) hb); have n9_ := Aside0.mk (Kd.R_below (rR_ HO968.out) hb); have n10_ := Aside0.mk (Kd.R_below (rR_ HO971.out) hb); have n11_ := Aside0.mk (below_step bB_ hb); clear HO938; clear HO941; clear HO944; clear HO948; clear HO951; clear HO954; clear HO958; clear HO961; clear HO964; clear HO968; clear HO971; clear HB; have HO938 := n0_; have HO941 := n1_; have HO944 := n2_; have HO948 := n3_; have HO951 := n4_; have HO954 := n5_; have HO958 := n6_; have HO961 := n7_; have HO964 := n8_; have HO968 := n9_; have HO971 := n10_; have HB := n11_; clear n0_ n1_ n2_ n3_ n4_ n5_ n6_ n7_ n8_ n9_ n10_ n11_; (try clear hb); (try clear hb2); (try clear hk); (try clear hi)))
        go_wp2_with ((go_at_call 14; (with_reducible refine (folkmootlaw08_live.calls  t974 _ A37.out).mono ?_); rintro e w62 ⟨rfl, hb⟩; have n0_ := Aside0.mk (Kd.R_below (rR_ HO938.out) hb); have n1_ := Aside0.mk (Kd.R_below (rR_ HO941.out) hb); have n2_ := Aside0.mk (Kd.R_below (rR_ HO944.out) hb); have n3_ := Aside0.mk (Kd.R_below (rR_ HO948.out) hb); have n4_ := Aside0.mk (Kd.R_below (rR_ HO951.out) hb); have n5_ := Aside0.mk (Kd.R_below (rR_ HO954.out) hb); have n6_ := Aside0.mk (Kd.R_below (rR_ HO958.out) hb); have n7_ := Aside0.mk (Kd.R_below (rR_ HO961.out) hb); have n8_ := Aside0.mk (Kd.R_below (rR_ HO964.out) hb); have n9_ := Aside0.mk (Kd.R_below (rR_ HO968.out) hb); have n10_ := Aside0.mk (Kd.R_below (rR_ HO971.out) hb); have n11_ := Aside0.mk (below_step bB_ hb); clear HO938; clear HO941; clear HO944; clear HO948; clear HO951; clear HO954; clear HO958; clear HO961; clear HO964; clear HO968; clear HO971; clear HB; have HO938 := n0_; have HO941 := n1_; have HO944 := n2_; have HO948 := n3_; have HO951 := n4_; have HO954 := n5_; have HO958 := n6_; have HO961 := n7_; have HO964 := n8_; have HO968 := n9_; have HO971 := n10_; have HB := n11_; clear n0_ n1_ n2_ n3_ n4_ n5_ n6_ n7_ n8_ n9_ n10_ n11_; (try clear hb); (try clear hb2); (try clear hk); (try clear hi)))
        go_ret
        exact ⟨by first | rfl | (rw [bl_gt] <;> rfl) | (simp [errW_none, errW_some] <;> rfl) | (simp [*, errW_none, errW_some] <;> rfl), bB_⟩
       ·rw [if_neg c36] at H
        have c36b0 : (t972 == t973) = false := by simpa using c36
        (try (have c36b1 : decide (t972 = t973) = false := by simpa using c36))
        (try (have c36b2 : (t972 == t973) = false := by simpa using c36))
        (try (have c36b3 : ¬ (t972 = t973) := by simpa using c36))
        clear c36;obtain rfl := Option.some.inj H
        go_wp2_with (first | ((with_reducible refine gate_callee (f := 19) rfl ?_); refine goesL_ (some 25) rfl rfl Tryz.func19 (by kernel_rfl) rfl #[.slice A0 l0.length c0] rfl (by (try simp only [List.map_toArray, List.map_cons, List.map_nil]); first | done | rfl | (simp only [List.length_drop, List.length_take]; rfl)) ?_; (with_reducible refine (folkmootlaw08_ops.calls _ _ l0 t936 _ ?side1 ?side2 A17.out).mono ?_); (case side1 => repeat (first | exact (Kd.C_below HR0.out HB.out) | (with_reducible refine Kd.C_alloc ?_ _) | (with_reducible refine Kd.C_drewN ?_ _) | (with_reducible refine Kd.C_drew ?_))); (case side2 => exact HC0.out); rintro e w63 ⟨v937, rfl, ho0, hb⟩; refine ⟨_, rfl, ?_⟩; have n0_ := Aside0.mk (Kd.R_lower ho0 (below_size bB_)); have n1_ := Aside0.mk (below_step bB_ hb); clear HB; have HO938 := n0_; have HB := n1_; clear n0_ n1_; (try clear hb); (try clear hb2); (try clear hk); (try clear hi); (try clear ho0); obtain ⟨Ao64, co64, eo64⟩ := Kd.R_slice HO938.out; subst eo64) | ((with_reducible refine gate_callee (f := 38) rfl ?_); refine goesL_ (some 26) rfl rfl Tryz.func38 (by kernel_rfl) rfl #[.slice Ao64 t936.length co64] rfl (by (try simp only [List.map_toArray, List.map_cons, List.map_nil]); first | done | rfl | (simp only [List.length_drop, List.length_take]; rfl)) ?_; (with_reducible refine (txn_Reads.calls kj2 _ _ t936 t939 _ ?side1 ?side2 A18.out).mono ?_); (case side1 => repeat (first | exact (Kd.R_reads' HO938.out).2.2 | (with_reducible refine Kd.C_alloc ?_ _) | (with_reducible refine Kd.C_drewN ?_ _) | (with_reducible refine Kd.C_drew ?_))); (case side2 => exact (Kd.R_reads' HO938.out).2.1); rintro e w65 ⟨v940, rfl, ho0, hb⟩; refine ⟨_, rfl, ?_⟩; have n0_ := Aside0.mk (Kd.R_below (rR_ HO938.out) hb); have n1_ := Aside0.mk (Kd.R_lower ho0 (below_size bB_)); have n2_ := Aside0.mk (below_step bB_ hb); clear HO938; clear HB; have HO938 := n0_; have HO941 := n1_; have HB := n2_; clear n0_ n1_ n2_; (try clear hb); (try clear hb2); (try clear hk); (try clear hi); (try clear ho0)) | ((with_reducible refine gate_callee (f := 43) rfl ?_); refine goesL_ (some 28) rfl rfl Tryz.func43 (by kernel_rfl) rfl #[.slice A0 l0.length c0] rfl (by (try simp only [List.map_toArray, List.map_cons, List.map_nil]); first | done | rfl | (simp only [List.length_drop, List.length_take]; rfl)) ?_; (with_reducible refine (folkmootref08_Reads.calls kj2 _ _ l0 t942 _ ?side1 ?side2 A19.out).mono ?_); (case side1 => repeat (first | exact (Kd.C_below HR0.out HB.out) | (with_reducible refine Kd.C_alloc ?_ _) | (with_reducible refine Kd.C_drewN ?_ _) | (with_reducible refine Kd.C_drew ?_))); (case side2 => exact HC0.out); rintro e w66 ⟨v943, rfl, ho0, hb⟩; refine ⟨_, rfl, ?_⟩; have n0_ := Aside0.mk (Kd.R_below (rR_ HO938.out) hb); have n1_ := Aside0.mk (Kd.R_elder' (rR_ HO941.out) (Kd.R_base ho0) hb); have n2_ := Aside0.mk (Kd.R_lower (Kd.R_new' ho0 (Kd.R_lt (rR_ HO941.out))) (below_size bB_)); have n3_ := Aside0.mk (below_step bB_ hb); clear HO938; clear HO941; clear HB; have HO938 := n0_; have HO941 := n1_; have HO944 := n2_; have HB := n3_; clear n0_ n1_ n2_ n3_; (try clear hb); (try clear hb2); (try clear hk); (try clear hi); (try clear ho0); obtain ⟨Ao67, co67, eo67⟩ := Kd.R_slice HO941.out; subst eo67; obtain ⟨Ao68, co68, eo68⟩ := Kd.R_slice HO944.out; subst eo68) | ((with_reducible refine gate_callee (f := 41) rfl ?_); refine goesL_ (some 29) rfl rfl Tryz.func41 (by kernel_rfl) rfl #[.slice Ao67 t939.length co67, .slice Ao68 t942.length co68] rfl (by (try simp only [List.map_toArray, List.map_cons, List.map_nil]); first | done | rfl | (simp only [List.length_drop, List.length_take]; rfl)) ?_; (with_reducible refine (folkmootref03_Same.calls kj2 _ _ t939 _ _ t942 true _ ?side1 ?side2 ?side3 ?side4 A20.out).mono ?_); (case side1 => repeat (first | exact (Kd.R_reads' HO941.out).2.2 | (with_reducible refine Kd.C_alloc ?_ _) | (with_reducible refine Kd.C_drewN ?_ _) | (with_reducible refine Kd.C_drew ?_))); (case side2 => exact (Kd.R_reads' HO941.out).2.1); (case side3 => repeat (first | exact (Kd.R_reads' HO944.out).2.2 | (with_reducible refine Kd.C_alloc ?_ _) | (with_reducible refine Kd.C_drewN ?_ _) | (with_reducible refine Kd.C_drew ?_))); (case side4 => exact (Kd.R_reads' HO944.out).2.1); rintro e w' ⟨rfl, ⟨nd, rfl⟩⟩; refine ⟨_, rfl, ?_⟩))
        go_wp2_with ((go_at_call 19; (with_reducible refine (folkmootlaw08_ops.calls _ _ l0 t946 _ ?side1 ?side2 A22.out).mono ?_); (case side1 => repeat (first | exact (Kd.C_below HR0.out bB_) | (with_reducible refine Kd.C_alloc ?_ _) | (with_reducible refine Kd.C_drewN ?_ _) | (with_reducible refine Kd.C_drew ?_))); (case side2 => exact HC0.out); rintro e w69 ⟨v947, rfl, ho0, hb⟩; have n0_ := Aside0.mk (Kd.R_elder' (rR_ HO938.out) (Kd.R_base ho0) hb); have n1_ := Aside0.mk (Kd.R_below (rR_ HO941.out) hb); have n2_ := Aside0.mk (Kd.R_below (rR_ HO944.out) hb); have n3_ := Aside0.mk (Kd.R_lower (Kd.R_new' ho0 (Kd.R_lt (rR_ HO938.out))) (below_size bB_)); have n4_ := Aside0.mk (below_step bB_ hb); clear HO938; clear HO941; clear HO944; clear HB; have HO938 := n0_; have HO941 := n1_; have HO944 := n2_; have HO948 := n3_; have HB := n4_; clear n0_ n1_ n2_ n3_ n4_; (try clear hb); (try clear hb2); (try clear hk); (try clear hi); (try clear ho0); obtain ⟨Ao70, co70, eo70⟩ := Kd.R_slice HO948.out; subst eo70))
        go_wp2_with ((go_at_call 39; (with_reducible refine (txn_Writes.calls kj2 _ _ t946 t949 _ ?side1 ?side2 A23.out).mono ?_); (case side1 => repeat (first | exact (Kd.R_reads' HO948.out).2.2 | (with_reducible refine Kd.C_alloc ?_ _) | (with_reducible refine Kd.C_drewN ?_ _) | (with_reducible refine Kd.C_drew ?_))); (case side2 => exact (Kd.R_reads' HO948.out).2.1); rintro e w71 ⟨v950, rfl, ho0, hb⟩; have n0_ := Aside0.mk (Kd.R_below (rR_ HO938.out) hb); have n1_ := Aside0.mk (Kd.R_elder' (rR_ HO941.out) (Kd.R_base ho0) hb); have n2_ := Aside0.mk (Kd.R_elder' (rR_ HO944.out) (Kd.R_base ho0) hb); have n3_ := Aside0.mk (Kd.R_below (rR_ HO948.out) hb); have n4_ := Aside0.mk (Kd.R_lower (Kd.R_new' (Kd.R_new' ho0 (Kd.R_lt (rR_ HO941.out))) (Kd.R_lt (rR_ HO944.out))) (below_size bB_)); have n5_ := Aside0.mk (below_step bB_ hb); clear HO938; clear HO941; clear HO944; clear HO948; clear HB; have HO938 := n0_; have HO941 := n1_; have HO944 := n2_; have HO948 := n3_; have HO951 := n4_; have HB := n5_; clear n0_ n1_ n2_ n3_ n4_ n5_; (try clear hb); (try clear hb2); (try clear hk); (try clear hi); (try clear ho0)))
        go_wp2_with ((go_at_call 44; (with_reducible refine (folkmootref08_Writes.calls kj2 _ _ l0 t952 _ ?side1 ?side2 A24.out).mono ?_); (case side1 => repeat (first | exact (Kd.C_below HR0.out HB.out) | (with_reducible refine Kd.C_alloc ?_ _) | (with_reducible refine Kd.C_drewN ?_ _) | (with_reducible refine Kd.C_drew ?_))); (case side2 => exact HC0.out); rintro e w72 ⟨v953, rfl, ho0, hb⟩; have n0_ := Aside0.mk (Kd.R_below (rR_ HO938.out) hb); have n1_ := Aside0.mk (Kd.R_elder' (rR_ HO941.out) (Kd.R_base ho0) hb); have n2_ := Aside0.mk (Kd.R_elder' (rR_ HO944.out) (Kd.R_base ho0) hb); have n3_ := Aside0.mk (Kd.R_below (rR_ HO948.out) hb); have n4_ := Aside0.mk (Kd.R_elder' (rR_ HO951.out) (Kd.R_base ho0) hb); have n5_ := Aside0.mk (Kd.R_lower (Kd.R_new' (Kd.R_new' (Kd.R_new' ho0 (Kd.R_lt (rR_ HO941.out))) (Kd.R_lt (rR_ HO944.out))) (Kd.R_lt (rR_ HO951.out))) (below_size bB_)); have n6_ := Aside0.mk (below_step bB_ hb); clear HO938; clear HO941; clear HO944; clear HO948; clear HO951; clear HB; have HO938 := n0_; have HO941 := n1_; have HO944 := n2_; have HO948 := n3_; have HO951 := n4_; have HO954 := n5_; have HB := n6_; clear n0_ n1_ n2_ n3_ n4_ n5_ n6_; (try clear hb); (try clear hb2); (try clear hk); (try clear hi); (try clear ho0); obtain ⟨Ao73, co73, eo73⟩ := Kd.R_slice HO951.out; subst eo73; obtain ⟨Ao74, co74, eo74⟩ := Kd.R_slice HO954.out; subst eo74))
        go_wp2_with ((go_at_call 41; (with_reducible refine (folkmootref03_Same.calls kj2 _ _ t949 _ _ t952 true _ ?side1 ?side2 ?side3 ?side4 A25.out).mono ?_); (case side1 => repeat (first | exact (Kd.R_reads' HO951.out).2.2 | (with_reducible refine Kd.C_alloc ?_ _) | (with_reducible refine Kd.C_drewN ?_ _) | (with_reducible refine Kd.C_drew ?_))); (case side2 => exact (Kd.R_reads' HO951.out).2.1); (case side3 => repeat (first | exact (Kd.R_reads' HO954.out).2.2 | (with_reducible refine Kd.C_alloc ?_ _) | (with_reducible refine Kd.C_drewN ?_ _) | (with_reducible refine Kd.C_drew ?_))); (case side4 => exact (Kd.R_reads' HO954.out).2.1); rintro e w' ⟨rfl, ⟨nd, rfl⟩⟩))
        go_wp2_with ((go_at_call 19; (with_reducible refine (folkmootlaw08_ops.calls _ _ l0 t956 _ ?side1 ?side2 A27.out).mono ?_); (case side1 => repeat (first | exact (Kd.C_below HR0.out bB_) | (with_reducible refine Kd.C_alloc ?_ _) | (with_reducible refine Kd.C_drewN ?_ _) | (with_reducible refine Kd.C_drew ?_))); (case side2 => exact HC0.out); rintro e w75 ⟨v957, rfl, ho0, hb⟩; have n0_ := Aside0.mk (Kd.R_elder' (rR_ HO938.out) (Kd.R_base ho0) hb); have n1_ := Aside0.mk (Kd.R_below (rR_ HO941.out) hb); have n2_ := Aside0.mk (Kd.R_below (rR_ HO944.out) hb); have n3_ := Aside0.mk (Kd.R_elder' (rR_ HO948.out) (Kd.R_base ho0) hb); have n4_ := Aside0.mk (Kd.R_below (rR_ HO951.out) hb); have n5_ := Aside0.mk (Kd.R_below (rR_ HO954.out) hb); have n6_ := Aside0.mk (Kd.R_lower (Kd.R_new' (Kd.R_new' ho0 (Kd.R_lt (rR_ HO938.out))) (Kd.R_lt (rR_ HO948.out))) (below_size bB_)); have n7_ := Aside0.mk (below_step bB_ hb); clear HO938; clear HO941; clear HO944; clear HO948; clear HO951; clear HO954; clear HB; have HO938 := n0_; have HO941 := n1_; have HO944 := n2_; have HO948 := n3_; have HO951 := n4_; have HO954 := n5_; have HO958 := n6_; have HB := n7_; clear n0_ n1_ n2_ n3_ n4_ n5_ n6_ n7_; (try clear hb); (try clear hb2); (try clear hk); (try clear hi); (try clear ho0); obtain ⟨Ao76, co76, eo76⟩ := Kd.R_slice HO958.out; subst eo76))
        go_wp2_with ((go_at_call 42; (with_reducible refine (txn_All.calls kj2 _ _ t956 t959 _ ?side1 ?side2 A28.out).mono ?_); (case side1 => repeat (first | exact (Kd.R_reads' HO958.out).2.2 | (with_reducible refine Kd.C_alloc ?_ _) | (with_reducible refine Kd.C_drewN ?_ _) | (with_reducible refine Kd.C_drew ?_))); (case side2 => exact (Kd.R_reads' HO958.out).2.1); rintro e w77 ⟨v960, rfl, ho0, hb⟩; have n0_ := Aside0.mk (Kd.R_below (rR_ HO938.out) hb); have n1_ := Aside0.mk (Kd.R_elder' (rR_ HO941.out) (Kd.R_base ho0) hb); have n2_ := Aside0.mk (Kd.R_elder' (rR_ HO944.out) (Kd.R_base ho0) hb); have n3_ := Aside0.mk (Kd.R_below (rR_ HO948.out) hb); have n4_ := Aside0.mk (Kd.R_elder' (rR_ HO951.out) (Kd.R_base ho0) hb); have n5_ := Aside0.mk (Kd.R_elder' (rR_ HO954.out) (Kd.R_base ho0) hb); have n6_ := Aside0.mk (Kd.R_below (rR_ HO958.out) hb); have n7_ := Aside0.mk (Kd.R_lower (Kd.R_new' (Kd.R_new' (Kd.R_new' (Kd.R_new' ho0 (Kd.R_lt (rR_ HO941.out))) (Kd.R_lt (rR_ HO944.out))) (Kd.R_lt (rR_ HO951.out))) (Kd.R_lt (rR_ HO954.out))) (below_size bB_)); have n8_ := Aside0.mk (below_step bB_ hb); clear HO938; clear HO941; clear HO944; clear HO948; clear HO951; clear HO954; clear HO958; clear HB; have HO938 := n0_; have HO941 := n1_; have HO944 := n2_; have HO948 := n3_; have HO951 := n4_; have HO954 := n5_; have HO958 := n6_; have HO961 := n7_; have HB := n8_; clear n0_ n1_ n2_ n3_ n4_ n5_ n6_ n7_ n8_; (try clear hb); (try clear hb2); (try clear hk); (try clear hi); (try clear ho0)))
        go_wp2_with ((go_at_call 45; (with_reducible refine (folkmootref08_All.calls kj2 _ _ l0 t962 _ ?side1 ?side2 A29.out).mono ?_); (case side1 => repeat (first | exact (Kd.C_below HR0.out HB.out) | (with_reducible refine Kd.C_alloc ?_ _) | (with_reducible refine Kd.C_drewN ?_ _) | (with_reducible refine Kd.C_drew ?_))); (case side2 => exact HC0.out); rintro e w78 ⟨v963, rfl, ho0, hb⟩; have n0_ := Aside0.mk (Kd.R_below (rR_ HO938.out) hb); have n1_ := Aside0.mk (Kd.R_elder' (rR_ HO941.out) (Kd.R_base ho0) hb); have n2_ := Aside0.mk (Kd.R_elder' (rR_ HO944.out) (Kd.R_base ho0) hb); have n3_ := Aside0.mk (Kd.R_below (rR_ HO948.out) hb); have n4_ := Aside0.mk (Kd.R_elder' (rR_ HO951.out) (Kd.R_base ho0) hb); have n5_ := Aside0.mk (Kd.R_elder' (rR_ HO954.out) (Kd.R_base ho0) hb); have n6_ := Aside0.mk (Kd.R_below (rR_ HO958.out) hb); have n7_ := Aside0.mk (Kd.R_elder' (rR_ HO961.out) (Kd.R_base ho0) hb); have n8_ := Aside0.mk (Kd.R_lower (Kd.R_new' (Kd.R_new' (Kd.R_new' (Kd.R_new' (Kd.R_new' ho0 (Kd.R_lt (rR_ HO941.out))) (Kd.R_lt (rR_ HO944.out))) (Kd.R_lt (rR_ HO951.out))) (Kd.R_lt (rR_ HO954.out))) (Kd.R_lt (rR_ HO961.out))) (below_size bB_)); have n9_ := Aside0.mk (below_step bB_ hb); clear HO938; clear HO941; clear HO944; clear HO948; clear HO951; clear HO954; clear HO958; clear HO961; clear HB; have HO938 := n0_; have HO941 := n1_; have HO944 := n2_; have HO948 := n3_; have HO951 := n4_; have HO954 := n5_; have HO958 := n6_; have HO961 := n7_; have HO964 := n8_; have HB := n9_; clear n0_ n1_ n2_ n3_ n4_ n5_ n6_ n7_ n8_ n9_; (try clear hb); (try clear hb2); (try clear hk); (try clear hi); (try clear ho0); obtain ⟨Ao79, co79, eo79⟩ := Kd.R_slice HO961.out; subst eo79; obtain ⟨Ao80, co80, eo80⟩ := Kd.R_slice HO964.out; subst eo80))
        go_wp2_with ((go_at_call 41; (with_reducible refine (folkmootref03_Same.calls kj2 _ _ t959 _ _ t962 true _ ?side1 ?side2 ?side3 ?side4 A30.out).mono ?_); (case side1 => repeat (first | exact (Kd.R_reads' HO961.out).2.2 | (with_reducible refine Kd.C_alloc ?_ _) | (with_reducible refine Kd.C_drewN ?_ _) | (with_reducible refine Kd.C_drew ?_))); (case side2 => exact (Kd.R_reads' HO961.out).2.1); (case side3 => repeat (first | exact (Kd.R_reads' HO964.out).2.2 | (with_reducible refine Kd.C_alloc ?_ _) | (with_reducible refine Kd.C_drewN ?_ _) | (with_reducible refine Kd.C_drew ?_))); (case side4 => exact (Kd.R_reads' HO964.out).2.1); rintro e w' ⟨rfl, ⟨nd, rfl⟩⟩))
        go_wp2_with ((go_at_call 19; (with_reducible refine (folkmootlaw08_ops.calls _ _ l0 t966 _ ?side1 ?side2 A32.out).mono ?_); (case side1 => repeat (first | exact (Kd.C_below HR0.out bB_) | (with_reducible refine Kd.C_alloc ?_ _) | (with_reducible refine Kd.C_drewN ?_ _) | (with_reducible refine Kd.C_drew ?_))); (case side2 => exact HC0.out); rintro e w81 ⟨v967, rfl, ho0, hb⟩; have n0_ := Aside0.mk (Kd.R_elder' (rR_ HO938.out) (Kd.R_base ho0) hb); have n1_ := Aside0.mk (Kd.R_below (rR_ HO941.out) hb); have n2_ := Aside0.mk (Kd.R_below (rR_ HO944.out) hb); have n3_ := Aside0.mk (Kd.R_elder' (rR_ HO948.out) (Kd.R_base ho0) hb); have n4_ := Aside0.mk (Kd.R_below (rR_ HO951.out) hb); have n5_ := Aside0.mk (Kd.R_below (rR_ HO954.out) hb); have n6_ := Aside0.mk (Kd.R_elder' (rR_ HO958.out) (Kd.R_base ho0) hb); have n7_ := Aside0.mk (Kd.R_below (rR_ HO961.out) hb); have n8_ := Aside0.mk (Kd.R_below (rR_ HO964.out) hb); have n9_ := Aside0.mk (Kd.R_lower (Kd.R_new' (Kd.R_new' (Kd.R_new' ho0 (Kd.R_lt (rR_ HO938.out))) (Kd.R_lt (rR_ HO948.out))) (Kd.R_lt (rR_ HO958.out))) (below_size bB_)); have n10_ := Aside0.mk (below_step bB_ hb); clear HO938; clear HO941; clear HO944; clear HO948; clear HO951; clear HO954; clear HO958; clear HO961; clear HO964; clear HB; have HO938 := n0_; have HO941 := n1_; have HO944 := n2_; have HO948 := n3_; have HO951 := n4_; have HO954 := n5_; have HO958 := n6_; have HO961 := n7_; have HO964 := n8_; have HO968 := n9_; have HB := n10_; clear n0_ n1_ n2_ n3_ n4_ n5_ n6_ n7_ n8_ n9_ n10_; (try clear hb); (try clear hb2); (try clear hk); (try clear hi); (try clear ho0)))
        go_wp2_with ((go_at_call 19; (with_reducible refine (folkmootlaw08_ops.calls _ _ l1 t969 _ ?side1 ?side2 A33.out).mono ?_); (case side1 => repeat (first | exact (Kd.C_below HR1.out HB.out) | (with_reducible refine Kd.C_alloc ?_ _) | (with_reducible refine Kd.C_drewN ?_ _) | (with_reducible refine Kd.C_drew ?_))); (case side2 => exact HC1.out); rintro e w82 ⟨v970, rfl, ho0, hb⟩; have n0_ := Aside0.mk (Kd.R_elder' (rR_ HO938.out) (Kd.R_base ho0) hb); have n1_ := Aside0.mk (Kd.R_below (rR_ HO941.out) hb); have n2_ := Aside0.mk (Kd.R_below (rR_ HO944.out) hb); have n3_ := Aside0.mk (Kd.R_elder' (rR_ HO948.out) (Kd.R_base ho0) hb); have n4_ := Aside0.mk (Kd.R_below (rR_ HO951.out) hb); have n5_ := Aside0.mk (Kd.R_below (rR_ HO954.out) hb); have n6_ := Aside0.mk (Kd.R_elder' (rR_ HO958.out) (Kd.R_base ho0) hb); have n7_ := Aside0.mk (Kd.R_below (rR_ HO961.out) hb); have n8_ := Aside0.mk (Kd.R_below (rR_ HO964.out) hb); have n9_ := Aside0.mk (Kd.R_elder' (rR_ HO968.out) (Kd.R_base ho0) hb); have n10_ := Aside0.mk (Kd.R_lower (Kd.R_new' (Kd.R_new' (Kd.R_new' (Kd.R_new' ho0 (Kd.R_lt (rR_ HO938.out))) (Kd.R_lt (rR_ HO948.out))) (Kd.R_lt (rR_ HO958.out))) (Kd.R_lt (rR_ HO968.out))) (below_size bB_)); have n11_ := Aside0.mk (below_step bB_ hb); clear HO938; clear HO941; clear HO944; clear HO948; clear HO951; clear HO954; clear HO958; clear HO961; clear HO964; clear HO968; clear HB; have HO938 := n0_; have HO941 := n1_; have HO944 := n2_; have HO948 := n3_; have HO951 := n4_; have HO954 := n5_; have HO958 := n6_; have HO961 := n7_; have HO964 := n8_; have HO968 := n9_; have HO971 := n10_; have HB := n11_; clear n0_ n1_ n2_ n3_ n4_ n5_ n6_ n7_ n8_ n9_ n10_ n11_; (try clear hb); (try clear hb2); (try clear hk); (try clear hi); (try clear ho0); obtain ⟨Ao83, co83, eo83⟩ := Kd.R_slice HO968.out; subst eo83; obtain ⟨Ao84, co84, eo84⟩ := Kd.R_slice HO971.out; subst eo84))
        go_wp2_with ((go_at_call 46; (with_reducible refine (txn_Conflict.calls kj2 _ _ t966 _ _ t969 t972 _ ?side1 ?side2 ?side3 ?side4 A34.out).mono ?_); (case side1 => repeat (first | exact (Kd.R_reads' HO968.out).2.2 | (with_reducible refine Kd.C_alloc ?_ _) | (with_reducible refine Kd.C_drewN ?_ _) | (with_reducible refine Kd.C_drew ?_))); (case side2 => exact (Kd.R_reads' HO968.out).2.1); (case side3 => repeat (first | exact (Kd.R_reads' HO971.out).2.2 | (with_reducible refine Kd.C_alloc ?_ _) | (with_reducible refine Kd.C_drewN ?_ _) | (with_reducible refine Kd.C_drew ?_))); (case side4 => exact (Kd.R_reads' HO971.out).2.1); rintro e w85 ⟨rfl, hb⟩; have n0_ := Aside0.mk (Kd.R_below (rR_ HO938.out) hb); have n1_ := Aside0.mk (Kd.R_below (rR_ HO941.out) hb); have n2_ := Aside0.mk (Kd.R_below (rR_ HO944.out) hb); have n3_ := Aside0.mk (Kd.R_below (rR_ HO948.out) hb); have n4_ := Aside0.mk (Kd.R_below (rR_ HO951.out) hb); have n5_ := Aside0.mk (Kd.R_below (rR_ HO954.out) hb); have n6_ := Aside0.mk (Kd.R_below (rR_ HO958.out) hb); have n7_ := Aside0.mk (Kd.R_below (rR_ HO961.out) hb); have n8_ := Aside0.mk (Kd.R_below (rR_ HO964.out) hb); have n9_ := Aside0.mk (Kd.R_below (rR_ HO968.out) hb); have n10_ := Aside0.mk (Kd.R_below (rR_ HO971.out) hb); have n11_ := Aside0.mk (below_step bB_ hb); clear HO938; clear HO941; clear HO944; clear HO948; clear HO951; clear HO954; clear HO958; clear HO961; clear HO964; clear HO968; clear HO971; clear HB; have HO938 := n0_; have HO941 := n1_; have HO944 := n2_; have HO948 := n3_; have HO951 := n4_; have HO954 := n5_; have HO958 := n6_; have HO961 := n7_; have HO964 := n8_; have HO968 := n9_; have HO971 := n10_; have HB := n11_; clear n0_ n1_ n2_ n3_ n4_ n5_ n6_ n7_ n8_ n9_ n10_ n11_; (try clear hb); (try clear hb2); (try clear hk); (try clear hi)))
        go_wp2_with ((go_at_call 47; (with_reducible refine (folkmootref08_Conflict.calls kj2 _ _ l0 _ _ l1 t973 _ ?side1 ?side2 ?side3 ?side4 A35.out).mono ?_); (case side1 => repeat (first | exact (Kd.C_below HR0.out HB.out) | (with_reducible refine Kd.C_alloc ?_ _) | (with_reducible refine Kd.C_drewN ?_ _) | (with_reducible refine Kd.C_drew ?_))); (case side2 => exact HC0.out); (case side3 => repeat (first | exact (Kd.C_below HR1.out HB.out) | (with_reducible refine Kd.C_alloc ?_ _) | (with_reducible refine Kd.C_drewN ?_ _) | (with_reducible refine Kd.C_drew ?_))); (case side4 => exact HC1.out); rintro e w86 ⟨rfl, hb⟩; have n0_ := Aside0.mk (Kd.R_below (rR_ HO938.out) hb); have n1_ := Aside0.mk (Kd.R_below (rR_ HO941.out) hb); have n2_ := Aside0.mk (Kd.R_below (rR_ HO944.out) hb); have n3_ := Aside0.mk (Kd.R_below (rR_ HO948.out) hb); have n4_ := Aside0.mk (Kd.R_below (rR_ HO951.out) hb); have n5_ := Aside0.mk (Kd.R_below (rR_ HO954.out) hb); have n6_ := Aside0.mk (Kd.R_below (rR_ HO958.out) hb); have n7_ := Aside0.mk (Kd.R_below (rR_ HO961.out) hb); have n8_ := Aside0.mk (Kd.R_below (rR_ HO964.out) hb); have n9_ := Aside0.mk (Kd.R_below (rR_ HO968.out) hb); have n10_ := Aside0.mk (Kd.R_below (rR_ HO971.out) hb); have n11_ := Aside0.mk (below_step bB_ hb); clear HO938; clear HO941; clear HO944; clear HO948; clear HO951; clear HO954; clear HO958; clear HO961; clear HO964; clear HO968; clear HO971; clear HB; have HO938 := n0_; have HO941 := n1_; have HO944 := n2_; have HO948 := n3_; have HO951 := n4_; have HO954 := n5_; have HO958 := n6_; have HO961 := n7_; have HO964 := n8_; have HO968 := n9_; have HO971 := n10_; have HB := n11_; clear n0_ n1_ n2_ n3_ n4_ n5_ n6_ n7_ n8_ n9_ n10_ n11_; (try clear hb); (try clear hb2); (try clear hk); (try clear hi)))
        go_ret
        exact ⟨by first | rfl | (rw [bl_gt] <;> rfl) | (simp [errW_none, errW_some] <;> rfl) | (simp [*, errW_none, errW_some] <;> rfl), bB_⟩
      ·replace c31 := Bool.eq_false_iff.mpr c31
       subst c31
       have H1 : (some false) = some r := by rw [if_neg (show ¬ (false = true) by decide)] at H; exact H
       exact absurd ((Option.some.inj H1).trans hr_.out) (by decide)
     ·replace c26 := Bool.eq_false_iff.mpr c26
      subst c26
      have H1 : (some false) = some r := by rw [if_neg (show ¬ (false = true) by decide)] at H; exact H
      exact absurd ((Option.some.inj H1).trans hr_.out) (by decide)
    ·replace c21 := Bool.eq_false_iff.mpr c21
     subst c21
     have H1 : (some false) = some r := by rw [if_neg (show ¬ (false = true) by decide)] at H; exact H
     exact absurd ((Option.some.inj H1).trans hr_.out) (by decide)
end Go.Proofs.YtgmlenpcchhmbaaGreat.P
end
section
set_option linter.unusedVariables false
set_option linter.unusedSimpArgs false
namespace Go.Proofs.YtgmlenpcchhmbaaGreat.P
open Go.RowKit Go.Proofs.YtgmlenpcchhmbaaGreatW.PrintWords Go.Proofs.YtgmlenpcchhmbaaGreatW.PrintLast
theorem rpoint_f (k : ByteArray) (h : k.size ≤ 16) : folkmootref08_point.f k = some ((ptS k).f0, (ptS k).f1) := by
  unfold folkmootref08_point.f
  rw [if_pos (by omega)]; rfl
theorem rreads_l0 (l : List S63) (hl : l.length ≤ 8) (hs : ∀ o ∈ l, o.f1.size ≤ 16 ∧ o.f2.size ≤ 16) : ∀ (m i : Nat), i + m = l.length → Ev (fun k => folkmootref08_Reads.l0 k l (setSp rK (l.take i)) (i : Int)) (unionT (setSp rK l))
  | 0, i, h => by
    have hlen := setSp_le rK l
    refine Ev.succ ?_;simp only [folkmootref08_Reads.l0]
    rw [List.take_of_length_le (by omega)]
    exact Ev.no (by omega) (Ev.bind (ev_r3union _ (by omega)) (Ev.some _))
  | m + 1, i, h => by
    have hi : i < l.length := by omega
    have ih := rreads_l0 l hl hs m (i + 1) (by omega)
    rw [setSp_snoc rK l hi] at ih
    have hlen := setSp_len rK l i (by omega)
    obtain ⟨z1, z2⟩ := hs l[i] (List.getElem_mem hi)
    have hrd := rd_atO hi
    generalize l[i] = o at *
    generalize setSp rK (l.take i) = x at *
    have hone : ∀ b : Bool, b = true → rK.contains o.f0 = true → ¬ o.f0 = 2 → ¬ o.f0 = 6 → Ev (fun k => folkmootref08_Reads.j1 k l x (i : Int) o.f0 b) (unionT (setSp rK l)) := fun b hb hc n2 n6 => by
      rw [if_pos hc] at ih
      unfold spO at ih
      rw [if_neg n2, if_neg n6] at ih
      subst hb;refine Ev.succ ?_;simp only [folkmootref08_Reads.j1]
      rw [hrd, w64_succ (by omega)]
      exact Ev.yes (by simp) (Ev.yes (by omega) (Ev.yes (by omega) (Ev.bind1 (rpoint_f _ z1) (Ev.yes (by omega) ih))))
    have hoth : ¬ o.f0 = 1 → ¬ o.f0 = 4 → ¬ o.f0 = 5 → Ev (fun k => folkmootref08_Reads.j1 k l x (i : Int) o.f0 (o.f0 == 5)) (unionT (setSp rK l)) := fun na nb nc => by
      refine Ev.succ ?_;simp only [folkmootref08_Reads.j1]
      rw [hrd, w64_succ (by omega)]
      refine Ev.no (by simp [nc]) (Ev.cond (fun h6 => ?_) (fun n6 => Ev.cond (fun h2 => ?_) (fun n2 => ?_)))
      · rw [if_pos (by rw [h6]; decide)] at ih
        unfold spO at ih
        rw [if_neg (by omega), if_pos h6] at ih
        exact Ev.yes (by omega) (Ev.yes (by omega) (Ev.bind1 (rpoint_f _ z1) (Ev.bind1 (rpoint_f _ z2) (Ev.bind1 rfl (Ev.yes (by simp only [List.length_cons, List.length_nil]; omega) ih)))))
      · rw [if_pos (by rw [h2]; decide)] at ih
        unfold spO at ih
        rw [if_pos h2] at ih
        exact Ev.yes (by omega) (Ev.yes (by omega) (Ev.yes (by omega) ih))
      · rw [if_neg (by simp only [List.contains_cons, List.contains_nil, Bool.or_false, Bool.or_eq_true, beq_iff_eq]; omega), List.append_nil] at ih
        exact ih
    refine Ev.succ ?_;simp only [folkmootref08_Reads.l0]
    rw [hrd]
    refine Ev.yes (by omega) (Ev.yes (by omega) (Ev.cond (fun ha => hone _ (by simp [ha]) (by rw [ha]; decide) (by omega) (by omega)) (fun na => Ev.cond (fun hb => hone _ (by simp [hb]) (by rw [hb]; decide) (by omega) (by omega)) (fun nb => ?_))))
    by_cases hc : o.f0 = 5
    · exact hone _ (by simp [hc]) (by rw [hc]; decide) (by omega) (by omega)
    · exact hoth na nb hc
theorem ev_rreads (l : List S63) (hl : l.length ≤ 8) (hs : ∀ o ∈ l, o.f1.size ≤ 16 ∧ o.f2.size ≤ 16) : Ev (fun k => folkmootref08_Reads.f k l) (unionT (setSp rK l)) := by
  unfold folkmootref08_Reads.f
  exact rreads_l0 l hl hs l.length 0 (by omega)
theorem rwrites_l0 (l : List S63) (hl : l.length ≤ 8) (hs : ∀ o ∈ l, o.f1.size ≤ 16 ∧ o.f2.size ≤ 16) : ∀ (m i : Nat), i + m = l.length → Ev (fun k => folkmootref08_Writes.l0 k l (setSp wK (l.take i)) (i : Int)) (unionT (setSp wK l))
  | 0, i, h => by
    have hlen := setSp_le wK l
    refine Ev.succ ?_;simp only [folkmootref08_Writes.l0]
    rw [List.take_of_length_le (by omega)]
    exact Ev.no (by omega) (Ev.bind (ev_r3union _ (by omega)) (Ev.some _))
  | m + 1, i, h => by
    have hi : i < l.length := by omega
    have ih := rwrites_l0 l hl hs m (i + 1) (by omega)
    rw [setSp_snoc wK l hi] at ih
    have hlen := setSp_len wK l i (by omega)
    obtain ⟨z1, z2⟩ := hs l[i] (List.getElem_mem hi)
    have hrd := rd_atO hi
    generalize l[i] = o at *
    generalize setSp wK (l.take i) = x at *
    have hone : ∀ b : Bool, b = true → wK.contains o.f0 = true → ¬ o.f0 = 2 → ¬ o.f0 = 6 → Ev (fun k => folkmootref08_Writes.j1 k l x (i : Int) o.f0 b) (unionT (setSp wK l)) := fun b hb hc n2 n6 => by
      rw [if_pos hc] at ih
      unfold spO at ih
      rw [if_neg n2, if_neg n6] at ih
      subst hb;refine Ev.succ ?_;simp only [folkmootref08_Writes.j1]
      rw [hrd, w64_succ (by omega)]
      exact Ev.yes (by simp) (Ev.yes (by omega) (Ev.yes (by omega) (Ev.bind1 (rpoint_f _ z1) (Ev.yes (by omega) ih))))
    have hoth : ¬ o.f0 = 3 → ¬ o.f0 = 4 → ¬ o.f0 = 5 → Ev (fun k => folkmootref08_Writes.j1 k l x (i : Int) o.f0 (o.f0 == 5)) (unionT (setSp wK l)) := fun na nb nc => by
      refine Ev.succ ?_;simp only [folkmootref08_Writes.j1]
      rw [hrd, w64_succ (by omega)]
      refine Ev.no (by simp [nc]) (Ev.cond (fun h6 => ?_) (fun n6 => ?_))
      · rw [if_pos (by rw [h6]; decide)] at ih
        unfold spO at ih
        rw [if_neg (by omega), if_pos h6] at ih
        exact Ev.yes (by omega) (Ev.yes (by omega) (Ev.bind1 (rpoint_f _ z1) (Ev.bind1 (rpoint_f _ z2) (Ev.bind1 rfl (Ev.yes (by simp only [List.length_cons, List.length_nil]; omega) ih)))))
      · rw [if_neg (by simp only [List.contains_cons, List.contains_nil, Bool.or_false, Bool.or_eq_true, beq_iff_eq]; omega), List.append_nil] at ih
        exact ih
    refine Ev.succ ?_;simp only [folkmootref08_Writes.l0]
    rw [hrd]
    refine Ev.yes (by omega) (Ev.yes (by omega) (Ev.cond (fun ha => hone _ (by simp [ha]) (by rw [ha]; decide) (by omega) (by omega)) (fun na => Ev.cond (fun hb => hone _ (by simp [hb]) (by rw [hb]; decide) (by omega) (by omega)) (fun nb => ?_))))
    by_cases hc : o.f0 = 5
    · exact hone _ (by simp [hc]) (by rw [hc]; decide) (by omega) (by omega)
    · exact hoth na nb hc
theorem ev_rwrites (l : List S63) (hl : l.length ≤ 8) (hs : ∀ o ∈ l, o.f1.size ≤ 16 ∧ o.f2.size ≤ 16) : Ev (fun k => folkmootref08_Writes.f k l) (unionT (setSp wK l)) := by
  unfold folkmootref08_Writes.f
  exact rwrites_l0 l hl hs l.length 0 (by omega)
theorem ev_r8all (l : List S63) (hl : l.length ≤ 8) (hs : ∀ o ∈ l, o.f1.size ≤ 16 ∧ o.f2.size ≤ 16) : Ev (fun k => folkmootref08_All.f k l) (allT l) := by
  have h := reads_le l hl
  unfold folkmootref08_All.f
  exact Ev.bind (ev_rreads l hl hs) (Ev.bind (ev_rwrites l hl hs) (Ev.yes (by omega) (Ev.bind (ev_r3union _ (by rw [List.length_append]; omega)) (Ev.some _))))
theorem ev_r3cut (a b : List S71) (ha : CanonU a) (hb : CanonU b) (h : a.length + b.length ≤ 10000) : Ev (fun k => folkmootref03_Cut.f k a b) (cutL a b) := by
  unfold folkmootref03_Cut.f
  refine Ev.bind (ev_r3set a b 1 (· && ·) (.inr ⟨rfl, fun _ _ => rfl⟩) h) ?_
  rw [setM_cut a b ha hb]
  exact Ev.some _
theorem cutL_comm {a b : List S71} (ha : CanonU a) (hb : CanonU b) : cutL a b = cutL b a :=
  canon_ext (cutL_canon _ a b (Nat.le_refl _) ha hb) (cutL_canon _ b a (Nat.le_refl _) hb ha) fun k => by
    rw [cutL_has _ a b (Nat.le_refl _) ha hb, cutL_has _ b a (Nat.le_refl _) hb ha, Bool.and_comm]
theorem ev_rconflict (a b : List S63) (ha : a.length ≤ 8) (hb : b.length ≤ 8) (ka : ∀ o ∈ a, o.f1.size ≤ 16 ∧ o.f2.size ≤ 16) (kb : ∀ o ∈ b, o.f1.size ≤ 16 ∧ o.f2.size ≤ 16) : Ev (fun k => folkmootref08_Conflict.f k a b) (clashT a b) := by
  have h1 := reads_le a ha
  have h2 := reads_le b hb
  have h3 := allT_le a ha
  have h4 := allT_le b hb
  have c1 : ∀ l, CanonU (unionT l) := fun l => (unionT_canon l).1
  unfold folkmootref08_Conflict.f clashT
  refine Ev.bind (ev_rwrites a ha ka) (Ev.bind (ev_r8all b hb kb) (Ev.bind (ev_r3cut _ _ (c1 _) (c1 _) (by omega)) (Ev.cond (fun e => ?_) (fun e => ?_))))
  · rw [decide_eq_true (by omega : 0 < (cutL (unionT (setSp wK a)) (allT b)).length), Bool.true_or]; exact Ev.some _
  · rw [decide_eq_false (by omega : ¬ 0 < (cutL (unionT (setSp wK a)) (allT b)).length), Bool.false_or]
    refine Ev.bind (ev_r8all a ha ka) (Ev.bind (ev_rwrites b hb kb) (Ev.bind (ev_r3cut _ _ (c1 _) (c1 _) (by omega)) ?_))
    rw [cutL_comm (a := allT a) (b := unionT (setSp wK b)) (c1 _) (c1 _)]
    exact Ev.eq (Ev.some _) (by rw [Bool.eq_iff_iff, decide_eq_true_eq, decide_eq_true_eq]; omega)
theorem ev_s0 (a b : List S63) (q : Bool) (h : q = false → (a.length ≤ 8 ∧ ∀ o ∈ a, isT o = true) ∧ (b.length ≤ 8 ∧ ∀ o ∈ b, isT o = true)) : Ev (fun k => folkmootlaw08_TxnSpans.j0 k a b q) true := by
  refine Ev.succ ?_;simp only [folkmootlaw08_TxnSpans.j0];refine Ev.cond (fun _ => ev_live) (fun hq => ?_)
  obtain ⟨⟨ha, oa⟩, hb, ob⟩ := h (by simpa using hq)
  have ka : ∀ o ∈ a, o.f1.size ≤ 16 ∧ o.f2.size ≤ 16 := fun o ho => isT_key (oa o ho)
  have kb : ∀ o ∈ b, o.f1.size ≤ 16 ∧ o.f2.size ≤ 16 := fun o ho => isT_key (ob o ho)
  have hops : ∀ l : List S63, l.length ≤ 8 → folkmootlaw08_ops.f l = some l := fun l hl => by
    unfold folkmootlaw08_ops.f
    simp only [Option.bind_some, List.length_nil, List.nil_append]
    rw [if_pos (by omega)]
  have h1 := reads_le a ha
  have h3 := allT_le a ha
  refine Ev.bind1 (hops a ha) (Ev.bind (ev_reads a ha ka) (Ev.bind (ev_rreads a ha ka) (Ev.bind (ev_r3same _ (by omega)) (Ev.yes rfl (Ev.bind1 (hops a ha) (Ev.bind (ev_writes a ha ka) (Ev.bind (ev_rwrites a ha ka) (Ev.bind (ev_r3same _ (by omega)) (Ev.yes rfl ?_)))))))));refine Ev.bind1 (hops a ha) (Ev.bind (ev_all a ha ka) (Ev.bind (ev_r8all a ha ka) (Ev.bind (ev_r3same _ (by omega)) (Ev.yes rfl ?_))))
  exact Ev.bind1 (hops a ha) (Ev.bind1 (hops b hb) (Ev.bind (ev_conflict a b ha hb ka kb) (Ev.bind (ev_rconflict a b ha hb ka kb) (Ev.yes (by simp) ev_live))))
theorem txnSpans_any (A0 : Option Addr) (c0 : Nat) (a : List S63) (A1 : Option Addr) (c1 : Nat) (b : List S63) (w : World) (C0 : Kd.C k63 w A0 a.length a) (hc : a.length ≤ c0) (hp0 : a.length ≤ 9223372036854775807 ∧ ∀ o ∈ a, (Lit.int .u64 o.f3).wf = true)
    (C1 : Kd.C k63 w A1 b.length b) (hc1 : b.length ≤ c1) (hp1 : b.length ≤ 9223372036854775807 ∧ ∀ o ∈ b, (Lit.int .u64 o.f3).wf = true) :
    Calls Tryz.prog 11 #[.slice A0 a.length c0, .slice A1 b.length c1] w fun e w' => e = .returned (.bool true) ∧ Below w.heap.size w w' := by
  have hwf : ∀ {l : List S63}, (∀ o ∈ l, (Lit.int .u64 o.f3).wf = true) → ∀ o ∈ l, 0 ≤ o.f3 ∧ o.f3 < 18446744073709551616 := fun hp o ho => by
    have h := hp o ho
    simp [Lit.wf, IntKind.min, IntKind.max, IntKind.bits, IntKind.signed] at h
    omega
  obtain ⟨q1, hb1, hb2⟩ := ev_small a []
  obtain ⟨q2, hb1', hb2'⟩ := ev_small b []
  have hev : Ev (fun k => folkmootlaw08_TxnSpans.f k a b) true := by
    unfold folkmootlaw08_TxnSpans.f
    have hq : Ev (fun k => folkmootlaw08_TxnSpans.j0 k a b true) true := ev_s0 a b true (fun h => by cases h)
    refine Ev.bind hb1 (Ev.cond (fun h1 => Ev.bind hb1' (Ev.cond (fun h1' => Ev.bind (ev_rcheck a (hwf hp0.2)) (Ev.cond (fun h2 => Ev.bind (ev_rcheck b (hwf hp1.2)) (ev_s0 a b _ (fun h5 => ?_))) (fun _ => hq))) (fun _ => hq))) (fun _ => hq))
    exact ⟨chk_of h2, chk_of (by simpa using h5)⟩
  obtain ⟨k, hk⟩ := hev.get
  exact folkmootlaw08_TxnSpans.calls k A0 c0 a A1 c1 b true w C0 hc C1 hc1 ⟨rfl⟩ hk
end Go.Proofs.YtgmlenpcchhmbaaGreat.P
end
