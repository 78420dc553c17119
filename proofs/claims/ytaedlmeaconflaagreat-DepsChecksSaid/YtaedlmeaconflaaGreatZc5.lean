/- what the claim's row stands on, part 5. -/
import Derived.Test.YtaedlmeaconflaaGreatZc2
import Derived.Test.YtaedlmeaconflaaGreatZc3
import Derived.Test.YtaedlmeaconflaaGreatZc4
import Derived.Defers
import Derived.Recover
section
set_option linter.unusedVariables false
set_option linter.unusedSimpArgs false
namespace Go.Proofs.YtaedlmeaconflaaGreat.P
open Go.RowKit Go.Proofs.YtaedlmeaconflaaGreatW.PrintWords Go.Proofs.YtaedlmeaconflaaGreatW.PrintLast Go.Proofs.YtaedlmeaconflaaGreatW.PrintMore
attribute [local go_sem] max2_int min2_int max_two min_two max_three min_three max_four min_four   -- for this text's walks alone
set_option linter.unusedVariables false
set_option linter.unusedSimpArgs false
attribute [local go_sem high] eqA41
def folkmootref01_Same.l0 : Nat → List (S41) → List (S41) → Int → Option (Bool)
 | 0, _, _, _ => none
 | k + 1, x0, x1, x5 => if x5 < (x0.length : Int) then (if 0 ≤ x5 then (if x5 < (x1.length : Int) then (if (!(((rd_T41 x0 x5).f0) == ((rd_T41 x1 x5).f0)) || (!(((rd_T41 x0 x5).f1) == ((rd_T41 x1 x5).f1)))) = true then (some false) else (folkmootref01_Same.l0 k x0 x1 (wrap64 (x5 + 1)))) else (none)) else (none)) else (some true)
def folkmootref01_Same.f (k : Nat) (l0 : List (S41)) (l1 : List (S41)) : Option (Bool) := if (l0.length : Int) = (l1.length : Int) then (folkmootref01_Same.l0 k l0 l1 0) else (some false)
set_option maxHeartbeats 8000000 in
set_option maxRecDepth 100000 in
theorem folkmootref01_Same.calls (k : Nat) (A0 : Option Addr) (c0 : Nat) (l0 : List (S41)) (A1 : Option Addr) (c1 : Nat) (l1 : List (S41)) (r : Bool) (w : World) (hr0 : Kd.C k41 w A0 l0.length l0) (hc0 : l0.length ≤ c0) (hr1 : Kd.C k41 w A1 l1.length l1) (hc1 : l1.length ≤ c1) (h : folkmootref01_Same.f k l0 l1 = some r) :
  Calls Tryz.prog 19 #[.slice A0 l0.length c0, .slice A1 l1.length c1] w fun e w' => e = .returned (.bool r) ∧ Drawn0 w w' := by
 have hu41 := Tryz.underlying41
 have HR0 := Aside0.mk hr0
 have HC0 := Aside0.mk hc0
 clear hr0 hc0
 have HR1 := Aside0.mk hr1
 have HC1 := Aside0.mk hc1
 clear hr1 hc1
 have H : (if (l0.length : Int) = (l1.length : Int) then (folkmootref01_Same.l0 k l0 l1 0) else (some false)) = some r := h
 clear h
 by_cases c3 : (l0.length : Int) = (l1.length : Int)
 ·rw [if_pos c3] at H
  have c3b0 : ((l0.length : Int) == (l1.length : Int)) = true := beq_iff_eq.mpr c3
  have c3b1 : ((l0.length : Int) != (l1.length : Int)) = false := bne_eq_false_iff_eq.mpr c3
  have c3b2 : (l0.length == l1.length) = true := by first | simpa using c3 | (simp at c3 ⊢; omega)
  clear c3
  have H' := Aside0.mk H
  clear H
  go_enter Tryz.func19, Tryz.ntmps19
  go_wp2
  repeat (go_quiet (fail); try go_wp2)
  go_loopg [5] k (fun kq v5 w' => ∃ (x5_1 : Int), v5 = .int .i64 x5_1 ∧ Aside0 (folkmootref01_Same.l0 kq l0 l1 x5_1 = some r) ∧ Aside0 (kq ≤ k) ∧ Drawn0 w w')
  case atStart => exact ⟨(0), (by first | rfl | (simp; done) | (simp [*]; done)), H', ⟨Nat.le_refl _⟩, by repeat (first | exact Drawn0.refl _ | apply Drawn0.step)⟩
  case round =>
   clear H'
   try clear c1
   try clear p2
   try clear c3
   try clear c3b0
   try clear c3b1
   try clear c3b2
   obtain ⟨x5_1, rfl, HA, HK1, ⟨m1, rfl⟩⟩ := hrel
   cases gk with
   | zero => exact absurd HA.out (by simp [folkmootref01_Same.l0])
   | succ k1 =>
    have H := HA.out;clear HA
    simp only [folkmootref01_Same.l0] at H
    by_cases c4 : x5_1 < (l0.length : Int)
    ·rw [if_pos c4] at H
     have c4b0 : decide (x5_1 < (l0.length : Int)) = true := decide_eq_true c4
     clear c4
     by_cases c5 : 0 ≤ x5_1
     ·rw [if_pos c5] at H
      have c5b0 : decide (0 ≤ x5_1) = true := decide_eq_true c5
      clear c5
      by_cases c6 : x5_1 < (l1.length : Int)
      ·rw [if_pos c6] at H
       have c6b0 : decide (x5_1 < (l1.length : Int)) = true := decide_eq_true c6
       clear c6
       by_cases c7 : (!(((rd_T41 l0 x5_1).f0) == ((rd_T41 l1 x5_1).f0)) || (!(((rd_T41 l0 x5_1).f1) == ((rd_T41 l1 x5_1).f1)))) = true
       ·rw [if_pos c7] at H
        have c7b0 : (!(((rd_T41 l0 x5_1).f0) == ((rd_T41 l1 x5_1).f0)) || (!(((rd_T41 l0 x5_1).f1) == ((rd_T41 l1 x5_1).f1)))) = true := c7
        clear c7;obtain rfl := Option.some.inj H
        have p144 : 0 ≤ (x5_1 : Int) := of_decide_eq_true (by first | (with_reducible assumption) | assumption)
        have q144 : x5_1 < (l0.length : Int) := of_decide_eq_true (by first | (with_reducible assumption) | assumption)
        obtain ⟨ad144, e144, hx144_0, hx144_1⟩ := at_T41 HR0.out x5_1 p144 q144
        cases e144
        replace p144 := eq_true p144
        replace q144 := eq_true q144
        have p145 : 0 ≤ (x5_1 : Int) := of_decide_eq_true (by first | (with_reducible assumption) | assumption)
        have q145 : x5_1 < (l1.length : Int) := of_decide_eq_true (by first | (with_reducible assumption) | assumption)
        obtain ⟨ad145, e145, hx145_0, hx145_1⟩ := at_T41 HR1.out x5_1 p145 q145
        cases e145
        replace p145 := eq_true p145
        replace q145 := eq_true q145
        go_wp2
        repeat (go_quiet (fail); try go_wp2)
        go_ret
        exact ⟨by first | rfl | (simp; done) | (simp [*]; done), by repeat (first | exact Drawn0.refl _ | apply Drawn0.step)⟩
       ·rw [if_neg c7] at H
        have c7b0 : (!(((rd_T41 l0 x5_1).f0) == ((rd_T41 l1 x5_1).f0)) || (!(((rd_T41 l0 x5_1).f1) == ((rd_T41 l1 x5_1).f1)))) = false := by simpa using c7
        clear c7
        have H' := Aside0.mk H
        clear H
        have p144 : 0 ≤ (x5_1 : Int) := of_decide_eq_true (by first | (with_reducible assumption) | assumption)
        have q144 : x5_1 < (l0.length : Int) := of_decide_eq_true (by first | (with_reducible assumption) | assumption)
        obtain ⟨ad144, e144, hx144_0, hx144_1⟩ := at_T41 HR0.out x5_1 p144 q144
        cases e144
        replace p144 := eq_true p144
        replace q144 := eq_true q144
        have p145 : 0 ≤ (x5_1 : Int) := of_decide_eq_true (by first | (with_reducible assumption) | assumption)
        have q145 : x5_1 < (l1.length : Int) := of_decide_eq_true (by first | (with_reducible assumption) | assumption)
        obtain ⟨ad145, e145, hx145_0, hx145_1⟩ := at_T41 HR1.out x5_1 p145 q145
        cases e145
        replace p145 := eq_true p145
        replace q145 := eq_true q145
        go_wp2
        repeat (go_quiet (fail); try go_wp2)
        go_roundg k1
        case measure => have := HK1.out; omega
        case rel => exact ⟨(wrap64 (x5_1 + 1)), (by first | rfl | (simp; done) | (simp [*]; done)), H', ⟨by have := HK1.out; omega⟩, by repeat (first | exact Drawn0.refl _ | apply Drawn0.step)⟩
      ·rw [if_neg c6] at H
       exact absurd H (by simp)
     ·rw [if_neg c5] at H
      exact absurd H (by simp)
    ·rw [if_neg c4] at H
     have c4b0 : decide (x5_1 < (l0.length : Int)) = false := decide_eq_false c4
     clear c4;obtain rfl := Option.some.inj H
     go_wp2
     repeat (go_quiet (fail); try go_wp2)
     go_ret
     exact ⟨by first | rfl | (simp; done) | (simp [*]; done), by repeat (first | exact Drawn0.refl _ | apply Drawn0.step)⟩
 ·rw [if_neg c3] at H
  have c3b0 : ((l0.length : Int) == (l1.length : Int)) = false := beq_eq_false_iff_ne.mpr c3
  have c3b1 : ((l0.length : Int) != (l1.length : Int)) = true := bne_iff_ne.mpr c3
  have c3b2 : (l0.length == l1.length) = false := by first | simpa using c3 | (simp at c3 ⊢; omega)
  obtain rfl := Option.some.inj H
  go_enter Tryz.func19, Tryz.ntmps19
  go_wp2
  repeat (go_quiet (fail); try go_wp2)
  go_ret
  exact ⟨by first | rfl | (simp; done) | (simp [*]; done), by repeat (first | exact Drawn0.refl _ | apply Drawn0.step)⟩
def folkmootref06_Same.l0 : Nat → List (S26) → List (S26) → Int → Option (Bool)
 | 0, _, _, _ => none
 | k + 1, x0, x1, x5 => if x5 < (x0.length : Int) then (if 0 ≤ x5 then (if x5 < (x1.length : Int) then (if ((rd_T26 x0 x5).f0) = ((rd_T26 x1 x5).f0) then ((folkmootref01_Same.f k ((rd_T26 x0 x5).f1) ((rd_T26 x1 x5).f1)).bind fun t150 => (if t150 = true then (folkmootref06_Same.l0 k x0 x1 (wrap64 (x5 + 1))) else (some false))) else (some false)) else (none)) else (none)) else (some true)
def folkmootref06_Same.f (k : Nat) (l0 : List (S26)) (l1 : List (S26)) : Option (Bool) := if (l0.length : Int) = (l1.length : Int) then (folkmootref06_Same.l0 k l0 l1 0) else (some false)
set_option maxHeartbeats 8000000 in
set_option maxRecDepth 100000 in
theorem folkmootref06_Same.calls (k : Nat) (A0 : Option Addr) (c0 : Nat) (l0 : List (S26)) (A1 : Option Addr) (c1 : Nat) (l1 : List (S26)) (r : Bool) (w : World) (hr0 : Kd.C k26 w A0 l0.length l0) (hc0 : l0.length ≤ c0) (hr1 : Kd.C k26 w A1 l1.length l1) (hc1 : l1.length ≤ c1) (h : folkmootref06_Same.f k l0 l1 = some r) :
  Calls Tryz.prog 14 #[.slice A0 l0.length c0, .slice A1 l1.length c1] w fun e w' => e = .returned (.bool r) ∧ Drawn0 w w' := by
 have HR0 := Aside0.mk hr0
 have HC0 := Aside0.mk hc0
 clear hr0 hc0
 have HR1 := Aside0.mk hr1
 have HC1 := Aside0.mk hc1
 clear hr1 hc1
 have H : (if (l0.length : Int) = (l1.length : Int) then (folkmootref06_Same.l0 k l0 l1 0) else (some false)) = some r := h
 clear h
 by_cases c3 : (l0.length : Int) = (l1.length : Int)
 ·rw [if_pos c3] at H
  have c3b0 : ((l0.length : Int) == (l1.length : Int)) = true := beq_iff_eq.mpr c3
  have c3b1 : ((l0.length : Int) != (l1.length : Int)) = false := bne_eq_false_iff_eq.mpr c3
  have c3b2 : (l0.length == l1.length) = true := by first | simpa using c3 | (simp at c3 ⊢; omega)
  clear c3
  have H' := Aside0.mk H
  clear H
  go_enter Tryz.func14, Tryz.ntmps14
  go_wp2
  repeat (go_quiet (fail); try go_wp2)
  go_loopg [5] k (fun kq v5 w' => ∃ (x5_1 : Int), v5 = .int .i64 x5_1 ∧ Aside0 (folkmootref06_Same.l0 kq l0 l1 x5_1 = some r) ∧ Aside0 (kq ≤ k) ∧ Drawn0 w w')
  case atStart => exact ⟨(0), (by first | rfl | (simp; done) | (simp [*]; done)), H', ⟨Nat.le_refl _⟩, by repeat (first | exact Drawn0.refl _ | apply Drawn0.step)⟩
  case round =>
   clear H'
   try clear c1
   try clear p2
   try clear c3
   try clear c3b0
   try clear c3b1
   try clear c3b2
   obtain ⟨x5_1, rfl, HA, HK1, ⟨m1, rfl⟩⟩ := hrel
   cases gk with
   | zero => exact absurd HA.out (by simp [folkmootref06_Same.l0])
   | succ k1 =>
    have H := HA.out;clear HA
    simp only [folkmootref06_Same.l0] at H
    by_cases c4 : x5_1 < (l0.length : Int)
    ·rw [if_pos c4] at H
     have c4b0 : decide (x5_1 < (l0.length : Int)) = true := decide_eq_true c4
     clear c4
     by_cases c5 : 0 ≤ x5_1
     ·rw [if_pos c5] at H
      have c5b0 : decide (0 ≤ x5_1) = true := decide_eq_true c5
      clear c5
      by_cases c6 : x5_1 < (l1.length : Int)
      ·rw [if_pos c6] at H
       have c6b0 : decide (x5_1 < (l1.length : Int)) = true := decide_eq_true c6
       clear c6
       by_cases c7 : ((rd_T26 l0 x5_1).f0) = ((rd_T26 l1 x5_1).f0)
       ·rw [if_pos c7] at H
        have c7b0 : (((rd_T26 l0 x5_1).f0) == ((rd_T26 l1 x5_1).f0)) = true := beq_iff_eq.mpr c7
        have c7b1 : (((rd_T26 l0 x5_1).f0) != ((rd_T26 l1 x5_1).f0)) = false := bne_eq_false_iff_eq.mpr c7
        clear c7
        replace H := Option.bind_eq_some_iff.mp H
        obtain ⟨t150, A80, H⟩ := H
        replace H : (if t150 = true then (folkmootref06_Same.l0 k1 l0 l1 (wrap64 (x5_1 + 1))) else (some false)) = some r := H
        have A8 := Aside0.mk A80
        clear A80
        by_cases c9 : t150 = true
        ·subst c9
         have H1 : (folkmootref06_Same.l0 k1 l0 l1 (wrap64 (x5_1 + 1))) = some r := by rw [if_pos rfl] at H; exact H
         clear H;have H := H1;clear H1
         have H' := Aside0.mk H
         clear H
         have p146 : 0 ≤ (x5_1 : Int) := of_decide_eq_true (by first | (with_reducible assumption) | assumption)
         have q146 : x5_1 < (l0.length : Int) := of_decide_eq_true (by first | (with_reducible assumption) | assumption)
         obtain ⟨ad146, A146_1, c146_1, e146, hx146_0, hx146_1, hl146_1, hi146_1⟩ := at_T26 HR0.out x5_1 p146 q146
         cases e146
         have HR146_1 := Aside0.mk hi146_1
         have HC146_1 := Aside0.mk hl146_1
         clear hi146_1 hl146_1
         replace p146 := eq_true p146
         replace q146 := eq_true q146
         have p147 : 0 ≤ (x5_1 : Int) := of_decide_eq_true (by first | (with_reducible assumption) | assumption)
         have q147 : x5_1 < (l1.length : Int) := of_decide_eq_true (by first | (with_reducible assumption) | assumption)
         obtain ⟨ad147, A147_1, c147_1, e147, hx147_0, hx147_1, hl147_1, hi147_1⟩ := at_T26 HR1.out x5_1 p147 q147
         cases e147
         have HR147_1 := Aside0.mk hi147_1
         have HC147_1 := Aside0.mk hl147_1
         clear hi147_1 hl147_1
         replace p147 := eq_true p147
         replace q147 := eq_true q147
         have p148 : 0 ≤ (x5_1 : Int) := of_decide_eq_true (by first | (with_reducible assumption) | assumption)
         have q148 : x5_1 < (l0.length : Int) := of_decide_eq_true (by first | (with_reducible assumption) | assumption)
         obtain ⟨ad148, A148_1, c148_1, e148, hx148_0, hx148_1, hl148_1, hi148_1⟩ := at_T26 HR0.out x5_1 p148 q148
         obtain rfl : ad146 = ad148 := (by injection e148)
         have HR148_1 := Aside0.mk hi148_1
         have HC148_1 := Aside0.mk hl148_1
         clear hi148_1 hl148_1
         replace p148 := eq_true p148
         replace q148 := eq_true q148
         have ea_ := Option.some.inj (hx146_1.symm.trans hx148_1)
         injection ea_ with ea_ en_ ec_
         subst ea_;subst ec_;clear en_
         have p149 : 0 ≤ (x5_1 : Int) := of_decide_eq_true (by first | (with_reducible assumption) | assumption)
         have q149 : x5_1 < (l1.length : Int) := of_decide_eq_true (by first | (with_reducible assumption) | assumption)
         obtain ⟨ad149, A149_1, c149_1, e149, hx149_0, hx149_1, hl149_1, hi149_1⟩ := at_T26 HR1.out x5_1 p149 q149
         obtain rfl : ad147 = ad149 := (by injection e149)
         have HR149_1 := Aside0.mk hi149_1
         have HC149_1 := Aside0.mk hl149_1
         clear hi149_1 hl149_1
         replace p149 := eq_true p149
         replace q149 := eq_true q149
         have ea_ := Option.some.inj (hx147_1.symm.trans hx149_1)
         injection ea_ with ea_ en_ ec_
         subst ea_;subst ec_;clear en_
         go_wp2_with (first | (go_at_call 19; (with_reducible refine (folkmootref01_Same.calls k1 _ _ ((rd_T26 l0 x5_1).f1) _ _ ((rd_T26 l1 x5_1).f1) true _ ?side1 ?side2 ?side3 ?side4 A8.out).mono ?_); (case side1 => repeat (first | exact HR148_1.out | (with_reducible refine Kd.C_alloc ?_ _) | (with_reducible refine Kd.C_drewN ?_ _) | (with_reducible refine Kd.C_drew ?_))); (case side2 => exact HC148_1.out); (case side3 => repeat (first | exact HR149_1.out | (with_reducible refine Kd.C_alloc ?_ _) | (with_reducible refine Kd.C_drewN ?_ _) | (with_reducible refine Kd.C_drew ?_))); (case side4 => exact HC149_1.out); rintro e w' ⟨rfl, ⟨nd, rfl⟩⟩; (try first | exact ⟨rfl, _, World.drewN_drewN _ _ _⟩ | exact ⟨rfl, _, Eq.trans (World.drewN_drewN _ _ _) (congrArg (World.drewN _) (Nat.add_assoc _ _ _))⟩)))
         repeat (go_quiet (first | (go_at_call 19; (with_reducible refine (folkmootref01_Same.calls k1 _ _ ((rd_T26 l0 x5_1).f1) _ _ ((rd_T26 l1 x5_1).f1) true _ ?side1 ?side2 ?side3 ?side4 A8.out).mono ?_); (case side1 => repeat (first | exact HR148_1.out | (with_reducible refine Kd.C_alloc ?_ _) | (with_reducible refine Kd.C_drewN ?_ _) | (with_reducible refine Kd.C_drew ?_))); (case side2 => exact HC148_1.out); (case side3 => repeat (first | exact HR149_1.out | (with_reducible refine Kd.C_alloc ?_ _) | (with_reducible refine Kd.C_drewN ?_ _) | (with_reducible refine Kd.C_drew ?_))); (case side4 => exact HC149_1.out); rintro e w' ⟨rfl, ⟨nd, rfl⟩⟩; (try first | exact ⟨rfl, _, World.drewN_drewN _ _ _⟩ | exact ⟨rfl, _, Eq.trans (World.drewN_drewN _ _ _) (congrArg (World.drewN _) (Nat.add_assoc _ _ _))⟩))); try go_wp2_with (first | (go_at_call 19; (with_reducible refine (folkmootref01_Same.calls k1 _ _ ((rd_T26 l0 x5_1).f1) _ _ ((rd_T26 l1 x5_1).f1) true _ ?side1 ?side2 ?side3 ?side4 A8.out).mono ?_); (case side1 => repeat (first | exact HR148_1.out | (with_reducible refine Kd.C_alloc ?_ _) | (with_reducible refine Kd.C_drewN ?_ _) | (with_reducible refine Kd.C_drew ?_))); (case side2 => exact HC148_1.out); (case side3 => repeat (first | exact HR149_1.out | (with_reducible refine Kd.C_alloc ?_ _) | (with_reducible refine Kd.C_drewN ?_ _) | (with_reducible refine Kd.C_drew ?_))); (case side4 => exact HC149_1.out); rintro e w' ⟨rfl, ⟨nd, rfl⟩⟩; (try first | exact ⟨rfl, _, World.drewN_drewN _ _ _⟩ | exact ⟨rfl, _, Eq.trans (World.drewN_drewN _ _ _) (congrArg (World.drewN _) (Nat.add_assoc _ _ _))⟩))))
         go_roundg k1
         case measure => have := HK1.out; omega
         case rel => exact ⟨(wrap64 (x5_1 + 1)), (by first | rfl | (simp; done) | (simp [*]; done)), H', ⟨by have := HK1.out; omega⟩, by repeat (first | exact Drawn0.refl _ | apply Drawn0.step)⟩
        ·replace c9 := Bool.eq_false_iff.mpr c9
         subst c9
         have H1 : (some false) = some r := by rw [if_neg (show ¬ (false = true) by decide)] at H; exact H
         clear H;have H := H1;clear H1;obtain rfl := Option.some.inj H
         have p146 : 0 ≤ (x5_1 : Int) := of_decide_eq_true (by first | (with_reducible assumption) | assumption)
         have q146 : x5_1 < (l0.length : Int) := of_decide_eq_true (by first | (with_reducible assumption) | assumption)
         obtain ⟨ad146, A146_1, c146_1, e146, hx146_0, hx146_1, hl146_1, hi146_1⟩ := at_T26 HR0.out x5_1 p146 q146
         cases e146
         have HR146_1 := Aside0.mk hi146_1
         have HC146_1 := Aside0.mk hl146_1
         clear hi146_1 hl146_1
         replace p146 := eq_true p146
         replace q146 := eq_true q146
         have p147 : 0 ≤ (x5_1 : Int) := of_decide_eq_true (by first | (with_reducible assumption) | assumption)
         have q147 : x5_1 < (l1.length : Int) := of_decide_eq_true (by first | (with_reducible assumption) | assumption)
         obtain ⟨ad147, A147_1, c147_1, e147, hx147_0, hx147_1, hl147_1, hi147_1⟩ := at_T26 HR1.out x5_1 p147 q147
         cases e147
         have HR147_1 := Aside0.mk hi147_1
         have HC147_1 := Aside0.mk hl147_1
         clear hi147_1 hl147_1
         replace p147 := eq_true p147
         replace q147 := eq_true q147
         have p148 : 0 ≤ (x5_1 : Int) := of_decide_eq_true (by first | (with_reducible assumption) | assumption)
         have q148 : x5_1 < (l0.length : Int) := of_decide_eq_true (by first | (with_reducible assumption) | assumption)
         obtain ⟨ad148, A148_1, c148_1, e148, hx148_0, hx148_1, hl148_1, hi148_1⟩ := at_T26 HR0.out x5_1 p148 q148
         obtain rfl : ad146 = ad148 := (by injection e148)
         have HR148_1 := Aside0.mk hi148_1
         have HC148_1 := Aside0.mk hl148_1
         clear hi148_1 hl148_1
         replace p148 := eq_true p148
         replace q148 := eq_true q148
         have ea_ := Option.some.inj (hx146_1.symm.trans hx148_1)
         injection ea_ with ea_ en_ ec_
         subst ea_;subst ec_;clear en_
         have p149 : 0 ≤ (x5_1 : Int) := of_decide_eq_true (by first | (with_reducible assumption) | assumption)
         have q149 : x5_1 < (l1.length : Int) := of_decide_eq_true (by first | (with_reducible assumption) | assumption)
         obtain ⟨ad149, A149_1, c149_1, e149, hx149_0, hx149_1, hl149_1, hi149_1⟩ := at_T26 HR1.out x5_1 p149 q149
         obtain rfl : ad147 = ad149 := (by injection e149)
         have HR149_1 := Aside0.mk hi149_1
         have HC149_1 := Aside0.mk hl149_1
         clear hi149_1 hl149_1
         replace p149 := eq_true p149
         replace q149 := eq_true q149
         have ea_ := Option.some.inj (hx147_1.symm.trans hx149_1)
         injection ea_ with ea_ en_ ec_
         subst ea_;subst ec_;clear en_
         go_wp2_with (first | (go_at_call 19; (with_reducible refine (folkmootref01_Same.calls k1 _ _ ((rd_T26 l0 x5_1).f1) _ _ ((rd_T26 l1 x5_1).f1) false _ ?side1 ?side2 ?side3 ?side4 A8.out).mono ?_); (case side1 => repeat (first | exact HR148_1.out | (with_reducible refine Kd.C_alloc ?_ _) | (with_reducible refine Kd.C_drewN ?_ _) | (with_reducible refine Kd.C_drew ?_))); (case side2 => exact HC148_1.out); (case side3 => repeat (first | exact HR149_1.out | (with_reducible refine Kd.C_alloc ?_ _) | (with_reducible refine Kd.C_drewN ?_ _) | (with_reducible refine Kd.C_drew ?_))); (case side4 => exact HC149_1.out); rintro e w' ⟨rfl, ⟨nd, rfl⟩⟩; (try first | exact ⟨rfl, _, World.drewN_drewN _ _ _⟩ | exact ⟨rfl, _, Eq.trans (World.drewN_drewN _ _ _) (congrArg (World.drewN _) (Nat.add_assoc _ _ _))⟩)))
         repeat (go_quiet (first | (go_at_call 19; (with_reducible refine (folkmootref01_Same.calls k1 _ _ ((rd_T26 l0 x5_1).f1) _ _ ((rd_T26 l1 x5_1).f1) false _ ?side1 ?side2 ?side3 ?side4 A8.out).mono ?_); (case side1 => repeat (first | exact HR148_1.out | (with_reducible refine Kd.C_alloc ?_ _) | (with_reducible refine Kd.C_drewN ?_ _) | (with_reducible refine Kd.C_drew ?_))); (case side2 => exact HC148_1.out); (case side3 => repeat (first | exact HR149_1.out | (with_reducible refine Kd.C_alloc ?_ _) | (with_reducible refine Kd.C_drewN ?_ _) | (with_reducible refine Kd.C_drew ?_))); (case side4 => exact HC149_1.out); rintro e w' ⟨rfl, ⟨nd, rfl⟩⟩; (try first | exact ⟨rfl, _, World.drewN_drewN _ _ _⟩ | exact ⟨rfl, _, Eq.trans (World.drewN_drewN _ _ _) (congrArg (World.drewN _) (Nat.add_assoc _ _ _))⟩))); try go_wp2_with (first | (go_at_call 19; (with_reducible refine (folkmootref01_Same.calls k1 _ _ ((rd_T26 l0 x5_1).f1) _ _ ((rd_T26 l1 x5_1).f1) false _ ?side1 ?side2 ?side3 ?side4 A8.out).mono ?_); (case side1 => repeat (first | exact HR148_1.out | (with_reducible refine Kd.C_alloc ?_ _) | (with_reducible refine Kd.C_drewN ?_ _) | (with_reducible refine Kd.C_drew ?_))); (case side2 => exact HC148_1.out); (case side3 => repeat (first | exact HR149_1.out | (with_reducible refine Kd.C_alloc ?_ _) | (with_reducible refine Kd.C_drewN ?_ _) | (with_reducible refine Kd.C_drew ?_))); (case side4 => exact HC149_1.out); rintro e w' ⟨rfl, ⟨nd, rfl⟩⟩; (try first | exact ⟨rfl, _, World.drewN_drewN _ _ _⟩ | exact ⟨rfl, _, Eq.trans (World.drewN_drewN _ _ _) (congrArg (World.drewN _) (Nat.add_assoc _ _ _))⟩))))
         go_ret
         exact ⟨by first | rfl | (simp; done) | (simp [*]; done), by repeat (first | exact Drawn0.refl _ | apply Drawn0.step)⟩
       ·rw [if_neg c7] at H
        have c7b0 : (((rd_T26 l0 x5_1).f0) == ((rd_T26 l1 x5_1).f0)) = false := beq_eq_false_iff_ne.mpr c7
        have c7b1 : (((rd_T26 l0 x5_1).f0) != ((rd_T26 l1 x5_1).f0)) = true := bne_iff_ne.mpr c7
        obtain rfl := Option.some.inj H
        have p146 : 0 ≤ (x5_1 : Int) := of_decide_eq_true (by first | (with_reducible assumption) | assumption)
        have q146 : x5_1 < (l0.length : Int) := of_decide_eq_true (by first | (with_reducible assumption) | assumption)
        obtain ⟨ad146, A146_1, c146_1, e146, hx146_0, hx146_1, hl146_1, hi146_1⟩ := at_T26 HR0.out x5_1 p146 q146
        cases e146
        have HR146_1 := Aside0.mk hi146_1
        have HC146_1 := Aside0.mk hl146_1
        clear hi146_1 hl146_1
        replace p146 := eq_true p146
        replace q146 := eq_true q146
        have p147 : 0 ≤ (x5_1 : Int) := of_decide_eq_true (by first | (with_reducible assumption) | assumption)
        have q147 : x5_1 < (l1.length : Int) := of_decide_eq_true (by first | (with_reducible assumption) | assumption)
        obtain ⟨ad147, A147_1, c147_1, e147, hx147_0, hx147_1, hl147_1, hi147_1⟩ := at_T26 HR1.out x5_1 p147 q147
        cases e147
        have HR147_1 := Aside0.mk hi147_1
        have HC147_1 := Aside0.mk hl147_1
        clear hi147_1 hl147_1
        replace p147 := eq_true p147
        replace q147 := eq_true q147
        go_wp2
        repeat (go_quiet (fail); try go_wp2)
        go_ret
        exact ⟨by first | rfl | (simp; done) | (simp [*]; done), by repeat (first | exact Drawn0.refl _ | apply Drawn0.step)⟩
      ·rw [if_neg c6] at H
       exact absurd H (by simp)
     ·rw [if_neg c5] at H
      exact absurd H (by simp)
    ·rw [if_neg c4] at H
     have c4b0 : decide (x5_1 < (l0.length : Int)) = false := decide_eq_false c4
     clear c4;obtain rfl := Option.some.inj H
     go_wp2
     repeat (go_quiet (fail); try go_wp2)
     go_ret
     exact ⟨by first | rfl | (simp; done) | (simp [*]; done), by repeat (first | exact Drawn0.refl _ | apply Drawn0.step)⟩
 ·rw [if_neg c3] at H
  have c3b0 : ((l0.length : Int) == (l1.length : Int)) = false := beq_eq_false_iff_ne.mpr c3
  have c3b1 : ((l0.length : Int) != (l1.length : Int)) = true := bne_iff_ne.mpr c3
  have c3b2 : (l0.length == l1.length) = false := by first | simpa using c3 | (simp at c3 ⊢; omega)
  obtain rfl := Option.some.inj H
  go_enter Tryz.func14, Tryz.ntmps14
  go_wp2
  repeat (go_quiet (fail); try go_wp2)
  go_ret
  exact ⟨by first | rfl | (simp; done) | (simp [*]; done), by repeat (first | exact Drawn0.refl _ | apply Drawn0.step)⟩
end Go.Proofs.YtaedlmeaconflaaGreat.P
end
section
set_option linter.unusedVariables false
set_option linter.unusedSimpArgs false
namespace Go.Proofs.YtaedlmeaconflaaGreat.P
open Go.RowKit Go.Proofs.YtaedlmeaconflaaGreatW.PrintWords Go.Proofs.YtaedlmeaconflaaGreatW.PrintLast Go.Proofs.YtaedlmeaconflaaGreatW.PrintMore
attribute [local go_sem] max2_int min2_int max_two min_two max_three min_three max_four min_four   -- for this text's walks alone
set_option linter.unusedVariables false
set_option linter.unusedSimpArgs false
attribute [local go_sem high] eqA41
end Go.Proofs.YtaedlmeaconflaaGreat.P
end
section
set_option linter.unusedVariables false
set_option linter.unusedSimpArgs false
namespace Go.Proofs.YtaedlmeaconflaaGreat.P
open Go.RowKit Go.Sort Go.Shelf Go.Proofs.YtaedlmeaconflaaGreatW.PrintWords Go.Proofs.YtaedlmeaconflaaGreatW.PrintLast Go.Proofs.YtaedlmeaconflaaGreatW.PrintMore
theorem less_f (a b c d : Int) : folkmootref01_Less.f a b c d = some (lessS ⟨c, d⟩ ⟨a, b⟩) := by
  have h := cmpS_lt ⟨a, b⟩ ⟨c, d⟩
  simp only at h
  unfold folkmootref01_Less.f lessS
  by_cases h1 : a < c
  · rw [if_pos h1, decide_eq_true (h.2 (.inl h1))]
  · rw [if_neg h1]
    by_cases h2 : a = c
    · rw [if_pos h2]
      refine congrArg some ?_
      rw [decide_eq_decide, h]; constructor
      · exact fun k => .inr ⟨h2, k⟩
      · rintro (k | k); exact absurd k h1; exact k.2
    · rw [if_neg h2, decide_eq_false]
      rw [h]; omega
theorem ev_same1 (a b : List S41) (hl : a.length = b.length) (hm : a.length ≤ 9223372036854775807) : ∀ m i : Nat, i + m = a.length → Ev (fun k => folkmootref01_Same.l0 k a b (i : Int)) (decide (a.drop i = b.drop i))
  | 0, i, h => by
    refine Ev.succ ?_;simp only [folkmootref01_Same.l0]
    rw [List.drop_eq_nil_of_le (show a.length ≤ i by omega), List.drop_eq_nil_of_le (show b.length ≤ i by omega)]
    exact Ev.no (by omega) (Ev.some _)
  | m + 1, i, h => by
    have hi : i < a.length := by omega
    have hj : i < b.length := by omega
    refine Ev.succ ?_;simp only [folkmootref01_Same.l0];refine Ev.yes (by omega) (Ev.yes (by omega) (Ev.yes (by omega) ?_))
    rw [rdS_nat a hi, rdS_nat b hj, w64_succ (by omega), List.drop_eq_getElem_cons hi, List.drop_eq_getElem_cons hj]
    have hb : (!(a[i].f0 == b[i].f0) || (!(a[i].f1 == b[i].f1))) = true ↔ a[i] ≠ b[i] := by
      rw [Ne, S_ext]; simp; omega
    refine Ev.cond (fun h => ?_) (fun h => ?_)
    · exact (Ev.some _).eq (decide_eq_false (fun e => hb.1 h (List.cons.inj e).1)).symm
    · refine (ev_same1 a b hl hm m (i + 1) (by omega)).eq ?_
      have e : a[i] = b[i] := Classical.byContradiction fun n => h (hb.2 n)
      rw [e]; simp only [List.cons.injEq, true_and]
theorem ev_sameS (a b : List S41) (hm : a.length ≤ 9223372036854775807) : Ev (fun k => folkmootref01_Same.f k a b) (decide (a = b)) := by
  unfold folkmootref01_Same.f
  refine Ev.cond (fun h => ?_) (fun h => ?_)
  · exact (ev_same1 a b (by omega) hm a.length 0 (by omega)).eq (by simp)
  · exact (Ev.some _).eq (decide_eq_false (fun e => h (by rw [e]))).symm
theorem ev_same6 (a b : List S26) (hl : a.length = b.length) (hm : a.length ≤ 9223372036854775807) (hk : ∀ x ∈ a, x.f1.length ≤ 9223372036854775807) : ∀ m i : Nat, i + m = a.length → Ev (fun k => folkmootref06_Same.l0 k a b (i : Int)) (decide (a.drop i = b.drop i))
  | 0, i, h => by
    refine Ev.succ ?_;simp only [folkmootref06_Same.l0]
    rw [List.drop_eq_nil_of_le (show a.length ≤ i by omega), List.drop_eq_nil_of_le (show b.length ≤ i by omega)]
    exact Ev.no (by omega) (Ev.some _)
  | m + 1, i, h => by
    have hi : i < a.length := by omega
    have hj : i < b.length := by omega
    refine Ev.succ ?_;simp only [folkmootref06_Same.l0];refine Ev.yes (by omega) (Ev.yes (by omega) (Ev.yes (by omega) ?_))
    rw [rdD_nat a hi, rdD_nat b hj, w64_succ (by omega), List.drop_eq_getElem_cons hi, List.drop_eq_getElem_cons hj]
    refine Ev.cond (fun h0 => ?_) (fun h0 => ?_)
    · refine Ev.bind (ev_sameS a[i].f1 b[i].f1 (hk _ (List.getElem_mem hi))) ?_;refine Ev.cond (fun h1 => ?_) (fun h1 => ?_)
      · refine (ev_same6 a b hl hm hk m (i + 1) (by omega)).eq ?_
        have e : a[i] = b[i] := D_eq h0 (of_decide_eq_true h1)
        rw [e]; simp only [List.cons.injEq, true_and]
      · exact (Ev.some _).eq (decide_eq_false (fun e => h1 (decide_eq_true (by rw [(List.cons.inj e).1])))).symm
    · exact (Ev.some _).eq (decide_eq_false (fun e => h0 (by rw [(List.cons.inj e).1]))).symm
theorem ev_sameD (a b : List S26) (hm : a.length ≤ 9223372036854775807) (hk : ∀ x ∈ a, x.f1.length ≤ 9223372036854775807) : Ev (fun k => folkmootref06_Same.f k a b) (decide (a = b)) := by
  unfold folkmootref06_Same.f
  refine Ev.cond (fun h => ?_) (fun h => ?_)
  · exact (ev_same6 a b (by omega) hm hk a.length 0 (by omega)).eq (by simp)
  · exact (Ev.some _).eq (decide_eq_false (fun e => h (by rw [e]))).symm
def allD (d : List S26) : List S41 := d.flatMap (·.f1)
theorem ev_all1 (d : List S26) (hd : d.length ≤ 9223372036854775807) (hm : (allD d).length < 8796093022208) : ∀ (m i : Nat), i + m = d.length → Ev (fun k => deps_All.l0 k (allD (d.take i)) d (d.length : Int) (i : Int)) (setS (allD d))
  | 0, i, h => by
    refine Ev.succ ?_;simp only [deps_All.l0]
    rw [List.take_of_length_le (show d.length ≤ i by omega)]
    refine Ev.no (by omega) (Ev.bind1 (r := setS (allD d)) ?_ (Ev.some _))
    unfold stamp_Sort.f
    rw [if_pos hm]
  | m + 1, i, h => by
    have hi : i < d.length := by omega
    refine Ev.succ ?_;simp only [deps_All.l0];refine Ev.yes (by omega) (Ev.yes (by omega) (Ev.yes (by omega) ?_))
    rw [rdD_nat d hi, w64_succ (by omega)]
    have e : allD (d.take i) ++ d[i].f1 = allD (d.take (i + 1)) := by
      rw [List.take_succ_eq_append_getElem hi]; unfold allD; rw [List.flatMap_append]; simp
    rw [e]
    refine Ev.yes ?_ (ev_all1 d hd hm m (i + 1) (by omega))
    rw [← List.length_append, e]
    have : (allD d).length = (allD (d.take (i + 1))).length + (allD (d.drop (i + 1))).length := by
      rw [← List.length_append]; unfold allD; rw [← List.flatMap_append, List.take_append_drop]
    omega
theorem ev_all (d : List S26) (hd : d.length ≤ 9223372036854775807) (hm : (allD d).length < 8796093022208) : Ev (fun k => deps_All.f k d) (setS (allD d)) := by
  unfold deps_All.f
  exact ev_all1 d hd hm d.length 0 (by omega)
def getD (d : List S26) (x : Int) : List S41 := ((d.find? fun y => decide (y.f0 = x)).map (·.f1)).getD []
def wsum (d : List S26) : Int := d.foldl (fun n x => wrap64 (n + (x.f1.length : Int))) 0
theorem foldl_take {d : List S26} {i : Nat} (hi : i < d.length) : wsum (d.take (i + 1)) = wrap64 (wsum (d.take i) + (d[i].f1.length : Int)) := by
  unfold wsum
  rw [List.take_succ_eq_append_getElem hi, List.foldl_append]; rfl
theorem asc_cons2 (x y : S41) (r : List S41) : Asc (x :: y :: r) ↔ cmpS x y < 0 ∧ Asc (y :: r) := by
  unfold Asc
  rw [List.pairwise_cons]
  constructor
  · rintro ⟨h, k⟩; exact ⟨h y (List.mem_cons_self ..), k⟩
  · rintro ⟨h, k⟩
    refine ⟨fun z hz => ?_, k⟩
    rcases List.mem_cons.1 hz with rfl | hz
    · exact h
    · exact cmpS_tr h ((List.pairwise_cons.1 k).1 z hz)
theorem ev_list1 (l : List S41) (hm : l.length ≤ 9223372036854775807) : ∀ (m i : Nat), i + 1 + m = l.length → Ev (fun k => folkmootref01_List.l0 k l ((i + 1 : Nat) : Int)) (decide (Asc (l.drop i)))
  | 0, i, h => by
    refine Ev.succ ?_;simp only [folkmootref01_List.l0];refine Ev.no (by omega) ((Ev.some _).eq ?_)
    rw [List.drop_eq_getElem_cons (show i < l.length by omega), List.drop_eq_nil_of_le (show l.length ≤ i + 1 by omega)]
    exact (decide_eq_true (List.pairwise_singleton _ _)).symm
  | m + 1, i, h => by
    have hi : i + 1 < l.length := by omega
    refine Ev.succ ?_;simp only [folkmootref01_List.l0]
    have e : wrap64 (((i + 1 : Nat) : Int) - 1) = (i : Int) := by rw [w64_of (by omega) (by omega)]; omega
    rw [e, rdS_nat l hi, rdS_nat l (show i < l.length by omega), w64_succ (by omega), less_f]
    refine Ev.yes (by omega) (Ev.yes (by omega) (Ev.yes (by omega) (Ev.yes (by omega) (Ev.bind1 rfl ?_))))
    rw [List.drop_eq_getElem_cons (show i < l.length by omega), List.drop_eq_getElem_cons hi]
    refine Ev.cond (fun h1 => ?_) (fun h1 => ?_)
    · refine (ev_list1 l hm m (i + 1) (by omega)).eq ?_
      rw [decide_eq_decide, asc_cons2, List.drop_eq_getElem_cons hi]
      exact ⟨fun k => ⟨of_decide_eq_true h1, k⟩, fun k => k.2⟩
    · refine (Ev.some _).eq (decide_eq_false (fun k => h1 (decide_eq_true ?_))).symm
      exact ((asc_cons2 _ _ _).1 k).1
theorem ev_list (l : List S41) (hm : l.length ≤ 9223372036854775807) : Ev (fun k => folkmootref01_List.f k l) (decide (Asc l)) := by
  unfold folkmootref01_List.f
  rcases l with _ | ⟨x, r⟩
  · refine Ev.succ ?_;simp only [folkmootref01_List.l0]
    exact Ev.no (by simp) ((Ev.some _).eq (decide_eq_true List.Pairwise.nil).symm)
  · exact ev_list1 (x :: r) hm r.length 0 (by simp; omega)
def isS (s : S41) : Bool := decide (1 ≤ s.f0 ∧ s.f0 ≤ 1099511627776 ∧ 1 ≤ s.f1 ∧ s.f1 ≤ 7)
theorem is_f (a b : Int) : folkmootref01_Is.f a b = some (isS ⟨a, b⟩) := by
  unfold folkmootref01_Is.f isS
  split
  · split
    · split
      · rw [decide_eq_decide.2]; simp only; omega
      · rw [decide_eq_false]; simp only; omega
    · rw [decide_eq_false]; simp only; omega
  · rw [decide_eq_false]; simp only; omega
def okAt (d : List S26) (i : Nat) : Prop := ∃ x, d[i]? = some x ∧ 0 ≤ x.f0 ∧ x.f0 < 8 ∧ (∀ y, 0 < i → d[i - 1]? = some y → y.f0 < x.f0) ∧ Asc x.f1 ∧ ∀ s ∈ x.f1, isS s = true
def tailOk (d : List S26) (i : Nat) : Prop := ∀ j, i ≤ j → j < d.length → okAt d j
open Classical in
noncomputable def r60 (p : Prop) : Int := if p then 0 else 60
theorem r60_yes {p : Prop} (h : p) : r60 p = 0 := by unfold r60; rw [if_pos h]
theorem r60_no {p : Prop} (h : ¬ p) : r60 p = 60 := by unfold r60; rw [if_neg h]
theorem r60_eq {p q : Prop} (h : p ↔ q) : r60 p = r60 q := by rw [propext h]
theorem r60_zero {p : Prop} (h : r60 p = 0) : p := by
  unfold r60 at h
  split at h
  · assumption
  · cases h
theorem tailOk_step {d : List S26} {i : Nat} (hi : i < d.length) : tailOk d i ↔ okAt d i ∧ tailOk d (i + 1) :=
  ⟨fun h => ⟨h i (Nat.le_refl _) hi, fun j h1 h2 => h j (by omega) h2⟩, fun ⟨h, k⟩ j h1 h2 => by
    rcases Nat.eq_or_lt_of_le h1 with rfl | h3
    · exact h
    · exact k j h3 h2⟩
noncomputable def chkD (d : List S26) : Int := if 8 < d.length ∨ 512 < wsum d then 6 else r60 (tailOk d 0)
theorem ev_l2 (d : List S26) (hk : ∀ x ∈ d, x.f1.length ≤ 9223372036854775807) (hd : d.length ≤ 9223372036854775807) (i : Nat) (hi : i < d.length) (p : Prop) (hn : Ev (fun k => folkmootref06_Check.l1 k d ((i + 1 : Nat) : Int)) (r60 p)) :
    ∀ (m j : Nat), j + m = d[i].f1.length → Ev (fun k => folkmootref06_Check.l2 k d (i : Int) (j : Int)) (r60 ((∀ s ∈ d[i].f1.drop j, isS s = true) ∧ p))
  | 0, j, h => by
    refine Ev.succ ?_;simp only [folkmootref06_Check.l2]
    rw [rdD_nat d hi, w64_succ (n := i) (by omega)]
    refine Ev.yes (by omega) (Ev.yes (by omega) (Ev.no (by omega) (hn.eq (r60_eq ?_))))
    rw [List.drop_eq_nil_of_le (show d[i].f1.length ≤ j by omega)]
    simp
  | m + 1, j, h => by
    have hj : j < d[i].f1.length := by omega
    have hl := hk _ (List.getElem_mem hi)
    refine Ev.succ ?_;simp only [folkmootref06_Check.l2]
    rw [rdD_nat d hi, rdS_nat _ hj, is_f, w64_succ (n := j) (by omega)]
    refine Ev.yes (by omega) (Ev.yes (by omega) (Ev.yes (by omega) (Ev.yes (by omega) (Ev.bind1 rfl ?_))))
    rw [List.drop_eq_getElem_cons hj]
    refine Ev.cond (fun h1 => ?_) (fun h1 => ?_)
    · refine (ev_l2 d hk hd i hi p hn m (j + 1) (by omega)).eq (r60_eq ?_);simp only [List.mem_cons, forall_eq_or_imp]
      exact ⟨fun k => ⟨⟨h1, k.1⟩, k.2⟩, fun k => ⟨k.1.2, k.2⟩⟩
    · exact (Ev.some _).eq (r60_no (fun k => h1 (k.1 _ (List.mem_cons_self ..)))).symm
theorem ev_l1 (d : List S26) (hk : ∀ x ∈ d, x.f1.length ≤ 9223372036854775807) (hd : d.length ≤ 9223372036854775807) : ∀ (m i : Nat), i + m = d.length → Ev (fun k => folkmootref06_Check.l1 k d (i : Int)) (r60 (tailOk d i))
  | 0, i, h => by
    refine Ev.succ ?_;simp only [folkmootref06_Check.l1]
    exact Ev.no (by omega) ((Ev.some _).eq (r60_yes (fun j h1 h2 => by omega)).symm)
  | m + 1, i, h => by
    have hi : i < d.length := by omega
    have hn := ev_l1 d hk hd m (i + 1) (by omega)
    have h2 := ev_l2 d hk hd i hi _ hn d[i].f1.length 0 (by omega)
    have hg : d[i]? = some d[i] := List.getElem?_eq_getElem hi
    have hbad : ¬ okAt d i → Ev (fun k => folkmootref06_Check.j3 k d (i : Int) true) (r60 (tailOk d i)) := fun hb => by
      refine Ev.succ ?_;simp only [folkmootref06_Check.j3]
      exact Ev.yes trivial ((Ev.some _).eq (r60_no (fun k => hb ((tailOk_step hi).1 k).1)).symm)
    have hx : ∀ x, d[i]? = some x → x = d[i] := fun x e => by rw [hg] at e; exact (Option.some.inj e).symm
    have hlist : (∀ y, 0 < i → d[i - 1]? = some y → y.f0 < d[i].f0) → 0 ≤ d[i].f0 → d[i].f0 < 8 → Ev (fun k => (folkmootref01_List.f k d[i].f1).bind fun t => folkmootref06_Check.j3 k d (i : Int) (!t)) (r60 (tailOk d i)) := fun hp h0 h8 => by
      refine Ev.bind (ev_list _ (hk _ (List.getElem_mem hi))) ?_
      by_cases ha : Asc d[i].f1
      · rw [decide_eq_true ha]
        refine Ev.succ ?_;simp only [folkmootref06_Check.j3];refine Ev.no (by decide) (h2.eq (r60_eq ?_))
        rw [tailOk_step hi]
        simp only [List.drop_zero];constructor
        · exact fun k => ⟨⟨_, hg, h0, h8, hp, ha, k.1⟩, k.2⟩
        · rintro ⟨⟨x, e, _, _, _, _, k⟩, k2⟩
          rw [hx x e] at k
          exact ⟨k, k2⟩
      · rw [decide_eq_false ha]
        refine hbad ?_
        rintro ⟨x, e, _, _, _, k, _⟩
        rw [hx x e] at k
        exact ha k
    refine Ev.succ ?_;simp only [folkmootref06_Check.l1]
    rw [rdD_nat d hi]
    refine Ev.yes (by omega) (Ev.yes (by omega) ?_);refine Ev.cond (fun h1 => hbad ?_) (fun h1 => ?_)
    · rintro ⟨x, e, k, _⟩
      rw [hx x e] at k
      omega
    refine Ev.cond (fun h3 => hbad ?_) (fun h3 => ?_)
    · rintro ⟨x, e, _, k, _⟩
      rw [hx x e] at k
      omega
    refine Ev.cond (fun h4 => ?_) (fun h4 => ?_)
    · have e : wrap64 ((i : Int) - 1) = ((i - 1 : Nat) : Int) := by rw [w64_of (by omega) (by omega)]; omega
      have hi' : i - 1 < d.length := by omega
      rw [e, rdD_nat d hi']
      refine Ev.yes (by omega) (Ev.yes (by omega) ?_);refine Ev.cond (fun h5 => hbad ?_) (fun h5 => hlist ?_ (by omega) (by omega))
      · rintro ⟨x, e, _, _, k, _⟩
        rw [hx x e] at k
        have := k _ (by omega) (List.getElem?_eq_getElem hi')
        omega
      · intro y _ hy
        rw [List.getElem?_eq_getElem hi'] at hy
        rw [← Option.some.inj hy]
        omega
    · exact hlist (fun y hy _ => absurd hy (by omega)) (by omega) (by omega)
theorem ev_sum (d : List S26) (hd : d.length ≤ 9223372036854775807) (r : Int) (hr : Ev (fun k => if (d.length : Int) > 8 then (folkmootref06_Check.j1 k d true) else (folkmootref06_Check.j1 k d (decide (wsum d > 512)))) r) : ∀ (m i : Nat), i + m = d.length → Ev (fun k => folkmootref06_Check.l0 k d (wsum (d.take i)) (i : Int)) r
  | 0, i, h => by
    refine Ev.succ ?_;simp only [folkmootref06_Check.l0]
    rw [List.take_of_length_le (show d.length ≤ i by omega)]
    exact Ev.no (by omega) hr
  | m + 1, i, h => by
    have hi : i < d.length := by omega
    refine Ev.succ ?_;simp only [folkmootref06_Check.l0];refine Ev.yes (by omega) (Ev.yes (by omega) ?_)
    rw [rdD_nat d hi, w64_succ (by omega), ← foldl_take hi]
    exact ev_sum d hd r hr m (i + 1) (by omega)
theorem ev_check6 (d : List S26) (hk : ∀ x ∈ d, x.f1.length ≤ 9223372036854775807) (hd : d.length ≤ 9223372036854775807) : Ev (fun k => folkmootref06_Check.f k d) (chkD d) := by
  unfold folkmootref06_Check.f
  have hbig : (8 < d.length ∨ 512 < wsum d) → Ev (fun k => folkmootref06_Check.j1 k d true) (chkD d) := fun h => by
    refine Ev.succ ?_;simp only [folkmootref06_Check.j1]
    exact Ev.yes trivial ((Ev.some _).eq (by unfold chkD; rw [if_pos h]))
  refine ev_sum d hd _ ?_ d.length 0 (by omega);refine Ev.cond (fun h => hbig (.inl (by omega))) (fun h => ?_)
  by_cases h5 : wsum d > 512
  · rw [decide_eq_true h5]; exact hbig (.inr h5)
  · rw [decide_eq_false h5]
    refine Ev.succ ?_;simp only [folkmootref06_Check.j1];refine Ev.no (by decide) ((ev_l1 d hk hd d.length 0 (by omega)).eq ?_)
    unfold chkD
    rw [if_neg (by omega)]
theorem rise_len : ∀ (l : List Int) (lo B : Int), lo ≤ B → l.Pairwise (· < ·) → (∀ x ∈ l, lo ≤ x ∧ x < B) → lo + l.length ≤ B
  | [], lo, B, h, _, _ => by simpa using h
  | x :: r, lo, B, _, hp, hb => by
    have hx := hb x (List.mem_cons_self ..)
    have hp' := List.pairwise_cons.1 hp
    have := rise_len r (x + 1) B (by omega) hp'.2 (fun y hy => ⟨by have := hp'.1 y hy; omega, (hb y (List.mem_cons_of_mem _ hy)).2⟩)
    simp only [List.length_cons]
    omega
theorem asc_len {l : List S41} (ha : Asc l) (hs : ∀ s ∈ l, isS s = true) : l.length ≤ 7696581394432 := by
  have := rise_len (l.map fun s => (s.f0 - 1) * 7 + (s.f1 - 1)) 0 7696581394432 (by omega) (by
    rw [List.pairwise_map]
    refine List.Pairwise.imp_of_mem (fun {a b} h1 h2 hab => ?_) ha
    have k1 := of_decide_eq_true (hs a h1)
    have k2 := of_decide_eq_true (hs b h2)
    have k3 := (cmpS_lt a b).1 hab
    omega) (fun x hx => by
    obtain ⟨s, h, rfl⟩ := List.mem_map.1 hx
    have k1 := of_decide_eq_true (hs s h)
    omega)
  rw [List.length_map] at this
  omega
structure Good (d : List S26) (n : Nat) : Prop extends DpOk d where
  len : d.length ≤ 8
  is : ∀ x ∈ d, ∀ s ∈ x.f1, isS s = true
  all : (allD d).length ≤ n
theorem adj_rise {d : List S26} (h : ∀ i, (hi : i + 1 < d.length) → (d[i]'(by omega)).f0 < d[i + 1].f0) : d.Pairwise fun x y => x.f0 < y.f0 := by
  rw [List.pairwise_iff_getElem]
  intro i j hi hj hij
  induction j with
  | zero => omega
  | succ j ih =>
    have h1 := h j hj
    rcases Nat.eq_or_lt_of_le (Nat.le_of_lt_succ hij) with e | e
    · subst e; exact h1
    · have := ih (by omega) e; omega
theorem wsum_eq : ∀ (d : List S26) (n : Int), 0 ≤ n → n + ((allD d).length : Int) < 9223372036854775808 → d.foldl (fun n x => wrap64 (n + (x.f1.length : Int))) n = n + ((allD d).length : Int)
  | [], n, _, _ => by simp [allD]
  | x :: d, n, h0, h => by
    have e : (allD (x :: d)).length = x.f1.length + (allD d).length := by unfold allD; rw [List.flatMap_cons, List.length_append]
    rw [e] at h ⊢
    rw [List.foldl_cons, w64_of (by omega) (by omega), wsum_eq d _ (by omega) (by omega)]
    omega
theorem allD_le : ∀ (d : List S26) (m : Nat), (∀ x ∈ d, x.f1.length ≤ m) → (allD d).length ≤ d.length * m
  | [], m, _ => by simp [allD]
  | x :: d, m, h => by
    have e : (allD (x :: d)).length = x.f1.length + (allD d).length := by unfold allD; rw [List.flatMap_cons, List.length_append]
    have h1 := h x (List.mem_cons_self ..)
    have h2 := allD_le d m (fun y hy => h y (List.mem_cons_of_mem _ hy))
    rw [e, List.length_cons, Nat.succ_mul]
    omega
theorem good_of {d : List S26} (hc : chkD d = 0) : Good d 512 ∧ wsum d = ((allD d).length : Int) := by
  unfold chkD at hc
  split at hc
  · cases hc
  · rename_i hn
    have ht := r60_zero hc
    have ho : ∀ (i : Nat) (hi : i < d.length), 0 ≤ d[i].f0 ∧ d[i].f0 < 8 ∧ (∀ y, 0 < i → d[i - 1]? = some y → y.f0 < d[i].f0) ∧ Asc d[i].f1 ∧ ∀ s ∈ d[i].f1, isS s = true := fun i hi => by
      obtain ⟨x, e, h⟩ := ht i (Nat.zero_le _) hi
      rw [List.getElem?_eq_getElem hi] at e
      rw [Option.some.inj e]; exact h
    have hm : ∀ x ∈ d, 0 ≤ x.f0 ∧ x.f0 < 8 ∧ Asc x.f1 ∧ ∀ s ∈ x.f1, isS s = true := fun x hx => by
      obtain ⟨i, hi, rfl⟩ := List.mem_iff_getElem.1 hx
      obtain ⟨h1, h2, _, h3, h4⟩ := ho i hi
      exact ⟨h1, h2, h3, h4⟩
    have hl := allD_le d 7696581394432 (fun x hx => asc_len (hm x hx).2.2.1 (hm x hx).2.2.2)
    have hw : wsum d = ((allD d).length : Int) := by
      have := wsum_eq d 0 (by omega) (by omega)
      unfold wsum
      omega
    exact ⟨⟨⟨adj_rise fun i hi => (ho (i + 1) hi).2.2.1 _ (by omega) (List.getElem?_eq_getElem (by omega)), fun x hx => ⟨(hm x hx).1, (hm x hx).2.1⟩, fun x hx => (hm x hx).2.2.1⟩, by omega, fun x hx => (hm x hx).2.2.2, by omega⟩, hw⟩
theorem Good.mono {d : List S26} {n m : Nat} (h : Good d n) (k : (allD d).length ≤ m) : Good d m := ⟨h.toDpOk, h.len, h.is, k⟩
theorem len_allD {d : List S26} {x : S26} (h : x ∈ d) : x.f1.length ≤ (allD d).length := by
  obtain ⟨a, b, rfl⟩ := List.append_of_mem h
  unfold allD
  rw [List.flatMap_append, List.flatMap_cons, List.length_append, List.length_append]
  omega
end Go.Proofs.YtaedlmeaconflaaGreat.P
end
section
set_option linter.unusedVariables false
set_option linter.unusedSimpArgs false
namespace Go.Proofs.YtaedlmeaconflaaGreat.P
open Go.RowKit Go.Proofs.YtaedlmeaconflaaGreatW.PrintWords Go.Proofs.YtaedlmeaconflaaGreatW.PrintLast Go.Proofs.YtaedlmeaconflaaGreatW.PrintMore
structure EyeIs (w : World) (g ab : Nat) (xs : List Int) (bl : Bool) : Prop where
  ne : ab ≠ g ∨ xs = []
  old : ab < w.heap.size
  ex : ∃ A c, Blk w g 103 #[.slice A xs.length c, .bool bl] ∧ xs.length ≤ c ∧ Kd.F (Kd.int .u8) w (· = ab) A xs.length xs
theorem F_zero {w : World} {ok : Nat → Prop} (A : Option Addr) : Kd.F (Kd.int .u8) w ok A 0 [] := fun _ _ => ⟨rfl, by decide, fun h => absurd h (by decide)⟩
theorem rep23 : Array.replicate 23 undef = #[undef, undef, undef, undef, undef, undef, undef, undef, undef, undef, undef, undef, undef, undef, undef, undef, undef, undef, undef, undef, undef, undef, undef] := rfl
theorem sight_assert (w : World) : (Instr.typeAssert (.iface 131 (.agg #[])) 20 131 true).run Tryz.prog w = .ok (.tuple #[.agg #[], .bool true]) w := by kernel_rfl
structure Caught (w w' : World) (g bx : Nat) (was : Value) (z : Value) (tX : TypeId) : Prop where
  upd : Upd w w' (fun k => k = g ∨ k = bx)
  eye : Blk w' g 103 #[was, .bool true]
  res : Blk w' bx tX #[z]
section
variable {w w' : World} {g ab : Nat} {xs : List Int} {bl : Bool}
theorem EyeIs.upd {S : Nat → Prop} (h : EyeIs w g ab xs bl) (hu : Upd w w' S) (hg : ¬ S g) (ha : ¬ S ab) : EyeIs w' g ab xs bl := by
  obtain ⟨A, c, hB, hc, hF⟩ := h.ex
  exact ⟨h.ne, Nat.lt_of_lt_of_le h.old hu.size, A, c, hB.upd hu hg, hc, Kd.F_step hF (fun k hk hlt => hu.block k hlt (hk ▸ ha))⟩
theorem EyeIs.below (h : EyeIs w g ab xs bl) (hb : Below w.heap.size w w') : EyeIs w' g ab xs bl := h.upd (Upd.of_below hb (fun _ => False)) (fun h => h) (fun h => h)
theorem EyeIs.lt (h : EyeIs w g ab xs bl) : g < w.heap.size := by obtain ⟨A, c, hB, _⟩ := h.ex; exact hB.lt
def sightP : List PanicEntry := [{ v := .iface 131 (.agg #[]), recovered := false }]
theorem must_true (w : World) : Calls Tryz.prog 81 #[.bool true] w fun e w' => e = .returned (.tuple #[]) ∧ w' = w := by
  go_enter Tryz.func81, Tryz.ntmps81
  go_wp2
  (try simp only [Exit.inBlock, Exit.then]); refine bodyPost_end (results_none rfl _ _ _) rfl ?_
  exact ⟨rfl, rfl⟩
theorem must_false (w : World) : Calls Tryz.prog 81 #[.bool false] w fun e w' => e = .panicked sightP ∧ w' = w := by
  go_enter Tryz.func81, Tryz.ntmps81
  go_wp2
  exact ⟨rfl, rfl, rfl⟩
theorem C_of_int {W : World} {A : Option Addr} {n : Nat} {xs : List Int} (h : ReadsInt W .u8 A n xs) : Kd.C (Kd.int .u8) W A n xs := Kd.C_of_reads (d := (0 : Int)) (readsInt_of.1 h)
theorem reads_F {A : Option Addr} {n : Nat} {ys : List Int} {ok : Nat → Prop} (h : Kd.F (Kd.int .u8) w ok A n ys) : ReadsInt w .u8 A n ys := readsInt_of.2 (Kd.reads_of_C (d := (0 : Int)) (Kd.F_now h))
theorem F_reads {A A' : Option Addr} {n n' : Nat} {ys ys' : List Int} {ok : Nat → Prop} (h : Kd.F (Kd.int .u8) w ok A n ys) (hi : ∀ W, ReadsInt W .u8 A n ys → ReadsInt W .u8 A' n' ys') : Kd.F (Kd.int .u8) w ok A' n' ys' :=
  Kd.F_imp h (fun W hC => C_of_int (hi W (readsInt_of.2 (Kd.reads_of_C (d := (0 : Int)) hC))))
theorem take_done {A : Option Addr} {n c n2 c2 : Nat} (hB : Blk w g 103 #[.slice A xs.length c, .bool bl]) (hne : ab ≠ g ∨ xs = []) (hold : ab < w.heap.size) (hF : Kd.F (Kd.int .u8) w (· = ab) A xs.length xs) (hn : n ≤ xs.length) (hc : xs.length ≤ c) (h2 : n2 = xs.length - n) (hc2 : c2 = c - n) {A2 : Option Addr} (hA2 : A2 = if c = n then A else A.map (·.add n)) :
    Kd.F (Kd.int .u8) (w.setCell ⟨g, 0, none⟩ (.slice A2 n2 c2)) (· = ab) A n (xs.take n) ∧ EyeIs (w.setCell ⟨g, 0, none⟩ (.slice A2 n2 c2)) g ab (xs.drop n) bl ∧ Upd w (w.setCell ⟨g, 0, none⟩ (.slice A2 n2 c2)) (· = g) := by
  have hu : Upd w (w.setCell ⟨g, 0, none⟩ (.slice A2 n2 c2)) (· = g) := (Upd.refl w (· = g)).setCell (p := ⟨g, 0, none⟩) (.inl rfl) _
  have hF' : Kd.F (Kd.int .u8) (w.setCell ⟨g, 0, none⟩ (.slice A2 n2 c2)) (· = ab) A xs.length xs := by
    rcases hne with hne | rfl
    · exact Kd.F_step hF (fun k hk hlt => hu.block k hlt (fun e => hne (hk ▸ e)))
    · exact F_zero A
  have hl : n2 = (xs.drop n).length := by rw [List.length_drop]; exact h2
  refine ⟨F_reads hF' (fun W h => h.take_ n hn), ⟨hne.imp id (fun h => by rw [h, List.drop_nil]), Nat.lt_of_lt_of_le hold hu.size, A2, c2, ?_, by rw [← hl]; omega, ?_⟩, hu⟩
  · have := hB.set_ 0 (.slice A2 n2 c2)
    rw [hl] at this ⊢
    exact this
  · rw [← hl, hA2, h2]
    rw [hA2, h2] at hF'
    exact F_reads hF' (fun W h => h.drop_ n hn hc)
theorem take_short (h : EyeIs w g ab xs bl) (n : Int) (hn : (xs.length : Int) < n) : Calls Tryz.prog 105 #[ptr g, .int .i64 n] w fun e w' => e = .panicked sightP ∧ w' = w := by
  obtain ⟨A, c, hB, hc, hF⟩ := h.ex
  have hc0 : w.cell? ⟨g, 0, none⟩ = some (.slice A xs.length c) := hB.cell 0
  have d1 : decide (n ≤ (xs.length : Int)) = false := decide_eq_false (by omega)
  clear h hB hF
  go_enter Tryz.func105, Tryz.ntmps105
  go_wp2_with fail
  refine (must_false w).mono ?_
  rintro e w1 ⟨rfl, rfl⟩
  go_wp2_with fail
  exact ⟨rfl, rfl, rfl⟩
theorem take_ok (h : EyeIs w g ab xs bl) (n : Nat) (hn : n ≤ xs.length) : Calls Tryz.prog 105 #[ptr g, .int .i64 (n : Int)] w fun e w' => ∃ A1 c1, e = .returned (.slice A1 n c1) ∧ n ≤ c1 ∧ Kd.F (Kd.int .u8) w' (· = ab) A1 n (xs.take n) ∧ EyeIs w' g ab (xs.drop n) bl ∧ Upd w w' (· = g) := by
  obtain ⟨A, c, hB, hc, hF⟩ := h.ex
  have hne := h.ne; have hold := h.old
  have hm := (reads_F hF).2.1
  have hc0 : w.cell? ⟨g, 0, none⟩ = some (.slice A xs.length c) := hB.cell 0
  have hfz := hB.frozen 0
  have d1 : decide ((n : Int) ≤ (xs.length : Int)) = true := decide_eq_true (by omega)
  have hnc : n ≤ c := by omega
  have hu : ∀ v : Value, Upd w (w.setCell ⟨g, 0, none⟩ v) (· = g) := fun v => (Upd.refl w (· = g)).setCell (p := ⟨g, 0, none⟩) (.inl rfl) v
  have HB := Lib.hid hB; have HF := Lib.hid hF; have HU := Lib.hid hu; have HNE := Lib.hid hne; have HC := Lib.hid hc; have HOL := Lib.hid hold
  clear h hB hF hu hne hold
  go_enter Tryz.func105, Tryz.ntmps105
  go_wp2_with fail
  refine (must_true w).mono ?_
  rintro e w1 ⟨rfl, rfl⟩
  by_cases hcn : c = n
  · have hD := take_done (n := n) (n2 := 0) (c2 := 0) HB.out HNE.out HOL.out HF.out hn HC.out (by omega) (by omega) (A2 := A) (by rw [if_pos hcn])
    have HD := Lib.hid hD; clear hD
    subst hcn
    go_wp2
    go_ret
    exact ⟨A, c, rfl, Nat.le_refl _, HD.out⟩
  · have hD := take_done (n := n) (n2 := xs.length - n) (c2 := c - n) HB.out HNE.out HOL.out HF.out hn HC.out rfl rfl (A2 := A.map (·.add n)) (by rw [if_neg hcn])
    have HD := Lib.hid hD; clear hD
    go_wp2
    go_ret
    exact ⟨A, c, rfl, hnc, HD.out⟩
def numOf (xs : List Int) (many : Nat) : Nat := leNum (xs.take many)
theorem number_short (h : EyeIs w g ab xs bl) (n : Nat) (hn : xs.length < n) : Calls Tryz.prog 78 #[ptr g, .int .i64 (n : Int)] w fun e w' => e = .panicked sightP ∧ w' = w := by
  have ht := take_short h (n : Int) (by omega)
  have HT := Lib.hid ht
  clear h ht
  go_enter Tryz.func78, Tryz.ntmps78
  go_wp2_with fail
  refine HT.out.mono ?_
  rintro e w1 ⟨rfl, rfl⟩
  go_wp2_with fail
  exact ⟨rfl, rfl, rfl⟩
def NumA (w1 : World) (ys : List Int) (nv kv : Value) (wr : World) : Prop := ∃ k : Nat, kv = .int .i64 k ∧ k ≤ ys.length ∧ nv = .int .u64 (leNum (ys.take k) : Nat) ∧ wr = w1
theorem number_ok (h : EyeIs w g ab xs bl) (hx : bytesOk xs) (n : Nat) (hn : n ≤ xs.length) (h8 : n ≤ 8) : Calls Tryz.prog 78 #[ptr g, .int .i64 (n : Int)] w fun e w' => e = .returned (.int .u64 (numOf xs n : Nat)) ∧ EyeIs w' g ab (xs.drop n) bl ∧ Upd w w' (· = g) := by
  have ht := take_ok h n hn
  have HT := Lib.hid ht
  clear h ht
  go_enter Tryz.func78, Tryz.ntmps78
  go_wp2_with fail
  refine HT.out.mono ?_
  rintro e w1 ⟨A1, c1, rfl, hc1, hF1, hE1, hu1⟩
  have HR := Lib.hid (reads_F hF1)
  have HE := Lib.hid (And.intro hE1 hu1)
  have hyl : (xs.take n).length = n := by rw [List.length_take]; omega
  have hyb : bytesOk (xs.take n) := fun x hx' => hx x (List.mem_of_mem_take hx')
  obtain ⟨ys, hys⟩ : ∃ ys, xs.take n = ys := ⟨_, rfl⟩
  rw [hys] at HR hyl hyb
  have HYB := Lib.hid hyb
  have HYS := Lib.hid (show numOf xs n = leNum ys by unfold numOf; rw [hys])
  clear hF1 hE1 hu1 hx hys hyb HT;subst hyl
  go_wp2
  go_loopw [4, 5, 6, 11] (fun nv _ _ kv wr => NumA w1 ys nv kv wr) (fun _ _ _ k _ => ys.length - (intOf k).toNat)
  case atStart => exact ⟨0, rfl, Nat.zero_le _, rfl, rfl⟩
  case round =>
    obtain ⟨k, rfl, hk, rfl, hw⟩ := hrel
    replace hw := hw.symm
    subst hw
    by_cases hlt : k < ys.length
    · obtain ⟨ad, hA, hcell⟩ := HR.out.at_ (k : Int) (by omega) (by omega)
      subst hA
      rw [rd_nat ys hlt] at hcell
      simp only [Int.toNat_natCast] at hcell
      have hb := HYB.out ys[k] (List.getElem_mem hlt)
      obtain ⟨b, hbe⟩ : ∃ b : Nat, ys[k] = b := ⟨ys[k].toNat, by omega⟩
      have hsn := leNum_snoc (ys.take k) ys[k]
      rw [← List.take_succ_eq_append_getElem hlt, List.length_take, Nat.min_eq_left (by omega), hbe, Int.toNat_natCast] at hsn
      have hlt2 := leNum_lt (ys.take k) (fun x hx => HYB.out x (List.mem_of_mem_take hx))
      rw [List.length_take, Nat.min_eq_left (by omega)] at hlt2
      have hj := or_join (k := k) (acc := leNum (ys.take k)) (b := b) (by omega) hlt2 (by omega)
      rw [hbe] at hcell
      have HJ := Lib.hid hj; have HSN := Lib.hid hsn
      clear hb hbe hsn hlt2 hj
      go_wp2
      go_roundw
      case rel => exact ⟨k + 1, by go_num, by omega, by rw [HSN.out, HJ.out], rfl⟩
      case measure => simp [intOf]; omega
    · obtain rfl : k = ys.length := by omega
      rw [List.take_length]
      go_wp2
      go_ret
      refine ⟨?_, HE.out⟩
      rw [HYS.out]
      rfl
end
end Go.Proofs.YtaedlmeaconflaaGreat.P
end
section
set_option linter.unusedVariables false
set_option linter.unusedSimpArgs false
namespace Go.Proofs.YtaedlmeaconflaaGreat.P
open Go.RowKit Go.Proofs.YtaedlmeaconflaaGreatW.PrintWords Go.Proofs.YtaedlmeaconflaaGreatW.PrintLast Go.Proofs.YtaedlmeaconflaaGreatW.PrintMore
theorem rowS_lower {w : World} {b b' : Nat} {v : Value} {xs : List S41} (h : RowS w b v xs) (hb : b' ≤ b) : RowS w b' v xs :=
  ⟨h.1, h.2.imp id fun ⟨g, cap, cur, h1, h2, h3⟩ => ⟨g, cap, cur, h1, Nat.le_trans hb h2, h3⟩⟩
section
variable {w : World} {g ab : Nat} {xs xs' : List Int} {A : Option Addr} {n c : Nat} {x : Value} {v0 : Value} {older : List PanicEntry}
theorem seeS_blind (h : EyeIs w g ab xs true) (f : Fn) (fi ca : Array Value) : Calls Tryz.prog 79 #[ptr g, .func f fi ca] w fun e w' => e = .returned (.slice none 0 0) ∧ Below w.heap.size w w' := by
  obtain ⟨A, c, hB, hc, hF⟩ := h.ex
  have hc1 : w.cell? ⟨g, 1, none⟩ = some (.bool true) := hB.cell 1
  obtain ⟨w1, hw1⟩ : ∃ w1, (w.alloc (.cells #[ptr g] 63)).alloc (.cells #[.slice none 0 0] 24) = w1 := ⟨_, rfl⟩
  have hb1 : Below w.heap.size w w1 := hw1 ▸ ((Below.refl _ _).alloc (Nat.le_refl _) _).alloc (by simp) _
  have h0 : w1.cell? ⟨w.heap.size, 0, none⟩ = some (ptr g) := hw1 ▸ ((Blk.new w 63 #[ptr g]).alloc _).cell 0
  have hx : Blk w1 (w.heap.size + 1) 24 #[.slice none 0 0] := by
    have := Blk.new (w.alloc (.cells #[ptr g] 63)) 24 #[.slice none 0 0]
    rw [hw1] at this
    simpa using this
  have hx0 : w1.cell? ⟨w.heap.size + 1, 0, none⟩ = some (.slice none 0 0) := hx.cell 0
  have hxz := hx.frozen 0
  have hc1' := pw_cell_below hb1 hc1
  have HX := Lib.hid hx
  clear h hB hF hx
  go_enter_defers Tryz.func79, Tryz.ntmps79
  go_wp2
  have hxs : (w1.setCell ⟨w.heap.size + 1, 0, none⟩ (.slice none 0 0)).cell? ⟨w.heap.size + 1, 0, none⟩ = some (.slice none 0 0) := (HX.out.set_ 0 (.slice none 0 0)).cell 0
  simp [bodyPostD, Leaves, results, Tryz.results79, go_sem, hxs]
  exact hb1.setCell (p := ⟨w.heap.size + 1, 0, none⟩) (Nat.le_succ _) _
theorem seeS1_idle (bw bx be : Nat) (w : World) : CallsD Tryz.prog 106 #[ptr bw, ptr bx, ptr be] .returning w fun e u' w' => e = .returned (.tuple #[]) ∧ u' = .returning ∧ w' = w := by
  refine callsD_of_wpS Tryz.func106 rfl fun c₀ cs hu => ?_
  apply wpS_seq
  apply wpS_region
  simp [wpOpsS, go_sem, recoverD, hu, Tryz.ntmps106, Exit.thenS]
  apply wpS_seq
  apply wpS_region
  simp [wpOpsS, go_sem, Exit.thenS]
  refine wpS_cond (t := false) (by simp [Act.eval, Array.replicate]) ?_;simp only [Bool.false_eq_true, if_false];refine wpS_of_wp (wp_skip ?_)
  cases c₀
  simp_all [bodyPostS, results, Tryz.results106]
set_option maxRecDepth 100000 in
theorem seeS1_catch (bw bx be : Nat) (w : World) (hw : w.cell? ⟨bw, 0, none⟩ = some (.slice A n c)) (hx : Blk w bx 24 #[x]) (he : w.cell? ⟨be, 0, none⟩ = some (ptr g)) (hg : Blk w g 103 #[v0, .bool false]) :
    CallsD Tryz.prog 106 #[ptr bw, ptr bx, ptr be] (.panicking ({ v := .iface 131 (.agg #[]), recovered := false } :: older)) w fun e u' w' => e = .returned (.tuple #[]) ∧ u' = .panicking ({ v := .iface 131 (.agg #[]), recovered := true } :: older) ∧ Caught w w' g bx (.slice A n c) (.slice none 0 0) 24 := by
  have hgx : g ≠ bx := hg.ne_ hx (by decide)
  refine callsD_of_wpS Tryz.func106 rfl fun c₀ cs hu => ?_
  apply wpS_seq
  apply wpS_region
  simp [wpOpsS, go_sem, recoverD, hu, Tryz.ntmps106, Exit.thenS, rep23]
  apply wpS_seq
  apply wpS_region
  simp [wpOpsS, go_sem, Exit.thenS]
  refine wpS_cond (t := true) (by simp [Act.eval, Array.replicate]) ?_;simp only [if_true];refine wpS_of_wp ?_
  obtain ⟨w1, hw1⟩ : ∃ w1, w.alloc (.cells #[] 131) = w1 := ⟨_, rfl⟩
  have hb1 : Below w.heap.size w w1 := hw1 ▸ (Below.refl _ _).alloc (Nat.le_refl _) _
  have hw' := pw_cell_below hb1 hw
  have he' := pw_cell_below hb1 he
  have hx1 := hx.below hb1 hx.lt
  have hg1 := hg.below hb1 hg.lt
  obtain ⟨w2, hw2⟩ : ∃ w2, w1.setCell ⟨bx, 0, none⟩ (.slice none 0 0) = w2 := ⟨_, rfl⟩
  have hu2 : Upd w1 w2 (· = bx) := hw2 ▸ (Upd.refl w1 (· = bx)).setCell (p := ⟨bx, 0, none⟩) (.inl rfl) _
  have hx2 : Blk w2 bx 24 #[.slice none 0 0] := hw2 ▸ hx1.set_ 0 (.slice none 0 0)
  have hg2 := hg1.upd hu2 hgx
  obtain ⟨w3, hw3⟩ : ∃ w3, w2.setCell ⟨g, 0, none⟩ (.slice A n c) = w3 := ⟨_, rfl⟩
  have hu3 : Upd w2 w3 (· = g) := hw3 ▸ (Upd.refl w2 (· = g)).setCell (p := ⟨g, 0, none⟩) (.inl rfl) _
  have hg3 : Blk w3 g 103 #[.slice A n c, .bool false] := hw3 ▸ hg2.set_ 0 (.slice A n c)
  obtain ⟨w4, hw4⟩ : ∃ w4, w3.setCell ⟨g, 1, none⟩ (.bool true) = w4 := ⟨_, rfl⟩
  have hu4 : Upd w3 w4 (· = g) := hw4 ▸ (Upd.refl w3 (· = g)).setCell (p := ⟨g, 1, none⟩) (.inl rfl) _
  have hg4 : Blk w4 g 103 #[.slice A n c, .bool true] := hw4 ▸ hg3.set_ 1 (.bool true)
  have hx4 := (hx2.upd hu3 hgx.symm).upd hu4 hgx.symm
  have hC : Caught w w4 g bx (.slice A n c) (.slice none 0 0) 24 := ⟨(((Upd.of_below hb1 _).trans (hu2.mono fun _ _ h => .inr h)).trans (hu3.mono fun _ _ h => .inl h)).trans (hu4.mono fun _ _ h => .inl h), hg4, hx4⟩
  have HC := Lib.hid hC
  have hxc : w1.cell? ⟨bx, 0, none⟩ = some x := hx1.cell 0
  have hxz := hx1.frozen 0
  have hgc : w2.cell? ⟨g, 0, none⟩ = some v0 := hg2.cell 0
  have hgz := hg2.frozen 0
  have hgc3 : w3.cell? ⟨g, 1, none⟩ = some (.bool false) := hg3.cell 1
  have hgz3 := hg3.frozen 1
  have HU := Lib.hid hu
  clear hu hx hg hb1 hw he hx1 hg1 hu2 hx2 hg2 hu3 hg3 hu4 hg4 hx4 hC hgx;have hta := sight_assert
  go_wp2_with fail
  have hu := HU.out
  cases c₀
  simp_all [bodyPostS, results, Tryz.results106]
  exact HC.out
set_option maxRecDepth 100000 in
theorem seeS_ok (h : EyeIs w g ab xs false) (gf : Nat) (caps : Array Value) (eg : ∀ args w, (callFunc gf args).run Tryz.prog w = .ok (.enter gf args) w) (zs : List S41)
    (hf : ∀ W, EyeIs W g ab xs false → Below w.heap.size w W → Calls Tryz.prog gf caps W fun e w' => ∃ v, e = .returned v ∧ RowS w' W.heap.size v zs ∧ EyeIs w' g ab xs' false ∧ Upd W w' (· = g)) :
    Calls Tryz.prog 79 #[ptr g, .func (.func gf) #[] caps] w fun e w' => ∃ v, e = .returned v ∧ RowS w' w.heap.size v zs ∧ EyeIs w' g ab xs' false ∧ Upd w w' (· = g) := by
  obtain ⟨A, c, hB, hc, hF⟩ := h.ex
  obtain ⟨w1, hw1⟩ : ∃ w1, (w.alloc (.cells #[ptr g] 63)).alloc (.cells #[.slice none 0 0] 24) = w1 := ⟨_, rfl⟩
  have hb1 : Below w.heap.size w w1 := hw1 ▸ ((Below.refl _ _).alloc (Nat.le_refl _) _).alloc (by simp) _
  have h0 : w1.cell? ⟨w.heap.size, 0, none⟩ = some (ptr g) := hw1 ▸ ((Blk.new w 63 #[ptr g]).alloc _).cell 0
  have hx : Blk w1 (w.heap.size + 1) 24 #[.slice none 0 0] := by
    have := Blk.new (w.alloc (.cells #[ptr g] 63)) 24 #[.slice none 0 0]
    rw [hw1] at this
    simpa using this
  have hB1 := hB.below hb1 hB.lt
  have hc0 : w1.cell? ⟨g, 0, none⟩ = some (.slice A xs.length c) := hB1.cell 0
  have hc1 : w1.cell? ⟨g, 1, none⟩ = some (.bool false) := hB1.cell 1
  obtain ⟨w2, hw2⟩ : ∃ w2, w1.alloc (.cells #[.slice A xs.length c] 23) = w2 := ⟨_, rfl⟩
  have hb2 : Below w.heap.size w w2 := hw2 ▸ hb1.alloc hb1.size _
  have hx2 : Blk w2 (w.heap.size + 1) 24 #[.slice none 0 0] := hw2 ▸ hx.alloc _
  have hcl := hf w2 (h.below hb2) hb2
  have hlt := h.lt;have hX2 := hx2.lt
  have HCL := Lib.hid hcl; have HX := Lib.hid (And.intro hx2 (And.intro hb2 (And.intro h.old hlt)))
  have hmf : ∀ (fn : Fn) (first cap : Array Value) (w : World), (Instr.makeFunc fn first cap).run Tryz.prog w = .ok (.func fn first cap) w := fun _ _ _ _ => rfl
  clear hB hF hf hx hB1 hcl hx2 hb2 hlt h
  go_enter_defers Tryz.func79, Tryz.ntmps79
  go_wp2_with fail
  refine HCL.out.mono ?_
  rintro e w3 ⟨v, rfl, hv3, hE3, hu3⟩
  obtain ⟨Av, cv, rfl⟩ := own_slice hv3
  have hX3 := HX.out.1.upd hu3 (fun e => by have := HX.out.2.2.2; omega)
  have hx3c : w3.cell? ⟨w.heap.size + 1, 0, none⟩ = some (.slice none 0 0) := hX3.cell 0
  have hx3z := hX3.frozen 0
  obtain ⟨w4, hw4⟩ : ∃ w4, w3.setCell ⟨w.heap.size + 1, 0, none⟩ (.slice Av zs.length cv) = w4 := ⟨_, rfl⟩
  have hX4 : Blk w4 (w.heap.size + 1) 24 #[.slice Av zs.length cv] := hw4 ▸ hX3.set_ 0 (.slice Av zs.length cv)
  have hu4 : Upd w3 w4 (· = w.heap.size + 1) := hw4 ▸ (Upd.refl w3 (· = w.heap.size + 1)).setCell (p := ⟨w.heap.size + 1, 0, none⟩) (.inl rfl) _
  have HE := Lib.hid (And.intro hE3 (And.intro hu3 (And.intro hX4 (And.intro hu4 hv3))))
  clear hE3 hu3 hX3 hX4 hu4 hv3 HCL
  go_wp2_with fail
  refine leaves_cons (f := 106) (args := #[ptr w1.heap.size, ptr (w.heap.size + 1), ptr w.heap.size]) (by simp) (by simp [go_sem]) ?_;refine (seeS1_idle _ _ _ _).mono ?_
  rintro e u' w'' ⟨rfl, rfl, rfl⟩
  obtain ⟨hE3, hu3, hX4, hu4, hv3⟩ := HE.out
  obtain ⟨_, hb2, hold, hlt⟩ := HX.out
  have hxs := hX4.cell 0
  simp at hxs
  have hE4 := hE3.upd hu4 (fun e => by omega) (fun e => by omega)
  simp [Leaves, settle, results, Tryz.results79, go_sem, hxs]
  refine ⟨?_, hE4, ?_⟩
  · exact rowS_lower (own_move hv3 (fun k hk => hu4.block k (hv3.lt k hk).2 (fun e => by have := (hv3.lt k hk).1; have := hX2; omega))) hb2.size
  have hU : Upd w3 w'' (fun k => k = w.heap.size + 1) := hu4
  refine ⟨(hu4.os.trans hu3.os).trans hb2.os, (hu4.tape.trans hu3.tape).trans hb2.tape, (hu4.output.trans hu3.output).trans hb2.output, Nat.le_trans hb2.size (Nat.le_trans hu3.size hu4.size), fun k hk hn => ?_⟩
  have h1 := hb2.block k hk
  have h2 := hu3.block k (Nat.lt_of_lt_of_le hk hb2.size) hn
  have h3 := hu4.block k (Nat.lt_of_lt_of_le hk (Nat.le_trans hb2.size hu3.size)) (by omega)
  exact h3.trans (h2.trans h1)
set_option maxRecDepth 100000 in
theorem seeS_bad (h : EyeIs w g ab xs false) (gf : Nat) (caps : Array Value) (eg : ∀ args w, (callFunc gf args).run Tryz.prog w = .ok (.enter gf args) w)
    (hf : ∀ W, EyeIs W g ab xs false → Below w.heap.size w W → Calls Tryz.prog gf caps W fun e w' => e = .panicked sightP ∧ (∃ v0, Blk w' g 103 #[v0, .bool false]) ∧ Upd W w' (· = g)) :
    Calls Tryz.prog 79 #[ptr g, .func (.func gf) #[] caps] w fun e w' => e = .returned (.slice none 0 0) ∧ EyeIs w' g ab xs true ∧ Upd w w' (· = g) := by
  obtain ⟨A, c, hB, hc, hF⟩ := h.ex
  obtain ⟨w1, hw1⟩ : ∃ w1, (w.alloc (.cells #[ptr g] 63)).alloc (.cells #[.slice none 0 0] 24) = w1 := ⟨_, rfl⟩
  have hb1 : Below w.heap.size w w1 := hw1 ▸ ((Below.refl _ _).alloc (Nat.le_refl _) _).alloc (by simp) _
  have h0B : Blk w1 w.heap.size 63 #[ptr g] := hw1 ▸ ((Blk.new w 63 #[ptr g]).alloc _)
  have h0 : w1.cell? ⟨w.heap.size, 0, none⟩ = some (ptr g) := h0B.cell 0
  have hx : Blk w1 (w.heap.size + 1) 24 #[.slice none 0 0] := by
    have := Blk.new (w.alloc (.cells #[ptr g] 63)) 24 #[.slice none 0 0]
    rw [hw1] at this
    simpa using this
  have hs1 : w1.heap.size = w.heap.size + 2 := by rw [← hw1]; simp
  have hB1 := hB.below hb1 hB.lt
  have hc0 : w1.cell? ⟨g, 0, none⟩ = some (.slice A xs.length c) := hB1.cell 0
  have hc1 : w1.cell? ⟨g, 1, none⟩ = some (.bool false) := hB1.cell 1
  obtain ⟨w2, hw2⟩ : ∃ w2, w1.alloc (.cells #[.slice A xs.length c] 23) = w2 := ⟨_, rfl⟩
  have hb2 : Below w.heap.size w w2 := hw2 ▸ hb1.alloc hb1.size _
  have hx2 : Blk w2 (w.heap.size + 1) 24 #[.slice none 0 0] := hw2 ▸ hx.alloc _
  have h02 : Blk w2 w.heap.size 63 #[ptr g] := hw2 ▸ h0B.alloc _
  have hw22 : Blk w2 w1.heap.size 23 #[.slice A xs.length c] := hw2 ▸ Blk.new w1 23 _
  have hcl := hf w2 (h.below hb2) hb2
  have hlt := h.lt
  have HCL := Lib.hid hcl; have HX := Lib.hid (And.intro hx2 (And.intro hb2 (And.intro h (And.intro hlt (And.intro h02 (And.intro hw22 hs1))))))
  have hmf : ∀ (fn : Fn) (first cap : Array Value) (w : World), (Instr.makeFunc fn first cap).run Tryz.prog w = .ok (.func fn first cap) w := fun _ _ _ _ => rfl
  have HFC := Lib.hid (And.intro hF hc)
  clear hB hF hf hx hB1 hcl hx2 hb2 hlt h h0B h02 hw22 hs1 hc
  go_enter_defers Tryz.func79, Tryz.ntmps79
  go_wp2_with fail
  refine HCL.out.mono ?_
  rintro e w3 ⟨rfl, ⟨v0, hE3⟩, hu3⟩
  have HE := Lib.hid (And.intro hE3 hu3)
  clear hE3 hu3 HCL
  go_wp2_with fail
  obtain ⟨hE3, hu3⟩ := HE.out
  obtain ⟨hx2, hb2, h, hlt, h02, hw22, hs1⟩ := HX.out
  have hx3 := hx2.upd hu3 (fun e => by omega)
  have h03 := h02.upd hu3 (fun e => by omega)
  have hw3 := hw22.upd hu3 (fun e => by omega)
  refine leaves_cons (f := 106) (args := #[ptr w1.heap.size, ptr (w.heap.size + 1), ptr w.heap.size]) (by simp) (by simp [go_sem]) ?_;refine (seeS1_catch w1.heap.size (w.heap.size + 1) w.heap.size w3 (hw3.cell 0) hx3 (h03.cell 0) hE3).mono ?_
  rintro e u' w4 ⟨rfl, rfl, hC⟩
  have hxs := hC.res.cell 0
  simp at hxs
  simp [Leaves, settle, results, Tryz.results79, go_sem, hxs]
  have hU : Upd w w4 (· = g) := by
    have hu4 := hC.upd
    refine ⟨(hu4.os.trans hu3.os).trans hb2.os, (hu4.tape.trans hu3.tape).trans hb2.tape, (hu4.output.trans hu3.output).trans hb2.output, Nat.le_trans hb2.size (Nat.le_trans hu3.size hu4.size), fun k hk hn => ?_⟩
    have h1 := hb2.block k hk
    have h2 := hu3.block k (Nat.lt_of_lt_of_le hk hb2.size) hn
    have h3 := hu4.block k (Nat.lt_of_lt_of_le hk (Nat.le_trans hb2.size hu3.size)) (by rintro (e | e) <;> omega)
    exact h3.trans (h2.trans h1)
  refine ⟨⟨h.ne, Nat.lt_of_lt_of_le h.old hU.size, A, c, hC.eye, HFC.out.2, ?_⟩, hU⟩
  rcases h.ne with hne | hnil
  · exact Kd.F_step HFC.out.1 (fun k hk hlt => hU.block k hlt (fun e => hne (hk ▸ e)))
  · rw [hnil]; exact F_zero A
end
end Go.Proofs.YtaedlmeaconflaaGreat.P
end
section
set_option linter.unusedVariables false
set_option linter.unusedSimpArgs false
namespace Go.Proofs.YtaedlmeaconflaaGreat.P
open Go.RowKit Go.Proofs.YtaedlmeaconflaaGreatW.PrintWords Go.Proofs.YtaedlmeaconflaaGreatW.PrintLast Go.Proofs.YtaedlmeaconflaaGreatW.PrintMore
section
variable {w : World} {g ab : Nat} {xs xs' : List Int} {A : Option Addr} {n c : Nat} {x : Int} {v0 : Value} {older : List PanicEntry}
theorem seeI_blind (h : EyeIs w g ab xs true) (f : Fn) (fi ca : Array Value) : Calls Tryz.prog 76 #[ptr g, .func f fi ca] w fun e w' => e = .returned (.int .i64 0) ∧ Below w.heap.size w w' := by
  obtain ⟨A, c, hB, hc, hF⟩ := h.ex
  have hc1 : w.cell? ⟨g, 1, none⟩ = some (.bool true) := hB.cell 1
  obtain ⟨w1, hw1⟩ : ∃ w1, (w.alloc (.cells #[ptr g] 63)).alloc (.cells #[.int .i64 0] 2) = w1 := ⟨_, rfl⟩
  have hb1 : Below w.heap.size w w1 := hw1 ▸ ((Below.refl _ _).alloc (Nat.le_refl _) _).alloc (by simp) _
  have h0 : w1.cell? ⟨w.heap.size, 0, none⟩ = some (ptr g) := hw1 ▸ ((Blk.new w 63 #[ptr g]).alloc _).cell 0
  have hx : Blk w1 (w.heap.size + 1) 2 #[.int .i64 0] := by
    have := Blk.new (w.alloc (.cells #[ptr g] 63)) 2 #[.int .i64 0]
    rw [hw1] at this
    simpa using this
  have hx0 : w1.cell? ⟨w.heap.size + 1, 0, none⟩ = some (.int .i64 0) := hx.cell 0
  have hxz := hx.frozen 0
  have hc1' := pw_cell_below hb1 hc1
  have HX := Lib.hid hx
  clear h hB hF hx
  go_enter_defers Tryz.func76, Tryz.ntmps76
  go_wp2
  have hxs : (w1.setCell ⟨w.heap.size + 1, 0, none⟩ (.int .i64 0)).cell? ⟨w.heap.size + 1, 0, none⟩ = some (.int .i64 0) := (HX.out.set_ 0 (.int .i64 0)).cell 0
  simp [bodyPostD, Leaves, results, Tryz.results76, go_sem, hxs]
  exact hb1.setCell (p := ⟨w.heap.size + 1, 0, none⟩) (Nat.le_succ _) _
theorem seeI1_idle (bw bx be : Nat) (w : World) : CallsD Tryz.prog 104 #[ptr bw, ptr bx, ptr be] .returning w fun e u' w' => e = .returned (.tuple #[]) ∧ u' = .returning ∧ w' = w := by
  refine callsD_of_wpS Tryz.func104 rfl fun c₀ cs hu => ?_
  apply wpS_seq
  apply wpS_region
  simp [wpOpsS, go_sem, recoverD, hu, Tryz.ntmps104, Exit.thenS]
  apply wpS_seq
  apply wpS_region
  simp [wpOpsS, go_sem, Exit.thenS]
  refine wpS_cond (t := false) (by simp [Act.eval, Array.replicate]) ?_;simp only [Bool.false_eq_true, if_false];refine wpS_of_wp (wp_skip ?_)
  cases c₀
  simp_all [bodyPostS, results, Tryz.results104]
set_option maxRecDepth 100000 in
theorem seeI1_catch (bw bx be : Nat) (w : World) (hw : w.cell? ⟨bw, 0, none⟩ = some (.slice A n c)) (hx : Blk w bx 2 #[.int .i64 x]) (he : w.cell? ⟨be, 0, none⟩ = some (ptr g)) (hg : Blk w g 103 #[v0, .bool false]) :
    CallsD Tryz.prog 104 #[ptr bw, ptr bx, ptr be] (.panicking ({ v := .iface 131 (.agg #[]), recovered := false } :: older)) w fun e u' w' => e = .returned (.tuple #[]) ∧ u' = .panicking ({ v := .iface 131 (.agg #[]), recovered := true } :: older) ∧ Caught w w' g bx (.slice A n c) (.int .i64 0) 2 := by
  have hgx : g ≠ bx := hg.ne_ hx (by decide)
  refine callsD_of_wpS Tryz.func104 rfl fun c₀ cs hu => ?_
  apply wpS_seq
  apply wpS_region
  simp [wpOpsS, go_sem, recoverD, hu, Tryz.ntmps104, Exit.thenS, rep23]
  apply wpS_seq
  apply wpS_region
  simp [wpOpsS, go_sem, Exit.thenS]
  refine wpS_cond (t := true) (by simp [Act.eval, Array.replicate]) ?_;simp only [if_true];refine wpS_of_wp ?_
  obtain ⟨w1, hw1⟩ : ∃ w1, w.alloc (.cells #[] 131) = w1 := ⟨_, rfl⟩
  have hb1 : Below w.heap.size w w1 := hw1 ▸ (Below.refl _ _).alloc (Nat.le_refl _) _
  have hw' := pw_cell_below hb1 hw
  have he' := pw_cell_below hb1 he
  have hx1 := hx.below hb1 hx.lt
  have hg1 := hg.below hb1 hg.lt
  obtain ⟨w2, hw2⟩ : ∃ w2, w1.setCell ⟨bx, 0, none⟩ (.int .i64 0) = w2 := ⟨_, rfl⟩
  have hu2 : Upd w1 w2 (· = bx) := hw2 ▸ (Upd.refl w1 (· = bx)).setCell (p := ⟨bx, 0, none⟩) (.inl rfl) _
  have hx2 : Blk w2 bx 2 #[.int .i64 0] := hw2 ▸ hx1.set_ 0 (.int .i64 0)
  have hg2 := hg1.upd hu2 hgx
  obtain ⟨w3, hw3⟩ : ∃ w3, w2.setCell ⟨g, 0, none⟩ (.slice A n c) = w3 := ⟨_, rfl⟩
  have hu3 : Upd w2 w3 (· = g) := hw3 ▸ (Upd.refl w2 (· = g)).setCell (p := ⟨g, 0, none⟩) (.inl rfl) _
  have hg3 : Blk w3 g 103 #[.slice A n c, .bool false] := hw3 ▸ hg2.set_ 0 (.slice A n c)
  obtain ⟨w4, hw4⟩ : ∃ w4, w3.setCell ⟨g, 1, none⟩ (.bool true) = w4 := ⟨_, rfl⟩
  have hu4 : Upd w3 w4 (· = g) := hw4 ▸ (Upd.refl w3 (· = g)).setCell (p := ⟨g, 1, none⟩) (.inl rfl) _
  have hg4 : Blk w4 g 103 #[.slice A n c, .bool true] := hw4 ▸ hg3.set_ 1 (.bool true)
  have hx4 := (hx2.upd hu3 hgx.symm).upd hu4 hgx.symm
  have hC : Caught w w4 g bx (.slice A n c) (.int .i64 0) 2 := ⟨(((Upd.of_below hb1 _).trans (hu2.mono fun _ _ h => .inr h)).trans (hu3.mono fun _ _ h => .inl h)).trans (hu4.mono fun _ _ h => .inl h), hg4, hx4⟩
  have HC := Lib.hid hC
  have hxc : w1.cell? ⟨bx, 0, none⟩ = some (.int .i64 x) := hx1.cell 0
  have hxz := hx1.frozen 0
  have hgc : w2.cell? ⟨g, 0, none⟩ = some v0 := hg2.cell 0
  have hgz := hg2.frozen 0
  have hgc3 : w3.cell? ⟨g, 1, none⟩ = some (.bool false) := hg3.cell 1
  have hgz3 := hg3.frozen 1
  have HU := Lib.hid hu
  clear hu hx hg hb1 hw he hx1 hg1 hu2 hx2 hg2 hu3 hg3 hu4 hg4 hx4 hC hgx;have hta := sight_assert
  go_wp2_with fail
  have hu := HU.out
  cases c₀
  simp_all [bodyPostS, results, Tryz.results104]
  exact HC.out
set_option maxRecDepth 100000 in
theorem seeI_ok (h : EyeIs w g ab xs false) (gf : Nat) (caps : Array Value) (eg : ∀ args w, (callFunc gf args).run Tryz.prog w = .ok (.enter gf args) w) (v : Int)
    (hf : ∀ W, EyeIs W g ab xs false → Below w.heap.size w W → Calls Tryz.prog gf caps W fun e w' => e = .returned (.int .i64 v) ∧ EyeIs w' g ab xs' false ∧ Upd W w' (· = g)) :
    Calls Tryz.prog 76 #[ptr g, .func (.func gf) #[] caps] w fun e w' => e = .returned (.int .i64 v) ∧ EyeIs w' g ab xs' false ∧ Upd w w' (· = g) := by
  obtain ⟨A, c, hB, hc, hF⟩ := h.ex
  obtain ⟨w1, hw1⟩ : ∃ w1, (w.alloc (.cells #[ptr g] 63)).alloc (.cells #[.int .i64 0] 2) = w1 := ⟨_, rfl⟩
  have hb1 : Below w.heap.size w w1 := hw1 ▸ ((Below.refl _ _).alloc (Nat.le_refl _) _).alloc (by simp) _
  have h0 : w1.cell? ⟨w.heap.size, 0, none⟩ = some (ptr g) := hw1 ▸ ((Blk.new w 63 #[ptr g]).alloc _).cell 0
  have hx : Blk w1 (w.heap.size + 1) 2 #[.int .i64 0] := by
    have := Blk.new (w.alloc (.cells #[ptr g] 63)) 2 #[.int .i64 0]
    rw [hw1] at this
    simpa using this
  have hB1 := hB.below hb1 hB.lt
  have hc0 : w1.cell? ⟨g, 0, none⟩ = some (.slice A xs.length c) := hB1.cell 0
  have hc1 : w1.cell? ⟨g, 1, none⟩ = some (.bool false) := hB1.cell 1
  obtain ⟨w2, hw2⟩ : ∃ w2, w1.alloc (.cells #[.slice A xs.length c] 23) = w2 := ⟨_, rfl⟩
  have hb2 : Below w.heap.size w w2 := hw2 ▸ hb1.alloc hb1.size _
  have hx2 : Blk w2 (w.heap.size + 1) 2 #[.int .i64 0] := hw2 ▸ hx.alloc _
  have hcl := hf w2 (h.below hb2) hb2
  have hlt := h.lt
  have HCL := Lib.hid hcl; have HX := Lib.hid (And.intro hx2 (And.intro hb2 (And.intro h.old hlt)))
  have hmf : ∀ (fn : Fn) (first cap : Array Value) (w : World), (Instr.makeFunc fn first cap).run Tryz.prog w = .ok (.func fn first cap) w := fun _ _ _ _ => rfl
  clear hB hF hf hx hB1 hcl hx2 hb2 hlt h
  go_enter_defers Tryz.func76, Tryz.ntmps76
  go_wp2_with fail
  refine HCL.out.mono ?_
  rintro e w3 ⟨rfl, hE3, hu3⟩
  have hX3 := HX.out.1.upd hu3 (fun e => by have := HX.out.2.2.2; omega)
  have hx3c : w3.cell? ⟨w.heap.size + 1, 0, none⟩ = some (.int .i64 0) := hX3.cell 0
  have hx3z := hX3.frozen 0
  obtain ⟨w4, hw4⟩ : ∃ w4, w3.setCell ⟨w.heap.size + 1, 0, none⟩ (.int .i64 v) = w4 := ⟨_, rfl⟩
  have hX4 : Blk w4 (w.heap.size + 1) 2 #[.int .i64 v] := hw4 ▸ hX3.set_ 0 (.int .i64 v)
  have hu4 : Upd w3 w4 (· = w.heap.size + 1) := hw4 ▸ (Upd.refl w3 (· = w.heap.size + 1)).setCell (p := ⟨w.heap.size + 1, 0, none⟩) (.inl rfl) _
  have HE := Lib.hid (And.intro hE3 (And.intro hu3 (And.intro hX4 hu4)))
  clear hE3 hu3 hX3 hX4 hu4 HCL
  go_wp2_with fail
  refine leaves_cons (f := 104) (args := #[ptr w1.heap.size, ptr (w.heap.size + 1), ptr w.heap.size]) (by simp) (by simp [go_sem]) ?_;refine (seeI1_idle _ _ _ _).mono ?_
  rintro e u' w'' ⟨rfl, rfl, rfl⟩
  obtain ⟨hE3, hu3, hX4, hu4⟩ := HE.out
  obtain ⟨_, hb2, hold, hlt⟩ := HX.out
  have hxs := hX4.cell 0
  simp at hxs
  have hE4 := hE3.upd hu4 (fun e => by omega) (fun e => by omega)
  simp [Leaves, settle, results, Tryz.results76, go_sem, hxs]
  refine ⟨hE4, ?_⟩
  have hU : Upd w3 w'' (fun k => k = w.heap.size + 1) := hu4
  refine ⟨(hu4.os.trans hu3.os).trans hb2.os, (hu4.tape.trans hu3.tape).trans hb2.tape, (hu4.output.trans hu3.output).trans hb2.output, Nat.le_trans hb2.size (Nat.le_trans hu3.size hu4.size), fun k hk hn => ?_⟩
  have h1 := hb2.block k hk
  have h2 := hu3.block k (Nat.lt_of_lt_of_le hk hb2.size) hn
  have h3 := hu4.block k (Nat.lt_of_lt_of_le hk (Nat.le_trans hb2.size hu3.size)) (by omega)
  exact h3.trans (h2.trans h1)
set_option maxRecDepth 100000 in
theorem seeI_bad (h : EyeIs w g ab xs false) (gf : Nat) (caps : Array Value) (eg : ∀ args w, (callFunc gf args).run Tryz.prog w = .ok (.enter gf args) w)
    (hf : ∀ W, EyeIs W g ab xs false → Below w.heap.size w W → Calls Tryz.prog gf caps W fun e w' => e = .panicked sightP ∧ (∃ v0, Blk w' g 103 #[v0, .bool false]) ∧ Upd W w' (· = g)) :
    Calls Tryz.prog 76 #[ptr g, .func (.func gf) #[] caps] w fun e w' => e = .returned (.int .i64 0) ∧ EyeIs w' g ab xs true ∧ Upd w w' (· = g) := by
  obtain ⟨A, c, hB, hc, hF⟩ := h.ex
  obtain ⟨w1, hw1⟩ : ∃ w1, (w.alloc (.cells #[ptr g] 63)).alloc (.cells #[.int .i64 0] 2) = w1 := ⟨_, rfl⟩
  have hb1 : Below w.heap.size w w1 := hw1 ▸ ((Below.refl _ _).alloc (Nat.le_refl _) _).alloc (by simp) _
  have h0B : Blk w1 w.heap.size 63 #[ptr g] := hw1 ▸ ((Blk.new w 63 #[ptr g]).alloc _)
  have h0 : w1.cell? ⟨w.heap.size, 0, none⟩ = some (ptr g) := h0B.cell 0
  have hx : Blk w1 (w.heap.size + 1) 2 #[.int .i64 0] := by
    have := Blk.new (w.alloc (.cells #[ptr g] 63)) 2 #[.int .i64 0]
    rw [hw1] at this
    simpa using this
  have hs1 : w1.heap.size = w.heap.size + 2 := by rw [← hw1]; simp
  have hB1 := hB.below hb1 hB.lt
  have hc0 : w1.cell? ⟨g, 0, none⟩ = some (.slice A xs.length c) := hB1.cell 0
  have hc1 : w1.cell? ⟨g, 1, none⟩ = some (.bool false) := hB1.cell 1
  obtain ⟨w2, hw2⟩ : ∃ w2, w1.alloc (.cells #[.slice A xs.length c] 23) = w2 := ⟨_, rfl⟩
  have hb2 : Below w.heap.size w w2 := hw2 ▸ hb1.alloc hb1.size _
  have hx2 : Blk w2 (w.heap.size + 1) 2 #[.int .i64 0] := hw2 ▸ hx.alloc _
  have h02 : Blk w2 w.heap.size 63 #[ptr g] := hw2 ▸ h0B.alloc _
  have hw22 : Blk w2 w1.heap.size 23 #[.slice A xs.length c] := hw2 ▸ Blk.new w1 23 _
  have hcl := hf w2 (h.below hb2) hb2
  have hlt := h.lt
  have HCL := Lib.hid hcl; have HX := Lib.hid (And.intro hx2 (And.intro hb2 (And.intro h (And.intro hlt (And.intro h02 (And.intro hw22 hs1))))))
  have hmf : ∀ (fn : Fn) (first cap : Array Value) (w : World), (Instr.makeFunc fn first cap).run Tryz.prog w = .ok (.func fn first cap) w := fun _ _ _ _ => rfl
  have HFC := Lib.hid (And.intro hF hc)
  clear hB hF hf hx hB1 hcl hx2 hb2 hlt h h0B h02 hw22 hs1 hc
  go_enter_defers Tryz.func76, Tryz.ntmps76
  go_wp2_with fail
  refine HCL.out.mono ?_
  rintro e w3 ⟨rfl, ⟨v0, hE3⟩, hu3⟩
  have HE := Lib.hid (And.intro hE3 hu3)
  clear hE3 hu3 HCL
  go_wp2_with fail
  obtain ⟨hE3, hu3⟩ := HE.out
  obtain ⟨hx2, hb2, h, hlt, h02, hw22, hs1⟩ := HX.out
  have hx3 := hx2.upd hu3 (fun e => by omega)
  have h03 := h02.upd hu3 (fun e => by omega)
  have hw3 := hw22.upd hu3 (fun e => by omega)
  refine leaves_cons (f := 104) (args := #[ptr w1.heap.size, ptr (w.heap.size + 1), ptr w.heap.size]) (by simp) (by simp [go_sem]) ?_;refine (seeI1_catch w1.heap.size (w.heap.size + 1) w.heap.size w3 (hw3.cell 0) hx3 (h03.cell 0) hE3).mono ?_
  rintro e u' w4 ⟨rfl, rfl, hC⟩
  have hxs := hC.res.cell 0
  simp at hxs
  simp [Leaves, settle, results, Tryz.results76, go_sem, hxs]
  have hU : Upd w w4 (· = g) := by
    have hu4 := hC.upd
    refine ⟨(hu4.os.trans hu3.os).trans hb2.os, (hu4.tape.trans hu3.tape).trans hb2.tape, (hu4.output.trans hu3.output).trans hb2.output, Nat.le_trans hb2.size (Nat.le_trans hu3.size hu4.size), fun k hk hn => ?_⟩
    have h1 := hb2.block k hk
    have h2 := hu3.block k (Nat.lt_of_lt_of_le hk hb2.size) hn
    have h3 := hu4.block k (Nat.lt_of_lt_of_le hk (Nat.le_trans hb2.size hu3.size)) (by rintro (e | e) <;> omega)
    exact h3.trans (h2.trans h1)
  refine ⟨⟨h.ne, Nat.lt_of_lt_of_le h.old hU.size, A, c, hC.eye, HFC.out.2, ?_⟩, hU⟩
  rcases h.ne with hne | hnil
  · exact Kd.F_step HFC.out.1 (fun k hk hlt => hU.block k hlt (fun e => hne (hk ▸ e)))
  · rw [hnil]; exact F_zero A
end
end Go.Proofs.YtaedlmeaconflaaGreat.P
end
section
set_option linter.unusedVariables false
set_option linter.unusedSimpArgs false
namespace Go.Proofs.YtaedlmeaconflaaGreat.P
open Go.RowKit Go.Proofs.YtaedlmeaconflaaGreatW.PrintWords Go.Proofs.YtaedlmeaconflaaGreatW.PrintLast Go.Proofs.YtaedlmeaconflaaGreatW.PrintMore
abbrev Sight := List Int × Bool
def sInt (s : Sight) : Int × Sight := if s.2 = true ∨ s.1.length < 8 then (0, (s.1, true)) else (i64 (numOf s.1 8), (s.1.drop 8, false))
theorem sInt_bad {s : Sight} (h : s.2 = true ∨ s.1.length < 8) : sInt s = (0, (s.1, true)) := if_pos h
theorem sInt_ok {xs : List Int} (h : 8 ≤ xs.length) : sInt (xs, false) = (i64 (numOf xs 8), (xs.drop 8, false)) := if_neg (by simp; omega)
theorem bytesOk_drop {xs : List Int} (h : bytesOk xs) (n : Nat) : bytesOk (xs.drop n) := fun x hx => h x (List.mem_of_mem_drop hx)
theorem bytesOk_take {xs : List Int} (h : bytesOk xs) (n : Nat) : bytesOk (xs.take n) := fun x hx => h x (List.mem_of_mem_take hx)
theorem numOf_lt {xs : List Int} (h : bytesOk xs) (n : Nat) : numOf xs n < 256 ^ n := by
  unfold numOf
  refine Nat.lt_of_lt_of_le (leNum_lt _ (bytesOk_take h n)) (Nat.pow_le_pow_right (by decide) ?_)
  rw [List.length_take]; omega
theorem i64_wrap {n : Nat} (h : n < 18446744073709551616) : IntKind.i64.wrap (n : Int) = i64 n := by
  rw [Go.IntWalk.i64_left]
  unfold i64 wrap64
  split <;> omega
section
variable {w : World} {g ab be : Nat} {xs : List Int}
theorem int1_bad (h : EyeIs w g ab xs false) (he : w.cell? ⟨be, 0, none⟩ = some (ptr g)) (hl : xs.length < 8) : Calls Tryz.prog 77 #[ptr be] w fun e w' => e = .panicked sightP ∧ (∃ v0, Blk w' g 103 #[v0, .bool false]) ∧ Upd w w' (· = g) := by
  have hn := number_short h 8 hl
  obtain ⟨A, c, hB, _, _⟩ := h.ex
  have HN := Lib.hid hn; have HB := Lib.hid hB
  clear h hn hB
  go_enter Tryz.func77, Tryz.ntmps77
  go_wp2_with fail
  refine HN.out.mono ?_
  rintro e w1 ⟨rfl, rfl⟩
  go_wp2_with fail
  exact ⟨rfl, rfl, ⟨_, HB.out⟩, Upd.refl _ _⟩
theorem int1_ok (h : EyeIs w g ab xs false) (hx : bytesOk xs) (he : w.cell? ⟨be, 0, none⟩ = some (ptr g)) (hl : 8 ≤ xs.length) : Calls Tryz.prog 77 #[ptr be] w fun e w' => e = .returned (.int .i64 (i64 (numOf xs 8))) ∧ EyeIs w' g ab (xs.drop 8) false ∧ Upd w w' (· = g) := by
  have hn := number_ok h hx 8 hl (by omega)
  have hi := i64_wrap (n := numOf xs 8) (numOf_lt hx 8)
  generalize numOf xs 8 = m at *
  have HN := Lib.hid hn
  clear h hn hx
  go_enter Tryz.func77, Tryz.ntmps77
  go_wp2_with fail
  refine HN.out.mono ?_
  rintro e w1 ⟨rfl, hE, hu⟩
  go_wp2_with fail
  go_ret
  exact ⟨rfl, hE, hu⟩
theorem entersI : ∀ args w, (callFunc 77 args).run Tryz.prog w = .ok (.enter 77 args) w := enters_of Tryz.func77 (by kernel_rfl) rfl
theorem flInt_any (s : Sight) (h : EyeIs w g ab s.1 s.2) (hx : bytesOk s.1) : Calls Tryz.prog 37 #[ptr g] w fun e w' => e = .returned (.int .i64 (sInt s).1) ∧ EyeIs w' g ab (sInt s).2.1 (sInt s).2.2 ∧ Upd w w' (· = g) := by
  obtain ⟨xs, bl⟩ := s
  obtain ⟨w1, hw1⟩ : ∃ w1, w.alloc (.cells #[ptr g] 63) = w1 := ⟨_, rfl⟩
  have hb1 : Below w.heap.size w w1 := hw1 ▸ (Below.refl _ _).alloc (Nat.le_refl _) _
  have h0B : Blk w1 w.heap.size 63 #[ptr g] := hw1 ▸ Blk.new w 63 #[ptr g]
  have h0 : w1.cell? ⟨w.heap.size, 0, none⟩ = some (ptr g) := h0B.cell 0
  have h1 := h.below hb1
  have hlt := h.lt
  have hmf : ∀ (fn : Fn) (first cap : Array Value) (w : World), (Instr.makeFunc fn first cap).run Tryz.prog w = .ok (.func fn first cap) w := fun _ _ _ _ => rfl
  have hs : Calls Tryz.prog 76 #[ptr g, .func (.func 77) #[] #[ptr w.heap.size]] w1 fun e w' => e = .returned (.int .i64 (sInt (xs, bl)).1) ∧ EyeIs w' g ab (sInt (xs, bl)).2.1 (sInt (xs, bl)).2.2 ∧ Upd w1 w' (· = g) := by
    cases bl with
    | true =>
      rw [sInt_bad (.inl rfl)]
      exact (seeI_blind h1 _ _ _).mono fun e w' ⟨he, hb⟩ => ⟨he, h1.below hb, Upd.of_below hb _⟩
    | false =>
      by_cases hl : xs.length < 8
      · rw [sInt_bad (.inr hl)]
        exact seeI_bad h1 77 _ entersI fun W hE hb => int1_bad hE (pw_cell_below (hb) h0) hl
      · rw [sInt_ok (by omega)]
        exact seeI_ok h1 77 _ entersI _ fun W hE hb => int1_ok hE hx (pw_cell_below hb h0) (by omega)
  have HS := Lib.hid hs; have HB := Lib.hid hb1
  clear h h0B h1 hs hb1
  generalize sInt (xs, bl) = r at *
  go_enter Tryz.func37, Tryz.ntmps37
  go_wp2_with fail
  refine HS.out.mono ?_
  rintro e w2 ⟨rfl, hE, hu⟩
  go_wp2_with fail
  go_ret
  exact ⟨rfl, hE, (Upd.of_below HB.out _).trans hu⟩
theorem flDone_any (s : Sight) (h : EyeIs w g ab s.1 s.2) : Calls Tryz.prog 39 #[ptr g] w fun e w' => e = .returned (.int .i64 (if s.2 = true ∨ s.1.length ≠ 0 then 20 else 0)) ∧ w' = w := by
  obtain ⟨xs, bl⟩ := s
  obtain ⟨A, c, hB, _, _⟩ := h.ex
  have hc0 : w.cell? ⟨g, 0, none⟩ = some (.slice A xs.length c) := hB.cell 0
  have hc1 : w.cell? ⟨g, 1, none⟩ = some (.bool bl) := hB.cell 1
  clear h hB
  go_enter Tryz.func39, Tryz.ntmps39
  cases bl with
  | true =>
    rw [if_pos (.inl rfl)]
    go_wp2
    go_ret
    exact ⟨rfl, rfl⟩
  | false =>
    by_cases hl : xs.length = 0
    · rw [if_neg (by simp [hl])]
      have d1 : decide ((0 : Int) < (xs.length : Int)) = false := decide_eq_false (by omega)
      go_wp2
      go_ret
      exact ⟨rfl, rfl⟩
    · rw [if_pos (.inr hl)]
      have d1 : decide ((0 : Int) < (xs.length : Int)) = true := decide_eq_true (by omega)
      go_wp2
      go_ret
      exact ⟨rfl, rfl⟩
theorem flOpen_any (A : Option Addr) (c : Nat) (xs : List Int) (w : World) (hr : ReadsInt w .u8 A xs.length xs) (hb : xs.length * 1 ≤ 140737488355328) :
    Calls Tryz.prog 36 #[.slice A xs.length c] w fun e w' => ∃ g ab, e = .returned (ptr g) ∧ w.heap.size ≤ g ∧ w.heap.size ≤ ab ∧ EyeIs w' g ab xs false ∧ Below w.heap.size w w' := by
  have hcl := bclone_any A c xs w hr hb
  have HCL := Lib.hid hcl
  clear hr hb hcl
  go_enter Tryz.func36, Tryz.ntmps36
  go_wp2_with fail
  refine HCL.out.mono ?_
  rintro e w1 ⟨v, rfl, ho, hb1⟩
  have HO := Lib.hid (And.intro ho hb1)
  obtain ⟨A1, c1, rfl, _⟩ := own_reads ho
  clear ho hb1 HCL
  go_wp2_with fail
  go_ret
  obtain ⟨ho, hb1⟩ := HO.out
  obtain ⟨w2, hw2⟩ : ∃ w2, w1.alloc (.cells #[.slice A1 xs.length c1, .bool false] 103) = w2 := ⟨_, rfl⟩
  rw [hw2]
  have hb2 : Below w1.heap.size w1 w2 := hw2 ▸ (Below.refl _ _).alloc (Nat.le_refl _) _
  have hB2 : Blk w2 w1.heap.size 103 #[.slice A1 xs.length c1, .bool false] := hw2 ▸ Blk.new w1 103 _
  have hE : ∃ ab, w.heap.size ≤ ab ∧ EyeIs w2 w1.heap.size ab xs false := by
    obtain ⟨A0, c0, e0, hrd⟩ := own_reads ho
    injection e0 with e1 e2 e3
    subst e1 e3
    by_cases hx : xs = []
    · subst hx
      refine ⟨w1.heap.size, hb1.size, .inr rfl, hB2.lt, A1, c1, hB2, by simp, F_zero _⟩
    · have hcc : xs.length ≤ c1 := by
        obtain ⟨_, h⟩ := ho
        rcases h with ⟨e, hn⟩ | ⟨g', cap, cur, e, h1, h2, h3, _⟩
        · exact absurd (List.eq_nil_of_length_eq_zero hn) hx
        · injection e with _ _ e; omega
      obtain ⟨ad, hA, hcell⟩ := hrd.2.2 (by have := List.length_pos_iff.2 hx; omega)
      subst hA
      have hlt : ad.block < w1.heap.size := by
        have := hcell 0 (List.length_pos_iff.2 hx)
        exact World.block_lt_of_cell? w1 _ this
      refine ⟨ad.block, (ho.ge ad.block rfl).1, .inl (by omega), Nat.lt_of_lt_of_le hlt hb2.size, some ad, c1, hB2, hcc, ?_⟩
      intro W hW
      refine C_of_int ⟨hrd.1, hrd.2.1, fun hn => ⟨ad, rfl, fun j hj => ?_⟩⟩
      have hj' := (hrd.below hb2).2.2 hn
      obtain ⟨ad', e, h⟩ := hj'
      injection e with e
      subst e
      have hc := h j hj
      have hbl : (ad.add j).block = ad.block := by unfold Addr.add; split <;> rfl
      exact (World.cell?_of_block (w := w2) (hW _ hbl (World.block_lt_of_cell? w2 _ hc))).trans hc
  obtain ⟨ab, hab, hE⟩ := hE
  exact ⟨w1.heap.size, ab, rfl, hb1.size, hab, hE, hb1.trans (hb2.mono hb1.size)⟩
end
end Go.Proofs.YtaedlmeaconflaaGreat.P
end
section
set_option linter.unusedVariables false
set_option linter.unusedSimpArgs false
namespace Go.Proofs.YtaedlmeaconflaaGreat.P
open Go.RowKit Go.Shelf Go.Proofs.YtaedlmeaconflaaGreatW.PrintWords Go.Proofs.YtaedlmeaconflaaGreatW.PrintLast Go.Proofs.YtaedlmeaconflaaGreatW.PrintMore
def laidS (s : S41) : List Int := laidI s.f0 ++ laidI s.f1
def laidSs (l : List S41) : List Int := (l.map laidS).flatten
theorem laidS_len (s : S41) : (laidS s).length = 16 := by unfold laidS; rw [List.length_append, laidI_len, laidI_len]
theorem laidSs_len (l : List S41) : (laidSs l).length = 16 * l.length := by
  induction l with
  | nil => rfl
  | cons x l ih => unfold laidSs at ih ⊢; rw [List.map_cons, List.flatten_cons, List.length_append, ih, laidS_len, List.length_cons]; omega
theorem laidSs_snoc (l : List S41) {k : Nat} (hk : k < l.length) : laidSs (l.take (k + 1)) = laidSs (l.take k) ++ laidS l[k] := by
  unfold laidSs
  rw [List.take_succ_eq_append_getElem hk, List.map_append, List.flatten_append]; simp
theorem C_blkI {W : World} {b : Nat} {t : TypeId} (xs : List Int) (h : Blk W b t (xs.map (Value.int .i64)).toArray) (hm : xs.length ≤ 1000) : Kd.C (Kd.int .i64) W (some ⟨b, 0, none⟩) xs.length xs := by
  refine ⟨rfl, by omega, fun _ => ⟨_, rfl, fun j p hj => ⟨[.int .i64 p], rfl, rfl, fun i u hu => ?_⟩⟩⟩
  rcases i with _ | i
  · simp only [List.getElem?_cons_zero, Option.some.injEq] at hu
    subst hu
    have := h.cell j
    rw [show (⟨b, 0, none⟩ : Addr).add (j * (Kd.int .i64).sz + 0) = ⟨b, j, none⟩ by rw [show (Kd.int .i64).sz = 1 from rfl, Nat.mul_one, Nat.add_zero, add_plain]]
    rw [this]
    simp [hj]
  · simp at hu
theorem RowB.lower {w : World} {b b' : Nat} {v : Value} {xs : List Int} (h : RowB w b v xs) (hb : b' ≤ b) : RowB w b' v xs :=
  ⟨h.1, h.2.imp id fun ⟨g, cap, cur, h1, h2, h3⟩ => ⟨g, cap, cur, h1, Nat.le_trans hb h2, h3⟩⟩
section
variable {base g : Nat} {xs : List Int}
set_option maxHeartbeats 1000000 in
theorem pnStamp_any (A : Option Addr) (c : Nat) (l : List S41) (w : World) (h : PenIs w base g xs) (hC : ∀ W, KB base w W → Kd.C k41 W A l.length l) (hl : xs.length + 16 * l.length ≤ 130000000000000) : Calls Tryz.prog 90 #[ptr g, .slice A l.length c] w fun e w' => e = .returned (.tuple #[]) ∧ PenIs w' base g (xs ++ laidSs l) ∧ KB base w w' := by
  have hlz := Kd.C_max (hC w (KB.refl _ _))
  have HC := Lib.hid hC; have H := Lib.hid h; clear h hC
  go_enter Tryz.func90, Tryz.ntmps90
  go_wp2
  go_loopw [8] (fun kv wr => ∃ k : Nat, kv = .int .i64 k ∧ k ≤ l.length ∧ RowKit.Hid (PenIs wr base g (xs ++ laidSs (l.take k)) ∧ KB base w wr)) (fun k _ => l.length - (intOf k).toNat)
  case atStart => exact ⟨0, rfl, Nat.zero_le _, Lib.hid ⟨by simpa [laidSs] using H.out, KB.refl _ _⟩⟩
  case round =>
    obtain ⟨k, rfl, hk, HP⟩ := hrel
    by_cases hlt : k < l.length
    · rcases A with _ | ad
      · exact absurd ((HC.out wr HP.out.2).2.2 (by omega)) (by simp)
      obtain ⟨c0, c1⟩ := C_atS (HC.out wr HP.out.2) k hlt
      have hsn := laidSs_snoc l hlt
      have hY : (xs ++ laidSs (l.take k)).length + 8 * 2 ≤ 140000000000000 := by rw [List.length_append, laidSs_len, List.length_take]; omega
      generalize l[k] = x at *
      obtain ⟨x0, x1⟩ := x
      obtain ⟨w2, hw2⟩ : ∃ w2, (wr.alloc (.cells #[.int .i64 x0, .int .i64 x1] 41)).alloc (.cells #[.int .i64 x0, .int .i64 x1] 2) = w2 := ⟨_, rfl⟩
      have hb2 : Below wr.heap.size wr w2 := hw2 ▸ ((Below.refl _ _).alloc (Nat.le_refl _) _).alloc (by simp) _
      have hlit : Blk w2 (wr.heap.size + 1) 2 #[.int .i64 x0, .int .i64 x1] := by
        have := Blk.new (wr.alloc (.cells #[.int .i64 x0, .int .i64 x1] 41)) 2 #[.int .i64 x0, .int .i64 x1]
        rw [hw2] at this
        simpa using this
      have hge : base ≤ wr.heap.size := Nat.le_trans HP.out.1.ge (Nat.le_of_lt HP.out.1.lt)
      have hin := pnInt_any (some ⟨wr.heap.size + 1, 0, none⟩) 2 [x0, x1] w2 (HP.out.1.below hb2) (fun W hW => C_blkI [x0, x1] (hW.k _ _ _ (by decide) (by decide) hlit) (by simp)) (by simpa using hY)
      have HIN := Lib.hid hin
      have HX := Lib.hid (And.intro hsn (And.intro (KB.of_below hb2 hge) hge))
      clear hin hsn hlit hge hb2 hY
      go_wp2_with fail
      refine HIN.out.mono ?_
      rintro e w3 ⟨rfl, hP3, hB3⟩
      have HN := Lib.hid (And.intro hP3 hB3)
      clear hP3 hB3
      go_wp2_with fail
      go_roundw
      case rel => exact ⟨k + 1, by go_num, by omega, Lib.hid ⟨by rw [HX.out.1]; simpa [laidIs, laidS, List.append_assoc] using HN.out.1, HP.out.2.trans (HX.out.2.1.trans HN.out.2)⟩⟩
      case measure => simp [intOf]; omega
    · obtain rfl : k = l.length := by omega
      have hP := HP.out
      rw [List.take_length] at hP
      go_wp2
      (try simp only [Exit.inBlock, Exit.then]); refine bodyPost_end (results_none rfl _ _ _) rfl ?_
      exact ⟨rfl, hP⟩
def laidStamps (l : List S41) : List Int := laidI (l.length : Int) ++ laidSs l
theorem laidStamps_len (l : List S41) : (laidStamps l).length = 8 + 16 * l.length := by unfold laidStamps; rw [List.length_append, laidI_len, laidSs_len]
set_option maxHeartbeats 1000000 in
theorem pnStamps_any (A : Option Addr) (c : Nat) (l : List S41) (w : World) (h : PenIs w base g xs) (hC : ∀ W, KB base w W → Kd.C k41 W A l.length l) (hl : xs.length + 16 * l.length ≤ 120000000000000) : Calls Tryz.prog 49 #[ptr g, .slice A l.length c] w fun e w' => e = .returned (.tuple #[]) ∧ PenIs w' base g (xs ++ laidStamps l) ∧ KB base w w' := by
  obtain ⟨w2, hw2⟩ : ∃ w2, w.alloc (.cells #[.int .i64 (l.length : Int)] 2) = w2 := ⟨_, rfl⟩
  have hb2 : Below w.heap.size w w2 := hw2 ▸ (Below.refl _ _).alloc (Nat.le_refl _) _
  have hlit : Blk w2 w.heap.size 2 #[.int .i64 (l.length : Int)] := hw2 ▸ Blk.new w 2 _
  have hge : base ≤ w.heap.size := Nat.le_trans h.ge (Nat.le_of_lt h.lt)
  have hk2 : KB base w w2 := KB.of_below hb2 hge
  have hin := pnInt_any (some ⟨w.heap.size, 0, none⟩) 1 [(l.length : Int)] w2 (h.below hb2) (fun W hW => C_blkI [(l.length : Int)] (hW.k _ _ _ (by decide) (by decide) hlit) (by simp)) (by simp; omega)
  have HIN := Lib.hid hin
  have HX := Lib.hid (And.intro hk2 (And.intro hC hl))
  clear hin hlit hge hb2 hk2 h hC hl
  go_enter Tryz.func49, Tryz.ntmps49
  go_wp2_with fail
  refine HIN.out.mono ?_
  rintro e w3 ⟨rfl, hP3, hB3⟩
  have hst := pnStamp_any A c l w3 hP3 (fun W hW => HX.out.2.1 W (HX.out.1.trans (hB3.trans hW))) (by have := HX.out.2.2; simp [laidIs, laidI_len]; omega)
  have HST := Lib.hid (And.intro hst hB3)
  clear hst hP3 hB3
  go_wp2_with fail
  refine HST.out.1.mono ?_
  rintro e w4 ⟨rfl, hP4, hB4⟩
  have HN := Lib.hid (And.intro hP4 hB4)
  clear hP4 hB4
  go_wp2_with fail
  (try simp only [Exit.inBlock, Exit.then]); refine bodyPost_end (results_none rfl _ _ _) rfl ?_
  exact ⟨rfl, by simpa [laidIs, laidStamps, List.append_assoc] using HN.out.1, HX.out.1.trans (HST.out.2.trans HN.out.2)⟩
def laidD (d : S26) : List Int := laidI d.f0 ++ laidStamps d.f1
def laidDs (ds : List S26) : List Int := (ds.map laidD).flatten
theorem laidD_len (d : S26) : (laidD d).length = 16 + 16 * d.f1.length := by unfold laidD; rw [List.length_append, laidI_len, laidStamps_len]; omega
theorem laidDs_snoc (l : List S26) {k : Nat} (hk : k < l.length) : laidDs (l.take (k + 1)) = laidDs (l.take k) ++ laidD l[k] := by
  unfold laidDs
  rw [List.take_succ_eq_append_getElem hk, List.map_append, List.flatten_append]; simp
theorem laidDs_take_le (l : List S26) (k : Nat) : (laidDs (l.take k)).length ≤ (laidDs l).length := by
  unfold laidDs
  conv => rhs; rw [← List.take_append_drop k l, List.map_append, List.flatten_append, List.length_append]
  omega
def laidDeps (ds : List S26) : List Int := laidI (ds.length : Int) ++ laidDs ds
end
set_option maxHeartbeats 2000000 in
set_option maxRecDepth 100000 in
theorem put_any (A : Option Addr) (c : Nat) (ds : List S26) (w : World) (hr : Kd.C k26 w A ds.length ds) (hl : (laidDs ds).length ≤ 1099511627776) (hn : ds.length ≤ 1099511627776) :
    Calls Tryz.prog 15 #[.slice A ds.length c] w fun e w' => ∃ v, e = .returned v ∧ RowB w' w.heap.size v (laidDeps ds) ∧ Below w.heap.size w w' := by
  obtain ⟨w1, hw1⟩ : ∃ w1, w.alloc (.cells #[.slice none 0 0] 79) = w1 := ⟨_, rfl⟩
  have hb1 : Below w.heap.size w w1 := hw1 ▸ (Below.refl _ _).alloc (Nat.le_refl _) _
  have hP1 : PenIs w1 w.heap.size w.heap.size [] := hw1 ▸ PenIs.new w
  have hs1 : w.heap.size < w1.heap.size := hP1.lt
  obtain ⟨w2, hw2⟩ : ∃ w2, w1.alloc (.cells #[.int .i64 (ds.length : Int)] 2) = w2 := ⟨_, rfl⟩
  have hb2 : Below w1.heap.size w1 w2 := hw2 ▸ (Below.refl _ _).alloc (Nat.le_refl _) _
  have hlit : Blk w2 w1.heap.size 2 #[.int .i64 (ds.length : Int)] := hw2 ▸ Blk.new w1 2 _
  have hin := pnInt_any (some ⟨w1.heap.size, 0, none⟩) 1 [(ds.length : Int)] w2 (hP1.below hb2) (fun W hW => C_blkI [(ds.length : Int)] (hW.k _ _ _ (by decide) (by decide) hlit) (by simp)) (by simp)
  have HIN := Lib.hid hin
  have HX := Lib.hid (And.intro (hb1.trans (hb2.mono (Nat.le_of_lt hs1))) (And.intro hr (And.intro hl hs1)))
  clear hin hlit hb1 hb2 hP1 hs1 hr hl
  go_enter Tryz.func15, Tryz.ntmps15
  go_wp2_with fail
  refine HIN.out.mono ?_
  rintro e w3 ⟨rfl, hP3, hB3⟩
  have HN := Lib.hid (And.intro hP3 hB3)
  clear hP3 hB3
  go_wp2
  go_loopw [15] (fun kv wr => ∃ k : Nat, kv = .int .i64 (k : Int) ∧ k ≤ ds.length ∧ RowKit.Hid (PenIs wr w.heap.size w.heap.size (laidI (ds.length : Int) ++ laidDs (ds.take k)) ∧ Below w.heap.size w wr)) (fun k _ => ds.length - (intOf k).toNat)
  case atStart => exact ⟨0, rfl, Nat.zero_le _, Lib.hid ⟨by simpa [laidDs, laidIs] using HN.out.1, HX.out.1.trans HN.out.2.b⟩⟩
  case round =>
    obtain ⟨k, rfl, hk, HP⟩ := hrel
    by_cases hlt : k < ds.length
    · rcases A with _ | ad
      · exact absurd (HX.out.2.1.2.2 (by omega)) (by simp)
      obtain ⟨A1, c1, d0, d1, hlc, hCx⟩ := C_atD HX.out.2.1 k hlt
      have d0 := pw_cell_below HP.out.2 d0
      have d1 := pw_cell_below HP.out.2 d1
      have hsn := laidDs_snoc ds hlt
      have hle := laidDs_take_le ds (k + 1)
      rw [hsn, List.length_append, laidD_len] at hle
      generalize ds[k] = x at *
      obtain ⟨x0, x1⟩ := x
      simp only at hle hlc hCx d0 d1
      obtain ⟨wb, hwb⟩ : ∃ wb, wr.alloc (.cells #[.int .i64 x0, .slice A1 x1.length c1] 26) = wb := ⟨_, rfl⟩
      have hBb : Below wr.heap.size wr wb := hwb ▸ (Below.refl _ _).alloc (Nat.le_refl _) _
      have hT : Blk wb wr.heap.size 26 #[.int .i64 x0, .slice A1 x1.length c1] := hwb ▸ Blk.new wr 26 _
      obtain ⟨wc, hwc⟩ : ∃ wc, wb.alloc (.cells #[.int .i64 x0] 2) = wc := ⟨_, rfl⟩
      have hBc : Below wb.heap.size wb wc := hwc ▸ (Below.refl _ _).alloc (Nat.le_refl _) _
      have hlit : Blk wc wb.heap.size 2 #[.int .i64 x0] := hwc ▸ Blk.new wb 2 _
      have hTc : Blk wc wr.heap.size 26 #[.int .i64 x0, .slice A1 x1.length c1] := hT.below hBc hT.lt
      have hbc : Below wr.heap.size wr wc := hBb.trans (hBc.mono hBb.size)
      have hge : w.heap.size ≤ wr.heap.size := HP.out.2.size
      have hlX : (laidI (ds.length : Int) ++ laidDs (ds.take k)).length + (16 + 16 * x1.length) ≤ 2199023255552 := by
        rw [List.length_append, laidI_len]; have := HX.out.2.2.1; omega
      have hin := pnInt_any (some ⟨wb.heap.size, 0, none⟩) 1 [x0] wc (HP.out.1.below hbc) (fun W hW => C_blkI [x0] (hW.k _ _ _ (by decide) (by decide) hlit) (by simp)) (by simp only [List.length_cons, List.length_nil]; omega)
      have hc00 : wb.cell? ⟨wr.heap.size, 0, none⟩ = some (.int .i64 x0) := hT.cell 0
      have HIN := Lib.hid hin
      have HD := Lib.hid (And.intro hsn (And.intro hCx (And.intro hTc (And.intro (KB.of_below hbc hge) hlX))))
      clear hin hsn hle hCx hT hTc hBb hBc hbc hlit hge hlX
      go_wp2_with fail
      refine HIN.out.mono ?_
      rintro e w5 ⟨rfl, hP5, hB5⟩
      have hT5 := hB5.k _ _ _ (by decide) (by decide) HD.out.2.2.1
      have hc51 : w5.cell? ⟨wr.heap.size, 1, none⟩ = some (.slice A1 x1.length c1) := hT5.cell 1
      have hw5 : Below w.heap.size w w5 := HP.out.2.trans (HD.out.2.2.2.1.b.trans hB5.b)
      have hst := pnStamps_any A1 c1 x1 w5 hP5 (fun W hW => Kd.C_below HD.out.2.1 (hw5.trans hW.b)) (by have := HD.out.2.2.2.2; simp only [laidIs, List.map_cons, List.map_nil, List.flatten_cons, List.flatten_nil, List.append_nil, List.length_append, laidI_len] at *; omega)
      have HST := Lib.hid (And.intro hst hw5)
      clear hst hP5 hB5 hT5 hw5
      go_wp2_with fail
      refine HST.out.1.mono ?_
      rintro e w6 ⟨rfl, hP6, hB6⟩
      have HN6 := Lib.hid (And.intro hP6 hB6)
      clear hP6 hB6
      go_wp2_with fail
      go_roundw
      case rel => exact ⟨k + 1, by go_num, by omega, Lib.hid ⟨by rw [HD.out.1]; simpa [laidIs, laidD, List.append_assoc] using HN6.out.1, HST.out.2.trans HN6.out.2.b⟩⟩
      case measure => simp [intOf]; omega
    · obtain rfl : k = ds.length := by omega
      have hP := HP.out
      rw [List.take_length] at hP
      obtain ⟨Z, hZ⟩ : ∃ Z, laidDeps ds = Z := ⟨_, rfl⟩
      rw [show laidI (ds.length : Int) ++ laidDs ds = Z from hZ] at hP
      have hbt := pnBytes_any wr hP.1 (by rw [← hZ]; unfold laidDeps; rw [List.length_append, laidI_len]; have := HX.out.2.2.1; omega)
      have HZ := Lib.hid hZ
      clear hZ
      have HBT := Lib.hid (And.intro hbt hP)
      clear hbt hP
      go_wp2_with fail
      refine HBT.out.1.mono ?_
      rintro e w4 ⟨v4, rfl, ho4, hb4⟩
      have HO := Lib.hid (And.intro ho4 hb4)
      obtain ⟨A5, c5, rfl⟩ := own_slice ho4
      clear ho4 hb4
      go_wp2
      go_ret
      exact ⟨_, rfl, by rw [HZ.out]; exact RowB.lower HO.out.1 HBT.out.2.2.size, HBT.out.2.2.trans (HO.out.2.mono HBT.out.2.2.size)⟩
def deps_Put.f (d : List S26) : Option (List Int) := if (laidDs d).length ≤ 1099511627776 ∧ d.length ≤ 1099511627776 then some (laidDeps d) else none
theorem deps_Put.calls (A0 : Option Addr) (c0 : Nat) (l0 : List S26) (r : List Int) (w : World) (hr0 : Kd.C k26 w A0 l0.length l0) (_hc0 : l0.length ≤ c0) (h : deps_Put.f l0 = some r) :
    Calls Tryz.prog 15 #[.slice A0 l0.length c0] w fun e w' => ∃ v0_ : Value, e = .returned (v0_) ∧ Kd.R (Kd.int .u8) 5 w' w.heap.size (fun _ => True) v0_ r ∧ Below w.heap.size w w' := by
  unfold deps_Put.f at h
  split at h
  · rename_i hc
    injection h with h
    subst h
    exact (put_any A0 c0 l0 w hr0 hc.1 hc.2).mono fun e w' ⟨v, he, ho, hb⟩ => ⟨v, he, Kd.R_of_own ho (fun _ _ => trivial), hb⟩
  · cases h
end Go.Proofs.YtaedlmeaconflaaGreat.P
end
section
set_option linter.unusedVariables false
set_option linter.unusedSimpArgs false
namespace Go.Proofs.YtaedlmeaconflaaGreat.P
open Go.RowKit Go.Proofs.YtaedlmeaconflaaGreatW.PrintWords Go.Proofs.YtaedlmeaconflaaGreatW.PrintLast Go.Proofs.YtaedlmeaconflaaGreatW.PrintMore
def readS (xs : List Int) : S41 := ⟨i64 (numOf xs 8), i64 (numOf (xs.drop 8) 8)⟩
def readSs (n : Nat) (xs : List Int) : List S41 := (List.range n).map fun k => readS (xs.drop (16 * k))
theorem readSs_snoc (n : Nat) (xs : List Int) : readSs (n + 1) xs = readSs n xs ++ [readS (xs.drop (16 * n))] := by unfold readSs; rw [List.range_succ, List.map_append]; rfl
theorem readSs_len (n : Nat) (xs : List Int) : (readSs n xs).length = n := by simp [readSs]
section
variable {w : World} {g ab be : Nat} {xs : List Int}
theorem flstamp_ok (h : EyeIs w g ab xs false) (hx : bytesOk xs) (hl : 16 ≤ xs.length) : Calls Tryz.prog 82 #[ptr g] w fun e w' => e = .returned (.agg #[.int .i64 (readS xs).f0, .int .i64 (readS xs).f1]) ∧ EyeIs w' g ab (xs.drop 16) false ∧ Upd w w' (· = g) := by
  obtain ⟨w1, hw1⟩ : ∃ w1, w.alloc (.cells #[.int .i64 0, .int .i64 0] 41) = w1 := ⟨_, rfl⟩
  have hb1 : Below w.heap.size w w1 := hw1 ▸ (Below.refl _ _).alloc (Nat.le_refl _) _
  have hT : Blk w1 w.heap.size 41 #[.int .i64 0, .int .i64 0] := hw1 ▸ Blk.new w 41 _
  have hlt := h.lt;have hab := h.old
  have hn := number_ok (h.below hb1) hx 8 (by omega) (by omega)
  have hi := i64_wrap (n := numOf xs 8) (numOf_lt hx 8)
  have hi2 := i64_wrap (n := numOf (xs.drop 8) 8) (numOf_lt (bytesOk_drop hx 8) 8)
  have hrs : readS xs = ⟨i64 (numOf xs 8), i64 (numOf (xs.drop 8) 8)⟩ := rfl
  rw [hrs]
  have HN := Lib.hid hn
  have HX := Lib.hid (And.intro hb1 (And.intro hT (And.intro hlt (And.intro hab hx))))
  clear hn hb1 hT hlt hab hx h hrs
  generalize hm : numOf xs 8 = m at *
  generalize hm2 : numOf (xs.drop 8) 8 = m2 at *
  have HM := Lib.hid (And.intro hm hm2)
  clear hm hm2
  go_enter Tryz.func82, Tryz.ntmps82
  go_wp2_with fail
  refine HN.out.mono ?_
  rintro e w2 ⟨rfl, hE2, hu2⟩
  have hn2 := number_ok hE2 (bytesOk_drop HX.out.2.2.2.2 8) 8 (by rw [List.length_drop]; omega) (by omega)
  rw [HM.out.2, List.drop_drop] at hn2
  have HN2 := Lib.hid (And.intro hn2 hu2)
  clear hn2 hE2 hu2
  go_wp2_with fail
  refine HN2.out.1.mono ?_
  rintro e w3 ⟨rfl, hE3, hu3⟩
  have hT3 := HX.out.2.1.upd (HN2.out.2.trans hu3) (fun e => by have := HX.out.2.2.1; omega)
  have hc0 : w3.cell? ⟨w.heap.size, 0, none⟩ = some (.int .i64 0) := hT3.cell 0
  have hc1 : w3.cell? ⟨w.heap.size, 1, none⟩ = some (.int .i64 0) := hT3.cell 1
  have hz0 := hT3.frozen 0
  have hz1 := hT3.frozen 1
  have HE := Lib.hid (And.intro hE3 (And.intro hu3 hT3))
  clear hE3 hu3 hT3
  obtain ⟨w4, hw4⟩ : ∃ w4, (w3.setCell ⟨w.heap.size, 0, none⟩ (.int .i64 (i64 m))).setCell ⟨w.heap.size, 1, none⟩ (.int .i64 (i64 m2)) = w4 := ⟨_, rfl⟩
  go_wp2_with fail
  obtain ⟨hE3, hu3, hT3⟩ := HE.out
  have hT4 : Blk w4 w.heap.size 41 #[.int .i64 (i64 m), .int .i64 (i64 m2)] := hw4 ▸ (hT3.set_ 0 (.int .i64 (i64 m))).set_ 1 (.int .i64 (i64 m2))
  have hu4 : Upd w3 w4 (· = w.heap.size) := hw4 ▸ ((Upd.refl w3 (· = w.heap.size)).setCell (p := ⟨w.heap.size, 0, none⟩) (.inl rfl) _).setCell (p := ⟨w.heap.size, 1, none⟩) (.inl rfl) _
  obtain ⟨hb1, _, hlt, hab, _⟩ := HX.out
  refine bodyPost_ret (results_cell_row (by rfl) _ _ w.heap.size 41 #[.int .i64 (i64 m), .int .i64 (i64 m2)] (0, 0) _ (by rfl) hT4 Tryz.underlying41 (by rfl) (by kernel_rfl)) rfl ?_
  refine ⟨rfl, ?_, ?_⟩
  · exact hE3.upd hu4 (fun e => by omega) (fun e => by omega)
  · refine ((Upd.of_below hb1 (· = g)).trans (HN2.out.2.trans hu3)).then_new (hu4.mono fun k _ hk => .inr ?_)
    omega
def stOk (xs : List Int) : Bool := decide (8 ≤ xs.length ∧ 0 ≤ i64 (numOf xs 8) ∧ i64 (numOf xs 8) ≤ ((xs.length - 8) / 16 : Nat))
def sStamps (s : Sight) : List S41 × Sight := if s.2 = true ∨ stOk s.1 = false then ([], (s.1, true)) else (readSs (i64 (numOf s.1 8)).toNat (s.1.drop 8), (s.1.drop (8 + 16 * (i64 (numOf s.1 8)).toNat), false))
set_option maxHeartbeats 2000000 in
set_option maxRecDepth 100000 in
theorem stamps1_ok (h : EyeIs w g ab xs false) (hx : bytesOk xs) (he : w.cell? ⟨be, 0, none⟩ = some (ptr g)) (hbe : be ≠ g) (n : Nat) (hl : 8 + 16 * n ≤ xs.length) (hn : i64 (numOf xs 8) = (n : Int)) (hxl : xs.length ≤ 1099511627776) :
    Calls Tryz.prog 80 #[ptr be] w fun e w' => ∃ v, e = .returned v ∧ RowS w' w.heap.size v (readSs n (xs.drop 8)) ∧ EyeIs w' g ab (xs.drop (8 + 16 * n)) false ∧ Upd w w' (· = g) := by
  have hnum := number_ok h hx 8 (by omega) (by omega)
  have hi := i64_wrap (n := numOf xs 8) (numOf_lt hx 8)
  rw [hn] at hi
  generalize numOf xs 8 = m at *
  have HN := Lib.hid hnum
  have HX := Lib.hid (And.intro hx (And.intro he hbe))
  have HG := Lib.hid (And.intro h.lt h.old)
  clear h hnum hx hn
  go_enter Tryz.func80, Tryz.ntmps80
  go_wp2_with fail
  refine HN.out.mono ?_
  rintro e w1 ⟨rfl, hE1, hu1⟩
  have he1 : w1.cell? ⟨be, 0, none⟩ = some (ptr g) := (World.cell?_of_block (w := w) (hu1.block be (World.block_lt_of_cell? w _ he) hbe)).trans he
  obtain ⟨A, c, hB, hAc, hF⟩ := hE1.ex
  have hc0 : w1.cell? ⟨g, 0, none⟩ = some (.slice A (xs.drop 8).length c) := hB.cell 0
  have hlen : (xs.drop 8).length = xs.length - 8 := List.length_drop
  have h0 : decide ((0 : Int) ≤ (n : Int)) = true := decide_eq_true (by omega)
  have HE := Lib.hid (And.intro hE1 hu1)
  clear hB hF hE1 hu1
  have hq : decide ((n : Int) ≤ ((xs.length - 8 : Nat) : Int) / 16) = true := decide_eq_true (by omega)
  go_wp2_with fail
  refine (must_true w1).mono ?_
  rintro e w2 ⟨rfl, rfl⟩
  clear hc0 hq h0
  go_wp2
  go_loopw [1, 20] (fun so si wr => ∃ (k : Nat) (A' : Option Addr) (c' : Nat), so = .slice A' k c' ∧ si = .int .i64 (k : Int) ∧ k ≤ n ∧ RowKit.Hid (RowS wr w.heap.size (.slice A' k c') (readSs k (xs.drop 8)) ∧ EyeIs wr g ab (xs.drop (8 + 16 * k)) false ∧ Upd w wr (· = g))) (fun _ si _ => n - (intOf si).toNat)
  case atStart => exact ⟨0, none, 0, rfl, rfl, by omega, Lib.hid ⟨by simpa [readSs] using rowS_nil w2 w.heap.size, HE.out.1, HE.out.2⟩⟩
  case round =>
    obtain ⟨k, A', c', rfl, rfl, hk, HS⟩ := hrel
    by_cases hlt : k < n
    · have hst := flstamp_ok HS.out.2.1 (bytesOk_drop HX.out.1 _) (by rw [List.length_drop]; omega)
      rw [List.drop_drop] at hst
      have hsn := readSs_snoc k (xs.drop 8)
      rw [List.drop_drop] at hsn
      have hbc : wr.cell? ⟨be, 0, none⟩ = some (ptr g) := (World.cell?_of_block (w := w) (HS.out.2.2.block be (World.block_lt_of_cell? w _ HX.out.2.1) HX.out.2.2)).trans HX.out.2.1
      generalize readS (xs.drop (8 + 16 * k)) = x at *
      obtain ⟨x0, x1⟩ := x
      have HST := Lib.hid (And.intro hst hsn)
      clear hst hsn
      go_wp2_with fail
      refine HST.out.1.mono ?_
      rintro e w3 ⟨rfl, hE3, hu3⟩
      have hvg : ∀ q, (Value.slice A' k c').ownBlock = some q → ¬ q = g := fun q hq e => by have := (HS.out.1.lt q hq).1; have := HG.out.1; omega
      have hv3 : RowS w3 w.heap.size (.slice A' k c') (readSs k (xs.drop 8)) := own_move HS.out.1 (fun q hq => hu3.block q (HS.out.1.lt q hq).2 (hvg q hq))
      have HN3 := Lib.hid (And.intro hE3 (And.intro (HS.out.2.2.trans hu3) (And.intro hv3 hvg)))
      clear hE3 hu3 hv3 hvg
      go_wp2_with (first | ((with_reducible refine gate_builtin (b := .append) (xs := #[.tmp 22, .tmp 25]) rfl ?_); at_builtin; refine stop_append rfl ?_))
      refine Lib.hid ?_;refine Kd.R_append k41 (w0 := w3) w.heap.size rfl (.tmp 22) (.tmp 25) 24 41 (.agg #[.int .i64 0, .int .i64 0]) 16 rfl Tryz.underlying24 info41 rfl (by decide) (by decide) (.slice A' k c') (readSs k (xs.drop 8)) ⟨x0, x1⟩ [.int .i64 x0, .int .i64 x1] (fun _ => True) (fun _ => False) rfl rfl (k41_mkM _ _ _ _) (fun _ h => h.elim) (fun _ _ => trivial) (RowS.R HN3.out.2.2.1) (Below.refl _ _) HN3.out.2.1.size (by rw [readSs_len]; omega) ?_;intro v4 w4 hR4 hB4 hg4 hat4
      rw [← HST.out.2] at hR4
      obtain ⟨A4, c4, rfl⟩ := Kd.R_slice hR4
      have hu4 : Upd w3 w4 (fun q => w.heap.size ≤ q) := Upd.of_grown hg4 (fun q hq => (HN3.out.2.2.1.lt q hq).1)
      have HN4 := Lib.hid (And.intro (RowS.of_R hR4) hu4)
      rw [readSs_len] at HN4
      rw [readSs_len]
      clear hR4 hB4 hg4 hat4 hu4
      go_wp2_with fail
      go_roundw
      case rel => exact ⟨k + 1, A4, c4, rfl, by go_num, by omega, Lib.hid ⟨HN4.out.1, by
        have := HN3.out.1.upd HN4.out.2 (fun h => by have := HG.out.1; omega) (fun h => by have := HG.out.2; omega)
        rwa [show 8 + 16 * k + 16 = 8 + 16 * (k + 1) by omega] at this, HN3.out.2.1.then_new (HN4.out.2.mono fun q _ hq => .inr hq)⟩⟩
      case measure => simp [intOf]; omega
    · obtain rfl : k = n := by omega
      go_wp2
      go_ret
      exact ⟨_, rfl, HS.out⟩
theorem stamps1_short (h : EyeIs w g ab xs false) (he : w.cell? ⟨be, 0, none⟩ = some (ptr g)) (hl : xs.length < 8) : Calls Tryz.prog 80 #[ptr be] w fun e w' => e = .panicked sightP ∧ (∃ v0, Blk w' g 103 #[v0, .bool false]) ∧ Upd w w' (· = g) := by
  have hn := number_short h 8 hl
  obtain ⟨A, c, hB, _, _⟩ := h.ex
  have HN := Lib.hid hn; have HB := Lib.hid hB
  clear h hn hB
  go_enter Tryz.func80, Tryz.ntmps80
  go_wp2_with fail
  refine HN.out.mono ?_
  rintro e w1 ⟨rfl, rfl⟩
  go_wp2_with fail
  exact ⟨rfl, rfl, ⟨_, HB.out⟩, Upd.refl _ _⟩
set_option maxHeartbeats 1000000 in
set_option maxRecDepth 100000 in
theorem stamps1_bad (h : EyeIs w g ab xs false) (hx : bytesOk xs) (he : w.cell? ⟨be, 0, none⟩ = some (ptr g)) (hbe : be ≠ g) (hl : 8 ≤ xs.length) (n : Int) (hn : i64 (numOf xs 8) = n) (hb : n < 0 ∨ ((xs.length - 8 : Nat) : Int) / 16 < n) (hxl : xs.length ≤ 1099511627776) :
    Calls Tryz.prog 80 #[ptr be] w fun e w' => e = .panicked sightP ∧ (∃ v0, Blk w' g 103 #[v0, .bool false]) ∧ Upd w w' (· = g) := by
  have hnum := number_ok h hx 8 (by omega) (by omega)
  have hi := i64_wrap (n := numOf xs 8) (numOf_lt hx 8)
  rw [hn] at hi
  generalize numOf xs 8 = m at *
  have HN := Lib.hid hnum
  clear h hnum hn
  go_enter Tryz.func80, Tryz.ntmps80
  go_wp2_with fail
  refine HN.out.mono ?_
  rintro e w1 ⟨rfl, hE1, hu1⟩
  have he1 : w1.cell? ⟨be, 0, none⟩ = some (ptr g) := (World.cell?_of_block (w := w) (hu1.block be (World.block_lt_of_cell? w _ he) hbe)).trans he
  obtain ⟨A, c, hB, hAc, hF⟩ := hE1.ex
  have hc0 : w1.cell? ⟨g, 0, none⟩ = some (.slice A (xs.drop 8).length c) := hB.cell 0
  have hlen : (xs.drop 8).length = xs.length - 8 := List.length_drop
  have HE := Lib.hid (And.intro hB hu1)
  clear hB hF hE1 hu1
  by_cases h0 : 0 ≤ n
  · have hq : decide (n ≤ ((xs.length - 8 : Nat) : Int) / 16) = false := decide_eq_false (by omega)
    have d0 : decide (0 ≤ n) = true := decide_eq_true h0
    clear hb
    go_wp2_with fail
    refine (must_false w1).mono ?_
    rintro e w2 ⟨rfl, rfl⟩
    go_wp2_with fail
    exact ⟨rfl, rfl, ⟨_, HE.out.1⟩, HE.out.2⟩
  · have d0 : decide (0 ≤ n) = false := decide_eq_false h0
    clear hb
    go_wp2_with fail
    refine (must_false w1).mono ?_
    rintro e w2 ⟨rfl, rfl⟩
    go_wp2_with fail
    exact ⟨rfl, rfl, ⟨_, HE.out.1⟩, HE.out.2⟩
theorem entersSs : ∀ args w, (callFunc 80 args).run Tryz.prog w = .ok (.enter 80 args) w := enters_of Tryz.func80 (by kernel_rfl) rfl
theorem sStamps_bad {s : Sight} (h : s.2 = true ∨ stOk s.1 = false) : sStamps s = ([], (s.1, true)) := if_pos h
theorem sStamps_ok {xs : List Int} {n : Nat} (h : stOk xs = true) (hn : i64 (numOf xs 8) = (n : Int)) : sStamps (xs, false) = (readSs n (xs.drop 8), (xs.drop (8 + 16 * n), false)) := by
  unfold sStamps
  rw [if_neg (by simp [h]), hn, Int.toNat_natCast]
theorem flStamps_any (s : Sight) (h : EyeIs w g ab s.1 s.2) (hx : bytesOk s.1) (hxl : s.1.length ≤ 1099511627776) : Calls Tryz.prog 38 #[ptr g] w fun e w' => ∃ v, e = .returned v ∧ RowS w' w.heap.size v (sStamps s).1 ∧ EyeIs w' g ab (sStamps s).2.1 (sStamps s).2.2 ∧ Upd w w' (· = g) := by
  obtain ⟨xs, bl⟩ := s
  obtain ⟨w1, hw1⟩ : ∃ w1, w.alloc (.cells #[ptr g] 63) = w1 := ⟨_, rfl⟩
  have hb1 : Below w.heap.size w w1 := hw1 ▸ (Below.refl _ _).alloc (Nat.le_refl _) _
  have h0B : Blk w1 w.heap.size 63 #[ptr g] := hw1 ▸ Blk.new w 63 #[ptr g]
  have h0 : w1.cell? ⟨w.heap.size, 0, none⟩ = some (ptr g) := h0B.cell 0
  have h1 := h.below hb1
  have hlt := h.lt
  have hmf : ∀ (fn : Fn) (first cap : Array Value) (w : World), (Instr.makeFunc fn first cap).run Tryz.prog w = .ok (.func fn first cap) w := fun _ _ _ _ => rfl
  have hs : Calls Tryz.prog 79 #[ptr g, .func (.func 80) #[] #[ptr w.heap.size]] w1 fun e w' => ∃ v, e = .returned v ∧ RowS w' w1.heap.size v (sStamps (xs, bl)).1 ∧ EyeIs w' g ab (sStamps (xs, bl)).2.1 (sStamps (xs, bl)).2.2 ∧ Upd w1 w' (· = g) := by
    cases bl with
    | true =>
      rw [sStamps_bad (.inl rfl)]
      exact (seeS_blind h1 _ _ _).mono fun e w' ⟨he, hb⟩ => ⟨_, he, rowS_nil _ _, h1.below hb, Upd.of_below hb _⟩
    | false =>
      cases hok : stOk xs with
      | false =>
        rw [sStamps_bad (.inr hok)]
        by_cases hl : xs.length < 8
        · exact (seeS_bad h1 80 _ entersSs fun W hE hb => stamps1_short hE (pw_cell_below (hb) h0) hl).mono fun e w' ⟨he, hE, hu⟩ => ⟨_, he, rowS_nil _ _, hE, hu⟩
        · have hb2 : i64 (numOf xs 8) < 0 ∨ ((xs.length - 8 : Nat) : Int) / 16 < i64 (numOf xs 8) := by
            have : ¬ (8 ≤ xs.length ∧ 0 ≤ i64 (numOf xs 8) ∧ i64 (numOf xs 8) ≤ ((xs.length - 8) / 16 : Nat)) := of_decide_eq_false hok
            omega
          exact (seeS_bad h1 80 _ entersSs fun W hE hb => stamps1_bad hE hx (pw_cell_below (hb) h0) (by omega) (by show 8 ≤ xs.length; omega) _ rfl hb2 hxl).mono fun e w' ⟨he, hE, hu⟩ => ⟨_, he, rowS_nil _ _, hE, hu⟩
      | true =>
        have hk : 8 ≤ xs.length ∧ 0 ≤ i64 (numOf xs 8) ∧ i64 (numOf xs 8) ≤ ((xs.length - 8) / 16 : Nat) := of_decide_eq_true hok
        obtain ⟨n, hn⟩ : ∃ n : Nat, i64 (numOf xs 8) = (n : Int) := ⟨(i64 (numOf xs 8)).toNat, by omega⟩
        rw [sStamps_ok hok hn]
        exact seeS_ok h1 80 _ entersSs _ fun W hE hb => stamps1_ok hE hx (pw_cell_below hb h0) (by omega) n (by show 8 + 16 * n ≤ xs.length; omega) hn hxl
  have HS := Lib.hid hs; have HB := Lib.hid hb1
  clear h h0B h1 hs hb1
  generalize sStamps (xs, bl) = r at *
  go_enter Tryz.func38, Tryz.ntmps38
  go_wp2_with fail
  refine HS.out.mono ?_
  rintro e w2 ⟨v2, rfl, hv, hE, hu⟩
  have HO := Lib.hid (And.intro hv (And.intro hE hu))
  obtain ⟨A2, c2, rfl⟩ := own_slice hv
  clear hv hE hu
  go_wp2_with fail
  go_ret
  exact ⟨_, rfl, rowS_lower HO.out.1 HB.out.size, HO.out.2.1, (Upd.of_below HB.out _).trans HO.out.2.2⟩
end
end Go.Proofs.YtaedlmeaconflaaGreat.P
end
