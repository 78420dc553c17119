/- what the claim's row stands on, part 6. -/
import Derived.Test.YtaedlmeaconflaaZo2
import Derived.Test.YtaedlmeaconflaaZo5
section
set_option linter.unusedVariables false
set_option linter.unusedSimpArgs false
namespace Go.Proofs.Ytaedlmeaconflaa.P
open Go.RowKit Go.Proofs.YtaedlmeaconflaaW.PrintWords Go.Proofs.YtaedlmeaconflaaW.PrintLast Go.Proofs.YtaedlmeaconflaaW.PrintMore
attribute [local go_sem] max2_int min2_int max_two min_two max_three min_three max_four min_four   -- for this text's walks alone
set_option linter.unusedVariables false
set_option linter.unusedSimpArgs false
def folkmootref06_Same.l0 : Nat → List (S39) → List (S39) → Int → Option (Bool)
 | 0, _, _, _ => none
 | k + 1, x0, x1, x5 => if x5 < (x0.length : Int) then (if 0 ≤ x5 then (if x5 < (x1.length : Int) then (if ((rd_T39 x0 x5).f0) = ((rd_T39 x1 x5).f0) then ((folkmootref01_Same.f k ((rd_T39 x0 x5).f1) ((rd_T39 x1 x5).f1)).bind fun t135 => (if t135 = true then (folkmootref06_Same.l0 k x0 x1 (wrap64 (x5 + 1))) else (some false))) else (some false)) else (none)) else (none)) else (some true)
def folkmootref06_Same.f (k : Nat) (l0 : List (S39)) (l1 : List (S39)) : Option (Bool) := if (l0.length : Int) = (l1.length : Int) then (folkmootref06_Same.l0 k l0 l1 0) else (some false)
set_option maxHeartbeats 8000000 in
set_option maxRecDepth 100000 in
theorem folkmootref06_Same.calls (k : Nat) (A0 : Option Addr) (c0 : Nat) (l0 : List (S39)) (A1 : Option Addr) (c1 : Nat) (l1 : List (S39)) (r : Bool) (w : World) (hr0 : Kd.C k39 w A0 l0.length l0) (hc0 : l0.length ≤ c0) (hr1 : Kd.C k39 w A1 l1.length l1) (hc1 : l1.length ≤ c1) (h : folkmootref06_Same.f k l0 l1 = some r) :
  Calls Try.prog 11 #[.slice A0 l0.length c0, .slice A1 l1.length c1] w fun e w' => e = .returned (.bool r) ∧ Drawn0 w w' := by
 have HR0 := Aside0.mk hr0
 have HC0 := Aside0.mk hc0
 clear hr0 hc0
 have HR1 := Aside0.mk hr1
 have HC1 := Aside0.mk hc1
 clear hr1 hc1
 have H : (if (l0.length : Int) = (l1.length : Int) then (folkmootref06_Same.l0 k l0 l1 0) else (some false)) = some r := h
 clear h
 by_cases c3 : (l0.length : Int) = (l1.length : Int)
 ·rw [if_pos c3] at H
  have c3b0 : ((l0.length : Int) == (l1.length : Int)) = true := beq_iff_eq.mpr c3
  have c3b1 : ((l0.length : Int) != (l1.length : Int)) = false := bne_eq_false_iff_eq.mpr c3
  have c3b2 : (l0.length == l1.length) = true := by first | simpa using c3 | (simp at c3 ⊢; omega)
  clear c3
  have H' := Aside0.mk H
  clear H
  go_enter Try.func11, Try.ntmps11
  go_wp2
  repeat (go_quiet (fail); try go_wp2)
  go_loopg [5] k (fun kq v5 w' => ∃ (x5_1 : Int), v5 = .int .i64 x5_1 ∧ Aside0 (folkmootref06_Same.l0 kq l0 l1 x5_1 = some r) ∧ Aside0 (kq ≤ k) ∧ Drawn0 w w')
  case atStart => exact ⟨(0), (by first | rfl | (simp; done) | (simp [*]; done)), H', ⟨Nat.le_refl _⟩, by repeat (first | exact Drawn0.refl _ | apply Drawn0.step)⟩
  case round =>
   clear H'
   try clear c1
   try clear p2
   try clear c3
   try clear c3b0
   try clear c3b1
   try clear c3b2
   obtain ⟨x5_1, rfl, HA, HK1, ⟨m1, rfl⟩⟩ := hrel
   cases gk with
   | zero => exact absurd HA.out (by simp [folkmootref06_Same.l0])
   | succ k1 =>
    have H := HA.out
    clear HA
    simp only [folkmootref06_Same.l0] at H
    by_cases c4 : x5_1 < (l0.length : Int)
    ·rw [if_pos c4] at H
     have c4b0 : decide (x5_1 < (l0.length : Int)) = true := decide_eq_true c4
     clear c4
     by_cases c5 : 0 ≤ x5_1
     ·rw [if_pos c5] at H
      have c5b0 : decide (0 ≤ x5_1) = true := decide_eq_true c5
      clear c5
      by_cases c6 : x5_1 < (l1.length : Int)
      ·rw [if_pos c6] at H
       have c6b0 : decide (x5_1 < (l1.length : Int)) = true := decide_eq_true c6
       clear c6
       by_cases c7 : ((rd_T39 l0 x5_1).f0) = ((rd_T39 l1 x5_1).f0)
       ·rw [if_pos c7] at H
        have c7b0 : (((rd_T39 l0 x5_1).f0) == ((rd_T39 l1 x5_1).f0)) = true := beq_iff_eq.mpr c7
        have c7b1 : (((rd_T39 l0 x5_1).f0) != ((rd_T39 l1 x5_1).f0)) = false := bne_eq_false_iff_eq.mpr c7
        clear c7
        replace H := Option.bind_eq_some_iff.mp H
        obtain ⟨t135, A80, H⟩ := H
        replace H : (if t135 = true then (folkmootref06_Same.l0 k1 l0 l1 (wrap64 (x5_1 + 1))) else (some false)) = some r := H
        have A8 := Aside0.mk A80
        clear A80
        by_cases c9 : t135 = true
        ·subst c9
         have H1 : (folkmootref06_Same.l0 k1 l0 l1 (wrap64 (x5_1 + 1))) = some r := by rw [if_pos rfl] at H; exact H
         clear H
         have H := H1
         clear H1
         have H' := Aside0.mk H
         clear H
         have p131 : 0 ≤ (x5_1 : Int) := of_decide_eq_true (by first | (with_reducible assumption) | assumption)
         have q131 : x5_1 < (l0.length : Int) := of_decide_eq_true (by first | (with_reducible assumption) | assumption)
         obtain ⟨ad131, A131_1, c131_1, e131, hx131_0, hx131_1, hl131_1, hi131_1⟩ := at_T39 HR0.out x5_1 p131 q131
         cases e131
         have HR131_1 := Aside0.mk hi131_1
         have HC131_1 := Aside0.mk hl131_1
         clear hi131_1 hl131_1
         replace p131 := eq_true p131
         replace q131 := eq_true q131
         have p132 : 0 ≤ (x5_1 : Int) := of_decide_eq_true (by first | (with_reducible assumption) | assumption)
         have q132 : x5_1 < (l1.length : Int) := of_decide_eq_true (by first | (with_reducible assumption) | assumption)
         obtain ⟨ad132, A132_1, c132_1, e132, hx132_0, hx132_1, hl132_1, hi132_1⟩ := at_T39 HR1.out x5_1 p132 q132
         cases e132
         have HR132_1 := Aside0.mk hi132_1
         have HC132_1 := Aside0.mk hl132_1
         clear hi132_1 hl132_1
         replace p132 := eq_true p132
         replace q132 := eq_true q132
         have p133 : 0 ≤ (x5_1 : Int) := of_decide_eq_true (by first | (with_reducible assumption) | assumption)
         have q133 : x5_1 < (l0.length : Int) := of_decide_eq_true (by first | (with_reducible assumption) | assumption)
         obtain ⟨ad133, A133_1, c133_1, e133, hx133_0, hx133_1, hl133_1, hi133_1⟩ := at_T39 HR0.out x5_1 p133 q133
         obtain rfl : ad131 = ad133 := (by injection e133)
         have HR133_1 := Aside0.mk hi133_1
         have HC133_1 := Aside0.mk hl133_1
         clear hi133_1 hl133_1
         replace p133 := eq_true p133
         replace q133 := eq_true q133
         have ea_ := Option.some.inj (hx131_1.symm.trans hx133_1)
         injection ea_ with ea_ en_ ec_
         subst ea_
         subst ec_
         clear en_
         have p134 : 0 ≤ (x5_1 : Int) := of_decide_eq_true (by first | (with_reducible assumption) | assumption)
         have q134 : x5_1 < (l1.length : Int) := of_decide_eq_true (by first | (with_reducible assumption) | assumption)
         obtain ⟨ad134, A134_1, c134_1, e134, hx134_0, hx134_1, hl134_1, hi134_1⟩ := at_T39 HR1.out x5_1 p134 q134
         obtain rfl : ad132 = ad134 := (by injection e134)
         have HR134_1 := Aside0.mk hi134_1
         have HC134_1 := Aside0.mk hl134_1
         clear hi134_1 hl134_1
         replace p134 := eq_true p134
         replace q134 := eq_true q134
         have ea_ := Option.some.inj (hx132_1.symm.trans hx134_1)
         injection ea_ with ea_ en_ ec_
         subst ea_
         subst ec_
         clear en_
         go_wp2_with (first | (go_at_call 12; (with_reducible refine (folkmootref01_Same.calls k1 _ _ ((rd_T39 l0 x5_1).f1) _ _ ((rd_T39 l1 x5_1).f1) true _ ?side1 ?side2 ?side3 ?side4 A8.out).mono ?_); (case side1 => repeat (first | exact HR133_1.out | (with_reducible refine Kd.C_alloc ?_ _) | (with_reducible refine Kd.C_drewN ?_ _) | (with_reducible refine Kd.C_drew ?_))); (case side2 => exact HC133_1.out); (case side3 => repeat (first | exact HR134_1.out | (with_reducible refine Kd.C_alloc ?_ _) | (with_reducible refine Kd.C_drewN ?_ _) | (with_reducible refine Kd.C_drew ?_))); (case side4 => exact HC134_1.out); rintro e w' ⟨rfl, ⟨nd, rfl⟩⟩; (try first | exact ⟨rfl, _, World.drewN_drewN _ _ _⟩ | exact ⟨rfl, _, Eq.trans (World.drewN_drewN _ _ _) (congrArg (World.drewN _) (Nat.add_assoc _ _ _))⟩)))
         repeat (go_quiet (first | (go_at_call 12; (with_reducible refine (folkmootref01_Same.calls k1 _ _ ((rd_T39 l0 x5_1).f1) _ _ ((rd_T39 l1 x5_1).f1) true _ ?side1 ?side2 ?side3 ?side4 A8.out).mono ?_); (case side1 => repeat (first | exact HR133_1.out | (with_reducible refine Kd.C_alloc ?_ _) | (with_reducible refine Kd.C_drewN ?_ _) | (with_reducible refine Kd.C_drew ?_))); (case side2 => exact HC133_1.out); (case side3 => repeat (first | exact HR134_1.out | (with_reducible refine Kd.C_alloc ?_ _) | (with_reducible refine Kd.C_drewN ?_ _) | (with_reducible refine Kd.C_drew ?_))); (case side4 => exact HC134_1.out); rintro e w' ⟨rfl, ⟨nd, rfl⟩⟩; (try first | exact ⟨rfl, _, World.drewN_drewN _ _ _⟩ | exact ⟨rfl, _, Eq.trans (World.drewN_drewN _ _ _) (congrArg (World.drewN _) (Nat.add_assoc _ _ _))⟩))); try go_wp2_with (first | (go_at_call 12; (with_reducible refine (folkmootref01_Same.calls k1 _ _ ((rd_T39 l0 x5_1).f1) _ _ ((rd_T39 l1 x5_1).f1) true _ ?side1 ?side2 ?side3 ?side4 A8.out).mono ?_); (case side1 => repeat (first | exact HR133_1.out | (with_reducible refine Kd.C_alloc ?_ _) | (with_reducible refine Kd.C_drewN ?_ _) | (with_reducible refine Kd.C_drew ?_))); (case side2 => exact HC133_1.out); (case side3 => repeat (first | exact HR134_1.out | (with_reducible refine Kd.C_alloc ?_ _) | (with_reducible refine Kd.C_drewN ?_ _) | (with_reducible refine Kd.C_drew ?_))); (case side4 => exact HC134_1.out); rintro e w' ⟨rfl, ⟨nd, rfl⟩⟩; (try first | exact ⟨rfl, _, World.drewN_drewN _ _ _⟩ | exact ⟨rfl, _, Eq.trans (World.drewN_drewN _ _ _) (congrArg (World.drewN _) (Nat.add_assoc _ _ _))⟩))))
         go_roundg k1
         case measure => have := HK1.out; omega
         case rel => exact ⟨(wrap64 (x5_1 + 1)), (by first | rfl | (simp; done) | (simp [*]; done)), H', ⟨by have := HK1.out; omega⟩, by repeat (first | exact Drawn0.refl _ | apply Drawn0.step)⟩
        ·replace c9 := Bool.eq_false_iff.mpr c9
         subst c9
         have H1 : (some false) = some r := by rw [if_neg (show ¬ (false = true) by decide)] at H; exact H
         clear H
         have H := H1
         clear H1
         obtain rfl := Option.some.inj H
         have p131 : 0 ≤ (x5_1 : Int) := of_decide_eq_true (by first | (with_reducible assumption) | assumption)
         have q131 : x5_1 < (l0.length : Int) := of_decide_eq_true (by first | (with_reducible assumption) | assumption)
         obtain ⟨ad131, A131_1, c131_1, e131, hx131_0, hx131_1, hl131_1, hi131_1⟩ := at_T39 HR0.out x5_1 p131 q131
         cases e131
         have HR131_1 := Aside0.mk hi131_1
         have HC131_1 := Aside0.mk hl131_1
         clear hi131_1 hl131_1
         replace p131 := eq_true p131
         replace q131 := eq_true q131
         have p132 : 0 ≤ (x5_1 : Int) := of_decide_eq_true (by first | (with_reducible assumption) | assumption)
         have q132 : x5_1 < (l1.length : Int) := of_decide_eq_true (by first | (with_reducible assumption) | assumption)
         obtain ⟨ad132, A132_1, c132_1, e132, hx132_0, hx132_1, hl132_1, hi132_1⟩ := at_T39 HR1.out x5_1 p132 q132
         cases e132
         have HR132_1 := Aside0.mk hi132_1
         have HC132_1 := Aside0.mk hl132_1
         clear hi132_1 hl132_1
         replace p132 := eq_true p132
         replace q132 := eq_true q132
         have p133 : 0 ≤ (x5_1 : Int) := of_decide_eq_true (by first | (with_reducible assumption) | assumption)
         have q133 : x5_1 < (l0.length : Int) := of_decide_eq_true (by first | (with_reducible assumption) | assumption)
         obtain ⟨ad133, A133_1, c133_1, e133, hx133_0, hx133_1, hl133_1, hi133_1⟩ := at_T39 HR0.out x5_1 p133 q133
         obtain rfl : ad131 = ad133 := (by injection e133)
         have HR133_1 := Aside0.mk hi133_1
         have HC133_1 := Aside0.mk hl133_1
         clear hi133_1 hl133_1
         replace p133 := eq_true p133
         replace q133 := eq_true q133
         have ea_ := Option.some.inj (hx131_1.symm.trans hx133_1)
         injection ea_ with ea_ en_ ec_
         subst ea_
         subst ec_
         clear en_
         have p134 : 0 ≤ (x5_1 : Int) := of_decide_eq_true (by first | (with_reducible assumption) | assumption)
         have q134 : x5_1 < (l1.length : Int) := of_decide_eq_true (by first | (with_reducible assumption) | assumption)
         obtain ⟨ad134, A134_1, c134_1, e134, hx134_0, hx134_1, hl134_1, hi134_1⟩ := at_T39 HR1.out x5_1 p134 q134
         obtain rfl : ad132 = ad134 := (by injection e134)
         have HR134_1 := Aside0.mk hi134_1
         have HC134_1 := Aside0.mk hl134_1
         clear hi134_1 hl134_1
         replace p134 := eq_true p134
         replace q134 := eq_true q134
         have ea_ := Option.some.inj (hx132_1.symm.trans hx134_1)
         injection ea_ with ea_ en_ ec_
         subst ea_
         subst ec_
         clear en_
         go_wp2_with (first | (go_at_call 12; (with_reducible refine (folkmootref01_Same.calls k1 _ _ ((rd_T39 l0 x5_1).f1) _ _ ((rd_T39 l1 x5_1).f1) false _ ?side1 ?side2 ?side3 ?side4 A8.out).mono ?_); (case side1 => repeat (first | exact HR133_1.out | (with_reducible refine Kd.C_alloc ?_ _) | (with_reducible refine Kd.C_drewN ?_ _) | (with_reducible refine Kd.C_drew ?_))); (case side2 => exact HC133_1.out); (case side3 => repeat (first | exact HR134_1.out | (with_reducible refine Kd.C_alloc ?_ _) | (with_reducible refine Kd.C_drewN ?_ _) | (with_reducible refine Kd.C_drew ?_))); (case side4 => exact HC134_1.out); rintro e w' ⟨rfl, ⟨nd, rfl⟩⟩; (try first | exact ⟨rfl, _, World.drewN_drewN _ _ _⟩ | exact ⟨rfl, _, Eq.trans (World.drewN_drewN _ _ _) (congrArg (World.drewN _) (Nat.add_assoc _ _ _))⟩)))
         repeat (go_quiet (first | (go_at_call 12; (with_reducible refine (folkmootref01_Same.calls k1 _ _ ((rd_T39 l0 x5_1).f1) _ _ ((rd_T39 l1 x5_1).f1) false _ ?side1 ?side2 ?side3 ?side4 A8.out).mono ?_); (case side1 => repeat (first | exact HR133_1.out | (with_reducible refine Kd.C_alloc ?_ _) | (with_reducible refine Kd.C_drewN ?_ _) | (with_reducible refine Kd.C_drew ?_))); (case side2 => exact HC133_1.out); (case side3 => repeat (first | exact HR134_1.out | (with_reducible refine Kd.C_alloc ?_ _) | (with_reducible refine Kd.C_drewN ?_ _) | (with_reducible refine Kd.C_drew ?_))); (case side4 => exact HC134_1.out); rintro e w' ⟨rfl, ⟨nd, rfl⟩⟩; (try first | exact ⟨rfl, _, World.drewN_drewN _ _ _⟩ | exact ⟨rfl, _, Eq.trans (World.drewN_drewN _ _ _) (congrArg (World.drewN _) (Nat.add_assoc _ _ _))⟩))); try go_wp2_with (first | (go_at_call 12; (with_reducible refine (folkmootref01_Same.calls k1 _ _ ((rd_T39 l0 x5_1).f1) _ _ ((rd_T39 l1 x5_1).f1) false _ ?side1 ?side2 ?side3 ?side4 A8.out).mono ?_); (case side1 => repeat (first | exact HR133_1.out | (with_reducible refine Kd.C_alloc ?_ _) | (with_reducible refine Kd.C_drewN ?_ _) | (with_reducible refine Kd.C_drew ?_))); (case side2 => exact HC133_1.out); (case side3 => repeat (first | exact HR134_1.out | (with_reducible refine Kd.C_alloc ?_ _) | (with_reducible refine Kd.C_drewN ?_ _) | (with_reducible refine Kd.C_drew ?_))); (case side4 => exact HC134_1.out); rintro e w' ⟨rfl, ⟨nd, rfl⟩⟩; (try first | exact ⟨rfl, _, World.drewN_drewN _ _ _⟩ | exact ⟨rfl, _, Eq.trans (World.drewN_drewN _ _ _) (congrArg (World.drewN _) (Nat.add_assoc _ _ _))⟩))))
         go_ret
         exact ⟨by first | rfl | (simp; done) | (simp [*]; done), by repeat (first | exact Drawn0.refl _ | apply Drawn0.step)⟩
       ·rw [if_neg c7] at H
        have c7b0 : (((rd_T39 l0 x5_1).f0) == ((rd_T39 l1 x5_1).f0)) = false := beq_eq_false_iff_ne.mpr c7
        have c7b1 : (((rd_T39 l0 x5_1).f0) != ((rd_T39 l1 x5_1).f0)) = true := bne_iff_ne.mpr c7
        obtain rfl := Option.some.inj H
        have p131 : 0 ≤ (x5_1 : Int) := of_decide_eq_true (by first | (with_reducible assumption) | assumption)
        have q131 : x5_1 < (l0.length : Int) := of_decide_eq_true (by first | (with_reducible assumption) | assumption)
        obtain ⟨ad131, A131_1, c131_1, e131, hx131_0, hx131_1, hl131_1, hi131_1⟩ := at_T39 HR0.out x5_1 p131 q131
        cases e131
        have HR131_1 := Aside0.mk hi131_1
        have HC131_1 := Aside0.mk hl131_1
        clear hi131_1 hl131_1
        replace p131 := eq_true p131
        replace q131 := eq_true q131
        have p132 : 0 ≤ (x5_1 : Int) := of_decide_eq_true (by first | (with_reducible assumption) | assumption)
        have q132 : x5_1 < (l1.length : Int) := of_decide_eq_true (by first | (with_reducible assumption) | assumption)
        obtain ⟨ad132, A132_1, c132_1, e132, hx132_0, hx132_1, hl132_1, hi132_1⟩ := at_T39 HR1.out x5_1 p132 q132
        cases e132
        have HR132_1 := Aside0.mk hi132_1
        have HC132_1 := Aside0.mk hl132_1
        clear hi132_1 hl132_1
        replace p132 := eq_true p132
        replace q132 := eq_true q132
        go_wp2
        repeat (go_quiet (fail); try go_wp2)
        go_ret
        exact ⟨by first | rfl | (simp; done) | (simp [*]; done), by repeat (first | exact Drawn0.refl _ | apply Drawn0.step)⟩
      ·rw [if_neg c6] at H
       exact absurd H (by simp)
     ·rw [if_neg c5] at H
      exact absurd H (by simp)
    ·rw [if_neg c4] at H
     have c4b0 : decide (x5_1 < (l0.length : Int)) = false := decide_eq_false c4
     clear c4
     obtain rfl := Option.some.inj H
     go_wp2
     repeat (go_quiet (fail); try go_wp2)
     go_ret
     exact ⟨by first | rfl | (simp; done) | (simp [*]; done), by repeat (first | exact Drawn0.refl _ | apply Drawn0.step)⟩
 ·rw [if_neg c3] at H
  have c3b0 : ((l0.length : Int) == (l1.length : Int)) = false := beq_eq_false_iff_ne.mpr c3
  have c3b1 : ((l0.length : Int) != (l1.length : Int)) = true := bne_iff_ne.mpr c3
  have c3b2 : (l0.length == l1.length) = false := by first | simpa using c3 | (simp at c3 ⊢; omega)
  obtain rfl := Option.some.inj H
  go_enter Try.func11, Try.ntmps11
  go_wp2
  repeat (go_quiet (fail); try go_wp2)
  go_ret
  exact ⟨by first | rfl | (simp; done) | (simp [*]; done), by repeat (first | exact Drawn0.refl _ | apply Drawn0.step)⟩
end Go.Proofs.Ytaedlmeaconflaa.P
end
section
set_option linter.unusedVariables false
set_option linter.unusedSimpArgs false
namespace Go.Proofs.Ytaedlmeaconflaa.P
open Go.RowKit Go.Sort Go.Shelf Go.Proofs.YtaedlmeaconflaaW.PrintWords Go.Proofs.YtaedlmeaconflaaW.PrintLast Go.Proofs.YtaedlmeaconflaaW.PrintMore
theorem ev_same1 (a b : List S33) (hl : a.length = b.length) (hm : a.length ≤ 9223372036854775807) : ∀ m i : Nat, i + m = a.length → Ev (fun k => folkmootref01_Same.l0 k a b (i : Int)) (decide (a.drop i = b.drop i))
  | 0, i, h => by
    refine Ev.succ ?_
    simp only [folkmootref01_Same.l0]
    rw [List.drop_eq_nil_of_le (show a.length ≤ i by omega), List.drop_eq_nil_of_le (show b.length ≤ i by omega)]
    exact Ev.no (by omega) (Ev.some _)
  | m + 1, i, h => by
    have hi : i < a.length := by omega
    have hj : i < b.length := by omega
    refine Ev.succ ?_
    simp only [folkmootref01_Same.l0]
    refine Ev.yes (by omega) (Ev.yes (by omega) (Ev.yes (by omega) ?_))
    rw [rdS_nat a hi, rdS_nat b hj, w64_succ (by omega), List.drop_eq_getElem_cons hi, List.drop_eq_getElem_cons hj]
    have hb : (!(a[i].f0 == b[i].f0) || (!(a[i].f1 == b[i].f1))) = true ↔ a[i] ≠ b[i] := by
      rw [Ne, S_ext]; simp; omega
    refine Ev.cond (fun h => ?_) (fun h => ?_)
    · exact (Ev.some _).eq (decide_eq_false (fun e => hb.1 h (List.cons.inj e).1)).symm
    · refine (ev_same1 a b hl hm m (i + 1) (by omega)).eq ?_
      have e : a[i] = b[i] := Classical.byContradiction fun n => h (hb.2 n)
      rw [e]; simp only [List.cons.injEq, true_and]
theorem ev_sameS (a b : List S33) (hm : a.length ≤ 9223372036854775807) : Ev (fun k => folkmootref01_Same.f k a b) (decide (a = b)) := by
  unfold folkmootref01_Same.f
  refine Ev.cond (fun h => ?_) (fun h => ?_)
  · exact (ev_same1 a b (by omega) hm a.length 0 (by omega)).eq (by simp)
  · exact (Ev.some _).eq (decide_eq_false (fun e => h (by rw [e]))).symm
theorem ev_same6 (a b : List S39) (hl : a.length = b.length) (hm : a.length ≤ 9223372036854775807) (hk : ∀ x ∈ a, x.f1.length ≤ 9223372036854775807) : ∀ m i : Nat, i + m = a.length → Ev (fun k => folkmootref06_Same.l0 k a b (i : Int)) (decide (a.drop i = b.drop i))
  | 0, i, h => by
    refine Ev.succ ?_
    simp only [folkmootref06_Same.l0]
    rw [List.drop_eq_nil_of_le (show a.length ≤ i by omega), List.drop_eq_nil_of_le (show b.length ≤ i by omega)]
    exact Ev.no (by omega) (Ev.some _)
  | m + 1, i, h => by
    have hi : i < a.length := by omega
    have hj : i < b.length := by omega
    refine Ev.succ ?_
    simp only [folkmootref06_Same.l0]
    refine Ev.yes (by omega) (Ev.yes (by omega) (Ev.yes (by omega) ?_))
    rw [rdD_nat a hi, rdD_nat b hj, w64_succ (by omega), List.drop_eq_getElem_cons hi, List.drop_eq_getElem_cons hj]
    refine Ev.cond (fun h0 => ?_) (fun h0 => ?_)
    · refine Ev.bind (ev_sameS a[i].f1 b[i].f1 (hk _ (List.getElem_mem hi))) ?_
      refine Ev.cond (fun h1 => ?_) (fun h1 => ?_)
      · refine (ev_same6 a b hl hm hk m (i + 1) (by omega)).eq ?_
        have e : a[i] = b[i] := D_eq h0 (of_decide_eq_true h1)
        rw [e]; simp only [List.cons.injEq, true_and]
      · exact (Ev.some _).eq (decide_eq_false (fun e => h1 (decide_eq_true (by rw [(List.cons.inj e).1])))).symm
    · exact (Ev.some _).eq (decide_eq_false (fun e => h0 (by rw [(List.cons.inj e).1]))).symm
theorem ev_sameD (a b : List S39) (hm : a.length ≤ 9223372036854775807) (hk : ∀ x ∈ a, x.f1.length ≤ 9223372036854775807) : Ev (fun k => folkmootref06_Same.f k a b) (decide (a = b)) := by
  unfold folkmootref06_Same.f
  refine Ev.cond (fun h => ?_) (fun h => ?_)
  · exact (ev_same6 a b (by omega) hm hk a.length 0 (by omega)).eq (by simp)
  · exact (Ev.some _).eq (decide_eq_false (fun e => h (by rw [e]))).symm
def allD (d : List S39) : List S33 := d.flatMap (·.f1)
theorem ev_all1 (d : List S39) (hd : d.length ≤ 9223372036854775807) (hm : (allD d).length < 8796093022208) : ∀ (m i : Nat), i + m = d.length → Ev (fun k => deps_All.l0 k (allD (d.take i)) d (d.length : Int) (i : Int)) (setS (allD d))
  | 0, i, h => by
    refine Ev.succ ?_
    simp only [deps_All.l0]
    rw [List.take_of_length_le (show d.length ≤ i by omega)]
    refine Ev.no (by omega) (Ev.bind1 (r := setS (allD d)) ?_ (Ev.some _))
    unfold stamp_Sort.f
    rw [if_pos hm]
  | m + 1, i, h => by
    have hi : i < d.length := by omega
    refine Ev.succ ?_
    simp only [deps_All.l0]
    refine Ev.yes (by omega) (Ev.yes (by omega) (Ev.yes (by omega) ?_))
    rw [rdD_nat d hi, w64_succ (by omega)]
    have e : allD (d.take i) ++ d[i].f1 = allD (d.take (i + 1)) := by
      rw [List.take_succ_eq_append_getElem hi]; unfold allD; rw [List.flatMap_append]; simp
    rw [e]
    refine Ev.yes ?_ (ev_all1 d hd hm m (i + 1) (by omega))
    rw [← List.length_append, e]
    have : (allD d).length = (allD (d.take (i + 1))).length + (allD (d.drop (i + 1))).length := by
      rw [← List.length_append]; unfold allD; rw [← List.flatMap_append, List.take_append_drop]
    omega
theorem ev_all (d : List S39) (hd : d.length ≤ 9223372036854775807) (hm : (allD d).length < 8796093022208) : Ev (fun k => deps_All.f k d) (setS (allD d)) := by
  unfold deps_All.f
  exact ev_all1 d hd hm d.length 0 (by omega)
def getD (d : List S39) (x : Int) : List S33 := ((d.find? fun y => decide (y.f0 = x)).map (·.f1)).getD []
def wsum (d : List S39) : Int := d.foldl (fun n x => wrap64 (n + (x.f1.length : Int))) 0
theorem foldl_take {d : List S39} {i : Nat} (hi : i < d.length) : wsum (d.take (i + 1)) = wrap64 (wsum (d.take i) + (d[i].f1.length : Int)) := by
  unfold wsum
  rw [List.take_succ_eq_append_getElem hi, List.foldl_append]; rfl
def isS (s : S33) : Bool := decide (1 ≤ s.f0 ∧ s.f0 ≤ 1099511627776 ∧ 1 ≤ s.f1 ∧ s.f1 ≤ 7)
def okAt (d : List S39) (i : Nat) : Prop := ∃ x, d[i]? = some x ∧ 0 ≤ x.f0 ∧ x.f0 < 8 ∧ (∀ y, 0 < i → d[i - 1]? = some y → y.f0 < x.f0) ∧ Asc x.f1 ∧ ∀ s ∈ x.f1, isS s = true
def tailOk (d : List S39) (i : Nat) : Prop := ∀ j, i ≤ j → j < d.length → okAt d j
open Classical in
noncomputable def r60 (p : Prop) : Int := if p then 0 else 60
theorem r60_yes {p : Prop} (h : p) : r60 p = 0 := by unfold r60; rw [if_pos h]
theorem r60_no {p : Prop} (h : ¬ p) : r60 p = 60 := by unfold r60; rw [if_neg h]
theorem r60_eq {p q : Prop} (h : p ↔ q) : r60 p = r60 q := by rw [propext h]
theorem r60_zero {p : Prop} (h : r60 p = 0) : p := by
  unfold r60 at h
  split at h
  · assumption
  · cases h
theorem tailOk_step {d : List S39} {i : Nat} (hi : i < d.length) : tailOk d i ↔ okAt d i ∧ tailOk d (i + 1) :=
  ⟨fun h => ⟨h i (Nat.le_refl _) hi, fun j h1 h2 => h j (by omega) h2⟩, fun ⟨h, k⟩ j h1 h2 => by
    rcases Nat.eq_or_lt_of_le h1 with rfl | h3
    · exact h
    · exact k j h3 h2⟩
noncomputable def chkD (d : List S39) : Int := if 8 < d.length ∨ 512 < wsum d then 6 else r60 (tailOk d 0)
theorem rise_len : ∀ (l : List Int) (lo B : Int), lo ≤ B → l.Pairwise (· < ·) → (∀ x ∈ l, lo ≤ x ∧ x < B) → lo + l.length ≤ B
  | [], lo, B, h, _, _ => by simpa using h
  | x :: r, lo, B, _, hp, hb => by
    have hx := hb x (List.mem_cons_self ..)
    have hp' := List.pairwise_cons.1 hp
    have := rise_len r (x + 1) B (by omega) hp'.2 (fun y hy => ⟨by have := hp'.1 y hy; omega, (hb y (List.mem_cons_of_mem _ hy)).2⟩)
    simp only [List.length_cons]
    omega
theorem asc_len {l : List S33} (ha : Asc l) (hs : ∀ s ∈ l, isS s = true) : l.length ≤ 7696581394432 := by
  have := rise_len (l.map fun s => (s.f0 - 1) * 7 + (s.f1 - 1)) 0 7696581394432 (by omega) (by
    rw [List.pairwise_map]
    refine List.Pairwise.imp_of_mem (fun {a b} h1 h2 hab => ?_) ha
    have k1 := of_decide_eq_true (hs a h1)
    have k2 := of_decide_eq_true (hs b h2)
    have k3 := (cmpS_lt a b).1 hab
    omega) (fun x hx => by
    obtain ⟨s, h, rfl⟩ := List.mem_map.1 hx
    have k1 := of_decide_eq_true (hs s h)
    omega)
  rw [List.length_map] at this
  omega
structure Good (d : List S39) (n : Nat) : Prop extends DpOk d where
  len : d.length ≤ 8
  is : ∀ x ∈ d, ∀ s ∈ x.f1, isS s = true
  all : (allD d).length ≤ n
theorem adj_rise {d : List S39} (h : ∀ i, (hi : i + 1 < d.length) → (d[i]'(by omega)).f0 < d[i + 1].f0) : d.Pairwise fun x y => x.f0 < y.f0 := by
  rw [List.pairwise_iff_getElem]
  intro i j hi hj hij
  induction j with
  | zero => omega
  | succ j ih =>
    have h1 := h j hj
    rcases Nat.eq_or_lt_of_le (Nat.le_of_lt_succ hij) with e | e
    · subst e; exact h1
    · have := ih (by omega) e; omega
theorem wsum_eq : ∀ (d : List S39) (n : Int), 0 ≤ n → n + ((allD d).length : Int) < 9223372036854775808 → d.foldl (fun n x => wrap64 (n + (x.f1.length : Int))) n = n + ((allD d).length : Int)
  | [], n, _, _ => by simp [allD]
  | x :: d, n, h0, h => by
    have e : (allD (x :: d)).length = x.f1.length + (allD d).length := by unfold allD; rw [List.flatMap_cons, List.length_append]
    rw [e] at h ⊢
    rw [List.foldl_cons, w64_of (by omega) (by omega), wsum_eq d _ (by omega) (by omega)]
    omega
theorem allD_le : ∀ (d : List S39) (m : Nat), (∀ x ∈ d, x.f1.length ≤ m) → (allD d).length ≤ d.length * m
  | [], m, _ => by simp [allD]
  | x :: d, m, h => by
    have e : (allD (x :: d)).length = x.f1.length + (allD d).length := by unfold allD; rw [List.flatMap_cons, List.length_append]
    have h1 := h x (List.mem_cons_self ..)
    have h2 := allD_le d m (fun y hy => h y (List.mem_cons_of_mem _ hy))
    rw [e, List.length_cons, Nat.succ_mul]
    omega
theorem good_of {d : List S39} (hc : chkD d = 0) : Good d 512 ∧ wsum d = ((allD d).length : Int) := by
  unfold chkD at hc
  split at hc
  · cases hc
  · rename_i hn
    have ht := r60_zero hc
    have ho : ∀ (i : Nat) (hi : i < d.length), 0 ≤ d[i].f0 ∧ d[i].f0 < 8 ∧ (∀ y, 0 < i → d[i - 1]? = some y → y.f0 < d[i].f0) ∧ Asc d[i].f1 ∧ ∀ s ∈ d[i].f1, isS s = true := fun i hi => by
      obtain ⟨x, e, h⟩ := ht i (Nat.zero_le _) hi
      rw [List.getElem?_eq_getElem hi] at e
      rw [Option.some.inj e]; exact h
    have hm : ∀ x ∈ d, 0 ≤ x.f0 ∧ x.f0 < 8 ∧ Asc x.f1 ∧ ∀ s ∈ x.f1, isS s = true := fun x hx => by
      obtain ⟨i, hi, rfl⟩ := List.mem_iff_getElem.1 hx
      obtain ⟨h1, h2, _, h3, h4⟩ := ho i hi
      exact ⟨h1, h2, h3, h4⟩
    have hl := allD_le d 7696581394432 (fun x hx => asc_len (hm x hx).2.2.1 (hm x hx).2.2.2)
    have hw : wsum d = ((allD d).length : Int) := by
      have := wsum_eq d 0 (by omega) (by omega)
      unfold wsum
      omega
    exact ⟨⟨⟨adj_rise fun i hi => (ho (i + 1) hi).2.2.1 _ (by omega) (List.getElem?_eq_getElem (by omega)), fun x hx => ⟨(hm x hx).1, (hm x hx).2.1⟩, fun x hx => (hm x hx).2.2.1⟩, by omega, fun x hx => (hm x hx).2.2.2, by omega⟩, hw⟩
theorem Good.mono {d : List S39} {n m : Nat} (h : Good d n) (k : (allD d).length ≤ m) : Good d m := ⟨h.toDpOk, h.len, h.is, k⟩
theorem len_allD {d : List S39} {x : S39} (h : x ∈ d) : x.f1.length ≤ (allD d).length := by
  obtain ⟨a, b, rfl⟩ := List.append_of_mem h
  unfold allD
  rw [List.flatMap_append, List.flatMap_cons, List.length_append, List.length_append]
  omega
end Go.Proofs.Ytaedlmeaconflaa.P
end
