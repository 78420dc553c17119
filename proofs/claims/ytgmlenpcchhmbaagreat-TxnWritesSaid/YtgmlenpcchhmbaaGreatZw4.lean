/- what the claim's row stands on, part 4. -/
import Derived.Test.YtgmlenpcchhmbaaGreatZw2
import Derived.Test.YtgmlenpcchhmbaaGreatZw3
import Derived.Laws.BitsLemmas
import Derived.IntWalk
import Derived.Deep.QuietTactic
import Derived.Laws.NewBlocks
import Derived.OrdersHeld
import Derived.Defers
import Derived.Recover
section
set_option linter.unusedVariables false
set_option linter.unusedSimpArgs false
namespace Go.Proofs.YtgmlenpcchhmbaaGreat.P
open Go.RowKit Go.Proofs.YtgmlenpcchhmbaaGreatW.PrintWords Go.Proofs.YtgmlenpcchhmbaaGreatW.PrintLast Go.Proofs.YtgmlenpcchhmbaaGreatW.PrintMore
attribute [local go_sem] max2_int min2_int max_two min_two max_three min_three max_four min_four   -- for this text's walks alone
set_option linter.unusedVariables false
set_option linter.unusedSimpArgs false
mutual
def folkmootlaw08_small.j1 : Nat → List (S63) → List (S61) → Int → Option (Bool)
 | 0, _, _, _ => none
 | k + 1, x0, x1, x5 => folkmootlaw08_small.l1 k x0 x1 x5 0
def folkmootlaw08_small.l1 : Nat → List (S63) → List (S61) → Int → Int → Option (Bool)
 | 0, _, _, _, _ => none
 | k + 1, x0, x1, x5, x7 => if x7 < (x1.length : Int) then (if x7 ≤ 60 then (if 0 ≤ x7 then (folkmootlaw08_small.l1 k x0 x1 (wrap64 (x5 + (((rd_T61 x1 x7).f0).size : Int))) (wrap64 (x7 + 1))) else (none)) else (if (x0.length : Int) ≤ 60 then (if (x1.length : Int) ≤ 60 then (some (decide (x5 ≤ 6000))) else (some false)) else (some false))) else (if (x0.length : Int) ≤ 60 then (if (x1.length : Int) ≤ 60 then (some (decide (x5 ≤ 6000))) else (some false)) else (some false))
def folkmootlaw08_small.l0 : Nat → List (S63) → List (S61) → Int → Int → Option (Bool)
 | 0, _, _, _, _ => none
 | k + 1, x0, x1, x5, x6 => if x6 < (x0.length : Int) then (if x6 ≤ 60 then (if 0 ≤ x6 then (folkmootlaw08_small.l0 k x0 x1 (wrap64 ((wrap64 (x5 + (((rd_T63 x0 x6).f1).size : Int))) + (((rd_T63 x0 x6).f2).size : Int))) (wrap64 (x6 + 1))) else (none)) else (folkmootlaw08_small.j1 k x0 x1 x5)) else (folkmootlaw08_small.j1 k x0 x1 x5)
end
def folkmootlaw08_small.f (k : Nat) (l0 : List (S63)) (l1 : List (S61)) : Option (Bool) := folkmootlaw08_small.l0 k l0 l1 0 0
set_option maxHeartbeats 8000000 in
set_option maxRecDepth 100000 in
theorem folkmootlaw08_small.calls (k : Nat) (A0 : Option Addr) (c0 : Nat) (l0 : List (S63)) (A1 : Option Addr) (c1 : Nat) (l1 : List (S61)) (r : Bool) (w : World) (hr0 : Kd.C k63 w A0 l0.length l0) (hc0 : l0.length ≤ c0) (hr1 : Kd.C k61 w A1 l1.length l1) (hc1 : l1.length ≤ c1) (h : folkmootlaw08_small.f k l0 l1 = some r) :
  Calls Tryz.prog 13 #[.slice A0 l0.length c0, .slice A1 l1.length c1] w fun e w' => e = .returned (.bool r) ∧ Drawn0 w w' := by
 have HR0 := Aside0.mk hr0
 have HC0 := Aside0.mk hc0
 clear hr0 hc0
 have HR1 := Aside0.mk hr1
 have HC1 := Aside0.mk hc1
 clear hr1 hc1
 have H : (folkmootlaw08_small.l0 k l0 l1 0 0) = some r := h
 clear h
 have HC3 := Aside0.mk H
 clear H
 go_enter Tryz.func13, Tryz.ntmps13
 go_upto_block 0 with (fail)
 repeat (go_quiet (fail); go_upto_block 0 with (fail))
 go_cut [5] (fun v5 wc => ∃ (kq : Nat) (x5_2 : Int), v5 = .int .i64 x5_2 ∧ Aside0 (folkmootlaw08_small.j1 kq l0 l1 x5_2 = some r) ∧ Aside0 (kq ≤ k) ∧ Drawn0 w wc)
 case first =>
  have H := HC3.out
  clear HC3
  have H' := Aside0.mk H
  clear H
  go_wp2
  repeat (go_quiet (fail); try go_wp2)
  go_loopg [5, 6] k (fun kq v5 v6 w' => ∃ (x5_1 : Int) (x6_1 : Int), v5 = .int .i64 x5_1 ∧ v6 = .int .i64 x6_1 ∧ Aside0 (folkmootlaw08_small.l0 kq l0 l1 x5_1 x6_1 = some r) ∧ Aside0 (kq ≤ k) ∧ Drawn0 w w')
  case atStart => exact ⟨(0), (0), (by first | rfl | (rw [bl_gt] <;> rfl) | (simp; done) | (simp [*]; done)), (by first | rfl | (rw [bl_gt] <;> rfl) | (simp; done) | (simp [*]; done)), H', ⟨Nat.le_refl _⟩, by repeat (first | exact Drawn0.refl _ | apply Drawn0.step)⟩
  case round =>
   clear H'
   try clear c1
   try clear p2
   obtain ⟨x5_1, x6_1, rfl, rfl, HA, HK1, ⟨m1, rfl⟩⟩ := hrel
   cases gk with
   | zero => exact absurd HA.out (by simp [folkmootlaw08_small.l0])
   | succ k1 =>
    have H := HA.out
    clear HA
    simp only [folkmootlaw08_small.l0] at H
    by_cases c4 : x6_1 < (l0.length : Int)
    ·rw [if_pos c4] at H
     have c4b0 : decide (x6_1 < (l0.length : Int)) = true := decide_eq_true c4
     clear c4
     (first | rw [c4b0] | (simp only [i64_w, i32_w]; rw [c4b0]) | skip)
     by_cases c5 : x6_1 ≤ 60
     ·rw [if_pos c5] at H
      have c5b0 : decide (x6_1 ≤ 60) = true := decide_eq_true c5
      clear c5
      by_cases c6 : 0 ≤ x6_1
      ·rw [if_pos c6] at H
       have c6b0 : decide (0 ≤ x6_1) = true := decide_eq_true c6
       clear c6
       have H' := Aside0.mk H
       clear H
       have p111 : 0 ≤ (x6_1 : Int) := of_decide_eq_true (by first | (with_reducible assumption) | assumption)
       have q111 : x6_1 < (l0.length : Int) := of_decide_eq_true (by first | (with_reducible assumption) | assumption)
       obtain ⟨ad111, e111, hx111_0, hx111_1, hx111_2, hx111_3⟩ := at_T63 HR0.out x6_1 p111 q111
       cases e111
       replace p111 := eq_true p111
       replace q111 := eq_true q111
       have p112 : 0 ≤ (x6_1 : Int) := of_decide_eq_true (by first | (with_reducible assumption) | assumption)
       have q112 : x6_1 < (l0.length : Int) := of_decide_eq_true (by first | (with_reducible assumption) | assumption)
       obtain ⟨ad112, e112, hx112_0, hx112_1, hx112_2, hx112_3⟩ := at_T63 HR0.out x6_1 p112 q112
       obtain rfl : ad111 = ad112 := (by injection e112)
       replace p112 := eq_true p112
       replace q112 := eq_true q112
       go_wp2
       repeat (go_quiet (fail); try go_wp2)
       go_roundg k1
       case measure => have := HK1.out; omega
       case rel => exact ⟨(wrap64 ((wrap64 (x5_1 + (((rd_T63 l0 x6_1).f1).size : Int))) + (((rd_T63 l0 x6_1).f2).size : Int))), (wrap64 (x6_1 + 1)), (by first | rfl | (rw [bl_gt] <;> rfl) | (simp; done) | (simp [*]; done)), (by first | rfl | (rw [bl_gt] <;> rfl) | (simp; done) | (simp [*]; done)), H', ⟨by have := HK1.out; omega⟩, by repeat (first | exact Drawn0.refl _ | apply Drawn0.step)⟩
      ·rw [if_neg c6] at H
       exact absurd H (by simp)
     ·rw [if_neg c5] at H
      have c5b0 : decide (x6_1 ≤ 60) = false := decide_eq_false c5
      clear c5
      have H' := Aside0.mk H
      clear H
      go_wp2
      repeat (go_quiet (fail); try go_wp2)
      go_meet
      case rel => exact ⟨_, (x5_1), (by first | rfl | (rw [bl_gt] <;> rfl) | (simp; done) | (simp [*]; done)), H', ⟨by have := HK1.out; first | omega | exact Nat.le_refl _⟩, by repeat (first | exact Drawn0.refl _ | apply Drawn0.step)⟩
    ·rw [if_neg c4] at H
     have c4b0 : decide (x6_1 < (l0.length : Int)) = false := decide_eq_false c4
     clear c4
     (first | rw [c4b0] | (simp only [i64_w, i32_w]; rw [c4b0]) | skip)
     have H' := Aside0.mk H
     clear H
     go_wp2
     repeat (go_quiet (fail); try go_wp2)
     go_meet
     case rel => exact ⟨_, (x5_1), (by first | rfl | (rw [bl_gt] <;> rfl) | (simp; done) | (simp [*]; done)), H', ⟨by have := HK1.out; first | omega | exact Nat.le_refl _⟩, by repeat (first | exact Drawn0.refl _ | apply Drawn0.step)⟩
 case rest =>
  clear HC3
  try clear c1
  try clear p1
  try clear q1
  try clear hx1
  try clear p2
  try clear c4
  try clear c4b0
  try clear c5
  try clear c5b0
  try clear c6
  try clear c6b0
  try clear p6
  try clear hx111_0
  try clear hx111_1
  try clear hx111_2
  try clear hx111_3
  try clear hx112_0
  try clear hx112_1
  try clear hx112_2
  try clear hx112_3
  try clear p111
  try clear p112
  try clear p2
  try clear q111
  try clear q112
  obtain ⟨kq, x5_2, rfl, HA, HJ2, ⟨mc2, rfl⟩⟩ := hcut
  cases kq with
  | zero => exact absurd HA.out (by simp [folkmootlaw08_small.j1])
  | succ kj2 =>
   have H := HA.out
   clear HA
   simp only [folkmootlaw08_small.j1] at H
   have H' := Aside0.mk H
   clear H
   go_wp2
   repeat (go_quiet (fail); try go_wp2)
   go_loopg [5, 7] kj2 (fun kq v5 v7 w' => ∃ (x5_2 : Int) (x7_2 : Int), v5 = .int .i64 x5_2 ∧ v7 = .int .i64 x7_2 ∧ Aside0 (folkmootlaw08_small.l1 kq l0 l1 x5_2 x7_2 = some r) ∧ Aside0 (kq ≤ kj2) ∧ Drawn0 w w')
   case atStart => exact ⟨(x5_2), (0), (by first | rfl | (rw [bl_gt] <;> rfl) | (simp; done) | (simp [*]; done)), (by first | rfl | (rw [bl_gt] <;> rfl) | (simp; done) | (simp [*]; done)), H', ⟨Nat.le_refl _⟩, by repeat (first | exact Drawn0.refl _ | apply Drawn0.step)⟩
   case round =>
    clear H'
    try clear c1
    try clear p1
    try clear q1
    try clear hx1
    try clear c2
    try clear p2
    try clear c4
    try clear c4b0
    try clear c5
    try clear c5b0
    try clear c6
    try clear c6b0
    try clear p6
    try clear hx111_0
    try clear hx111_1
    try clear hx111_2
    try clear hx111_3
    try clear hx112_0
    try clear hx112_1
    try clear hx112_2
    try clear hx112_3
    try clear p1
    try clear p111
    try clear p112
    try clear p2
    try clear p6
    try clear q1
    try clear q111
    try clear q112
    obtain ⟨x5_2, x7_2, rfl, rfl, HA, HK2, ⟨m2, rfl⟩⟩ := hrel
    cases gk with
    | zero => exact absurd HA.out (by simp [folkmootlaw08_small.l1])
    | succ k2 =>
     have H := HA.out
     clear HA
     simp only [folkmootlaw08_small.l1] at H
     by_cases c7 : x7_2 < (l1.length : Int)
     ·rw [if_pos c7] at H
      have c7b0 : decide (x7_2 < (l1.length : Int)) = true := decide_eq_true c7
      clear c7
      by_cases c8 : x7_2 ≤ 60
      ·rw [if_pos c8] at H
       have c8b0 : decide (x7_2 ≤ 60) = true := decide_eq_true c8
       clear c8
       by_cases c9 : 0 ≤ x7_2
       ·rw [if_pos c9] at H
        have c9b0 : decide (0 ≤ x7_2) = true := decide_eq_true c9
        clear c9
        have H' := Aside0.mk H
        clear H
        have p113 : 0 ≤ (x7_2 : Int) := of_decide_eq_true (by first | (with_reducible assumption) | assumption)
        have q113 : x7_2 < (l1.length : Int) := of_decide_eq_true (by first | (with_reducible assumption) | assumption)
        obtain ⟨ad113, e113, hx113_0, hx113_1⟩ := at_T61 HR1.out x7_2 p113 q113
        cases e113
        replace p113 := eq_true p113
        replace q113 := eq_true q113
        go_wp2
        repeat (go_quiet (fail); try go_wp2)
        go_roundg k2
        case measure => have := HJ2.out; have := HK2.out; omega
        case rel => exact ⟨(wrap64 (x5_2 + (((rd_T61 l1 x7_2).f0).size : Int))), (wrap64 (x7_2 + 1)), (by first | rfl | (rw [bl_gt] <;> rfl) | (simp; done) | (simp [*]; done)), (by first | rfl | (rw [bl_gt] <;> rfl) | (simp; done) | (simp [*]; done)), H', ⟨by have := HJ2.out; have := HK2.out; omega⟩, by repeat (first | exact Drawn0.refl _ | apply Drawn0.step)⟩
       ·rw [if_neg c9] at H
        exact absurd H (by simp)
      ·rw [if_neg c8] at H
       have c8b0 : decide (x7_2 ≤ 60) = false := decide_eq_false c8
       clear c8
       by_cases c10 : (l0.length : Int) ≤ 60
       ·rw [if_pos c10] at H
        have c10b0 : decide ((l0.length : Int) ≤ 60) = true := decide_eq_true c10
        have c10b1 : decide (l0.length ≤ 60) = true := decide_eq_true (by omega)
        clear c10
        by_cases c11 : (l1.length : Int) ≤ 60
        ·rw [if_pos c11] at H
         have c11b0 : decide ((l1.length : Int) ≤ 60) = true := decide_eq_true c11
         have c11b1 : decide (l1.length ≤ 60) = true := decide_eq_true (by omega)
         clear c11
         obtain rfl := Option.some.inj H
         go_wp2
         repeat (go_quiet (fail); try go_wp2)
         go_ret
         exact ⟨by first | rfl | (simp; done) | (simp [*]; done), by repeat (first | exact Drawn0.refl _ | apply Drawn0.step)⟩
        ·rw [if_neg c11] at H
         have c11b0 : decide ((l1.length : Int) ≤ 60) = false := decide_eq_false c11
         have c11b1 : decide (l1.length ≤ 60) = false := decide_eq_false (by omega)
         clear c11
         obtain rfl := Option.some.inj H
         go_wp2
         repeat (go_quiet (fail); try go_wp2)
         go_ret
         exact ⟨by first | rfl | (simp; done) | (simp [*]; done), by repeat (first | exact Drawn0.refl _ | apply Drawn0.step)⟩
       ·rw [if_neg c10] at H
        have c10b0 : decide ((l0.length : Int) ≤ 60) = false := decide_eq_false c10
        have c10b1 : decide (l0.length ≤ 60) = false := decide_eq_false (by omega)
        clear c10
        obtain rfl := Option.some.inj H
        go_wp2
        repeat (go_quiet (fail); try go_wp2)
        go_ret
        exact ⟨by first | rfl | (simp; done) | (simp [*]; done), by repeat (first | exact Drawn0.refl _ | apply Drawn0.step)⟩
     ·rw [if_neg c7] at H
      have c7b0 : decide (x7_2 < (l1.length : Int)) = false := decide_eq_false c7
      clear c7
      by_cases c12 : (l0.length : Int) ≤ 60
      ·rw [if_pos c12] at H
       have c12b0 : decide ((l0.length : Int) ≤ 60) = true := decide_eq_true c12
       have c12b1 : decide (l0.length ≤ 60) = true := decide_eq_true (by omega)
       clear c12
       by_cases c13 : (l1.length : Int) ≤ 60
       ·rw [if_pos c13] at H
        have c13b0 : decide ((l1.length : Int) ≤ 60) = true := decide_eq_true c13
        have c13b1 : decide (l1.length ≤ 60) = true := decide_eq_true (by omega)
        clear c13
        obtain rfl := Option.some.inj H
        go_wp2
        repeat (go_quiet (fail); try go_wp2)
        go_ret
        exact ⟨by first | rfl | (simp; done) | (simp [*]; done), by repeat (first | exact Drawn0.refl _ | apply Drawn0.step)⟩
       ·rw [if_neg c13] at H
        have c13b0 : decide ((l1.length : Int) ≤ 60) = false := decide_eq_false c13
        have c13b1 : decide (l1.length ≤ 60) = false := decide_eq_false (by omega)
        clear c13
        obtain rfl := Option.some.inj H
        go_wp2
        repeat (go_quiet (fail); try go_wp2)
        go_ret
        exact ⟨by first | rfl | (simp; done) | (simp [*]; done), by repeat (first | exact Drawn0.refl _ | apply Drawn0.step)⟩
      ·rw [if_neg c12] at H
       have c12b0 : decide ((l0.length : Int) ≤ 60) = false := decide_eq_false c12
       have c12b1 : decide (l0.length ≤ 60) = false := decide_eq_false (by omega)
       clear c12
       obtain rfl := Option.some.inj H
       go_wp2
       repeat (go_quiet (fail); try go_wp2)
       go_ret
       exact ⟨by first | rfl | (simp; done) | (simp [*]; done), by repeat (first | exact Drawn0.refl _ | apply Drawn0.step)⟩
end Go.Proofs.YtgmlenpcchhmbaaGreat.P
end
section
set_option linter.unusedVariables false
set_option linter.unusedSimpArgs false
namespace Go.Proofs.YtgmlenpcchhmbaaGreat.P
open Go.RowKit Go.Proofs.YtgmlenpcchhmbaaGreatW.PrintWords Go.Proofs.YtgmlenpcchhmbaaGreatW.PrintLast
theorem small_end (l : List S63) (d : List S61) (n : Int) : ∃ b, (if (l.length : Int) ≤ 60 then (if (d.length : Int) ≤ 60 then (some (decide (n ≤ 6000))) else (some false)) else (some false)) = some b ∧ (b = true → l.length ≤ 60 ∧ d.length ≤ 60) := by
  by_cases h1 : (l.length : Int) ≤ 60
  · by_cases h2 : (d.length : Int) ≤ 60
    · exact ⟨_, by rw [if_pos h1, if_pos h2], fun _ => ⟨by omega, by omega⟩⟩
    · exact ⟨false, by rw [if_pos h1, if_neg h2], fun h => by cases h⟩
  · exact ⟨false, by rw [if_neg h1], fun h => by cases h⟩
theorem small_l1 (l : List S63) (d : List S61) : ∀ (m i : Nat) (n : Int), i + m = 61 → ∃ b, Ev (fun k => folkmootlaw08_small.l1 k l d n (i : Int)) b ∧ (b = true → l.length ≤ 60 ∧ d.length ≤ 60)
  | 0, i, n, h => by
    obtain ⟨b, e, hb⟩ := small_end l d n
    refine ⟨b, Ev.succ ?_, hb⟩
    simp only [folkmootlaw08_small.l1]
    exact Ev.cond (fun _ => Ev.no (by omega) (Ev.of _ fun _ => e)) (fun _ => Ev.of _ fun _ => e)
  | m + 1, i, n, h => by
    by_cases hl : (i : Int) < (d.length : Int)
    · obtain ⟨b, e, hb⟩ := small_l1 l d m (i + 1) (wrap64 (n + (((rd_T61 d (i : Int)).f0).size : Int))) (by omega)
      refine ⟨b, Ev.succ ?_, hb⟩
      simp only [folkmootlaw08_small.l1]
      rw [w64_succ (by omega)]
      exact Ev.yes hl (Ev.yes (by omega) (Ev.yes (by omega) e))
    · obtain ⟨b, e, hb⟩ := small_end l d n
      refine ⟨b, Ev.succ ?_, hb⟩
      simp only [folkmootlaw08_small.l1]
      exact Ev.no hl (Ev.of _ fun _ => e)
theorem small_j1 (l : List S63) (d : List S61) (n : Int) : ∃ b, Ev (fun k => folkmootlaw08_small.j1 k l d n) b ∧ (b = true → l.length ≤ 60 ∧ d.length ≤ 60) := by
  obtain ⟨b, e, hb⟩ := small_l1 l d 61 0 n rfl
  refine ⟨b, Ev.succ ?_, hb⟩
  simp only [folkmootlaw08_small.j1]
  exact e
theorem small_l0 (l : List S63) (d : List S61) : ∀ (m i : Nat) (n : Int), i + m = 61 → ∃ b, Ev (fun k => folkmootlaw08_small.l0 k l d n (i : Int)) b ∧ (b = true → l.length ≤ 60 ∧ d.length ≤ 60)
  | 0, i, n, h => by
    obtain ⟨b, e, hb⟩ := small_j1 l d n
    refine ⟨b, Ev.succ ?_, hb⟩
    simp only [folkmootlaw08_small.l0]
    exact Ev.cond (fun _ => Ev.no (by omega) e) (fun _ => e)
  | m + 1, i, n, h => by
    by_cases hl : (i : Int) < (l.length : Int)
    · obtain ⟨b, e, hb⟩ := small_l0 l d m (i + 1) (wrap64 ((wrap64 (n + (((rd_T63 l (i : Int)).f1).size : Int))) + (((rd_T63 l (i : Int)).f2).size : Int))) (by omega)
      refine ⟨b, Ev.succ ?_, hb⟩
      simp only [folkmootlaw08_small.l0]
      rw [w64_succ (by omega)]
      exact Ev.yes hl (Ev.yes (by omega) (Ev.yes (by omega) e))
    · obtain ⟨b, e, hb⟩ := small_j1 l d n
      refine ⟨b, Ev.succ ?_, hb⟩
      simp only [folkmootlaw08_small.l0]
      exact Ev.no hl e
theorem ev_small (l : List S63) (d : List S61) : ∃ b, Ev (fun k => folkmootlaw08_small.f k l d) b ∧ (b = true → l.length ≤ 60 ∧ d.length ≤ 60) := small_l0 l d 61 0 0 rfl
def pairT (p : S61) : Prop := 1 ≤ p.f0.size ∧ p.f0.size ≤ 16 ∧ rightN p.f1 = p.f1
theorem sortK_snoc {V : Type} {l : List (ByteArray × V)} {y x : ByteArray × V} (h : SortK (l ++ [y])) (hk : klt y.1 x.1 = true) : SortK (l ++ [y] ++ [x]) := by
  refine List.pairwise_append.2 ⟨h, List.pairwise_singleton _ _, fun a ha b hb => ?_⟩
  rw [List.mem_singleton] at hb; subst hb
  rcases List.mem_append.1 ha with ha | ha
  · exact klt_trans ((List.pairwise_append.1 h).2.2 a ha y (List.mem_singleton.2 rfl)) hk
  · rw [List.mem_singleton.1 ha]; exact hk
def dataT (d : List S61) : Prop := SortK (d.map toA) ∧ ∀ p ∈ d, pairT p
theorem rd_at {d : List S61} {i : Nat} (h : i < d.length) : rd_T61 d (i : Int) = d[i] := by
  unfold rd_T61
  rw [Int.toNat_natCast, List.getD_eq_getElem?_getD, List.getElem?_eq_getElem h]; rfl
theorem data_l0 (d : List S61) (hd : d.length ≤ 9223372036854775807) (hn : ∀ p ∈ d, 0 ≤ p.f1 ∧ p.f1 < 18446744073709551616) : ∀ (m i : Nat), i + m = d.length → dataT (d.take i) → ∃ b, Ev (fun k => folkmootref08_Data.l0 k d (i : Int)) b ∧ (b = true → dataT d)
  | 0, i, h, g => by
    refine ⟨true, Ev.succ ?_, fun _ => by rwa [List.take_of_length_le (by omega)] at g⟩
    simp only [folkmootref08_Data.l0]
    exact Ev.no (by omega) (Ev.some _)
  | m + 1, i, h, g => by
    have hi : i < d.length := by omega
    have hmem : d[i] ∈ d := List.getElem_mem hi
    have hf : ∀ {F : Nat → Option Bool}, Ev F false → ∃ b, Ev F b ∧ (b = true → dataT d) := fun e => ⟨false, e, fun h => by cases h⟩
    have hkey : ∃ b, folkmootref03_Key.f (rd_T61 d (i : Int)).f0 = some b ∧ (b = true → 1 ≤ (d[i]).f0.size ∧ (d[i]).f0.size ≤ 16) := by
      rw [rd_at hi]
      unfold folkmootref03_Key.f
      split
      · exact ⟨_, rfl, fun h => by have := of_decide_eq_true h; omega⟩
      · exact ⟨_, rfl, fun h => by cases h⟩
    obtain ⟨b1, e1, hb1⟩ := hkey
    have his : folkmootref07_Is.f (rd_T61 d (i : Int)).f1 = some (rightN (d[i]).f1 == (d[i]).f1) := by
      rw [rd_at hi]
      unfold folkmootref07_Is.f
      rw [rRight_f (hn _ hmem).1 (hn _ hmem).2]; rfl
    cases b1 with
    | false =>
      refine hf (Ev.succ ?_)
      simp only [folkmootref08_Data.l0]
      exact Ev.yes (by omega) (Ev.yes (by omega) (Ev.bind1 e1 (Ev.no (by decide) (Ev.some _))))
    | true =>
      cases h2 : (rightN (d[i]).f1 == (d[i]).f1) with
      | false =>
        rw [h2] at his
        refine hf (Ev.succ ?_)
        simp only [folkmootref08_Data.l0]
        exact Ev.yes (by omega) (Ev.yes (by omega) (Ev.bind1 e1 (Ev.yes rfl (Ev.bind1 his (Ev.no (by decide) (Ev.some _))))))
      | true =>
        rw [h2] at his
        have hp : pairT d[i] := ⟨(hb1 rfl).1, (hb1 rfl).2, beq_iff_eq.1 h2⟩
        have htake : d.take (i + 1) = d.take i ++ [d[i]] := (List.take_append_getElem hi).symm
        have hall : ∀ p ∈ d.take (i + 1), pairT p := fun p hp' => by
          rw [htake] at hp'
          rcases List.mem_append.1 hp' with h3 | h3
          · exact g.2 p h3
          · rw [List.mem_singleton.1 h3]; exact hp
        rcases i with _ | i
        · have g2 : dataT (d.take 1) := ⟨by rw [htake]; exact List.pairwise_singleton _ _, hall⟩
          obtain ⟨b, e, hb⟩ := data_l0 d hd hn m 1 (by omega) g2
          refine ⟨b, Ev.succ ?_, hb⟩
          simp only [folkmootref08_Data.l0]
          rw [w64_succ (by omega)]
          exact Ev.yes (by omega) (Ev.yes (by omega) (Ev.bind1 e1 (Ev.yes rfl (Ev.bind1 his (Ev.yes rfl (Ev.no (by decide) e))))))
        · have hw : wrap64 (((i + 1 : Nat) : Int) - 1) = (i : Int) := by unfold wrap64; omega
          have hs : wrap64 (((i + 1 : Nat) : Int) + 1) = ((i + 1 + 1 : Nat) : Int) := by unfold wrap64; omega
          cases h3 : klt (d[i]).f0 (d[i + 1]).f0 with
          | false =>
            refine hf (Ev.succ ?_)
            simp only [folkmootref08_Data.l0, hw]
            refine Ev.yes (by omega) (Ev.yes (by omega) (Ev.bind1 e1 (Ev.yes rfl (Ev.bind1 his (Ev.yes rfl (Ev.yes (by omega) (Ev.yes (by omega) (Ev.yes (by omega) (Ev.no ?_ (Ev.some _))))))))))
            rw [klt_list, rd_at hi, rd_at (by omega), h3]; decide
          | true =>
            have ht0 : d.take (i + 1) = d.take i ++ [d[i]] := (List.take_append_getElem (by omega)).symm
            have g2 : dataT (d.take (i + 1 + 1)) := ⟨by
              rw [htake, List.map_append, ht0, List.map_append]
              have := g.1
              rw [ht0, List.map_append] at this
              exact sortK_snoc this h3, hall⟩
            obtain ⟨b, e, hb⟩ := data_l0 d hd hn m (i + 1 + 1) (by omega) g2
            refine ⟨b, Ev.succ ?_, hb⟩
            simp only [folkmootref08_Data.l0, hw, hs]
            refine Ev.yes (by omega) (Ev.yes (by omega) (Ev.bind1 e1 (Ev.yes rfl (Ev.bind1 his (Ev.yes rfl (Ev.yes (by omega) (Ev.yes (by omega) (Ev.yes (by omega) (Ev.yes ?_ e)))))))))
            rw [klt_list, rd_at hi, rd_at (by omega), h3]
theorem ev_data (d : List S61) (hd : d.length ≤ 9223372036854775807) (hn : ∀ p ∈ d, 0 ≤ p.f1 ∧ p.f1 < 18446744073709551616) : ∃ b, Ev (fun k => folkmootref08_Data.f k d) b ∧ (b = true → dataT d) :=
  data_l0 d hd hn d.length 0 (by omega) ⟨.nil, fun p hp => by simp at hp⟩
theorem pairs_l0 (d : List S61) (hd : d.length ≤ 9223372036854775807) : ∀ (m i : Nat), i + m = d.length → Ev (fun k => folkmootref08_Pairs.l0 k d d (i : Int)) true
  | 0, i, h => by
    refine Ev.succ ?_
    simp only [folkmootref08_Pairs.l0]
    exact Ev.no (by omega) (Ev.some _)
  | m + 1, i, h => by
    refine Ev.succ ?_
    simp only [folkmootref08_Pairs.l0]
    rw [w64_succ (by omega)]
    exact Ev.yes (by omega) (Ev.yes (by omega) (Ev.yes (by omega) (Ev.no (by simp) (pairs_l0 d hd m (i + 1) (by omega)))))
theorem ev_pairs (d : List S61) (hd : d.length ≤ 9223372036854775807) : Ev (fun k => folkmootref08_Pairs.f k d d) true := by
  unfold folkmootref08_Pairs.f
  exact Ev.yes rfl (pairs_l0 d hd d.length 0 (by omega))
end Go.Proofs.YtgmlenpcchhmbaaGreat.P
end
section
set_option linter.unusedVariables false
set_option linter.unusedSimpArgs false
namespace Go.Proofs.YtgmlenpcchhmbaaGreat.P
def leBytes : Nat → Nat → List Int
  | 0, _ => []
  | k + 1, n => ((n % 256 : Nat) : Int) :: leBytes k (n / 256)
theorem leBytes_len : ∀ k n, (leBytes k n).length = k
  | 0, _ => rfl
  | k + 1, n => by simp [leBytes, leBytes_len k]
theorem leBytes_snoc : ∀ k n, leBytes (k + 1) n = leBytes k n ++ [((n / 256 ^ k % 256 : Nat) : Int)]
  | 0, n => by simp [leBytes]
  | k + 1, n => by
    rw [leBytes, leBytes_snoc k (n / 256), leBytes, Nat.div_div_eq_div_mul, Nat.pow_succ, Nat.mul_comm 256]
    rfl
def leNum : List Int → Nat
  | [] => 0
  | b :: r => b.toNat + 256 * leNum r
def bytesOk (xs : List Int) : Prop := ∀ x ∈ xs, 0 ≤ x ∧ x < 256
theorem leNum_lt : ∀ (xs : List Int), bytesOk xs → leNum xs < 256 ^ xs.length
  | [], _ => by simp [leNum]
  | b :: r, h => by
    have h1 := leNum_lt r (fun x hx => h x (List.mem_cons_of_mem _ hx))
    have h2 := h b (List.mem_cons_self ..)
    rw [List.length_cons, Nat.pow_succ]
    unfold leNum
    omega
theorem leNum_snoc (xs : List Int) (b : Int) : leNum (xs ++ [b]) = leNum xs + 256 ^ xs.length * b.toNat := by
  induction xs with
  | nil => simp [leNum]
  | cons a r ih =>
    rw [List.cons_append, leNum, ih, leNum, List.length_cons, Nat.pow_succ, Nat.mul_add, ← Nat.mul_assoc]
    rw [Nat.mul_comm 256 (256 ^ r.length)]
    omega
theorem or_join {k acc b : Nat} (hk : k < 8) (ha : acc < 256 ^ k) (hb : b < 256) : bits .or .u64 (acc : Int) (IntKind.u64.wrap (IntKind.u64.wrap (b : Int) * 2 ^ (8 * k))) = ((acc + 256 ^ k * b : Nat) : Int) := by
  have hp : (2 : Nat) ^ (8 * k) = 256 ^ k := by rw [Nat.pow_mul]
  have h1 : 256 ^ k * b + 256 ^ k ≤ 256 ^ 8 := by
    rw [← Nat.mul_succ]
    refine Nat.le_trans (Nat.mul_le_mul_left _ (show b + 1 ≤ 256 by omega)) ?_
    rw [← Nat.pow_succ]
    exact Nat.pow_le_pow_right (by decide) (by omega)
  have h2 : (256 : Nat) ^ 8 = 18446744073709551616 := by decide
  have e1 : IntKind.u64.wrap (b : Int) = b := Go.IntWalk.u64_in _ (by omega)
  have e2 : (b : Int) * 2 ^ (8 * k) = ((256 ^ k * b : Nat) : Int) := by
    rw [← hp, Int.natCast_mul, Int.mul_comm]; simp
  have e3 : IntKind.u64.wrap ((256 ^ k * b : Nat) : Int) = ((256 ^ k * b : Nat) : Int) := Go.IntWalk.u64_in _ (by omega)
  rw [e1, e2, e3]
  have hw : ∀ n : Int, 0 ≤ n → n < 2 ^ 64 → IntKind.u64.wrap n = n := fun n h0 h1 => Go.IntWalk.u64_in n (by omega)
  rw [(bits_nat .u64 64 (by decide) hw acc (256 ^ k * b) (by omega) (by omega)).2, ← hp, Nat.or_comm, ← Nat.two_pow_add_eq_or_of_lt (by omega) b, Nat.add_comm]
def u64 (x : Int) : Nat := (x % 18446744073709551616).toNat
def i64 (n : Nat) : Int := if n < 9223372036854775808 then n else (n : Int) - 18446744073709551616
theorem u64_lt (x : Int) : u64 x < 18446744073709551616 := by unfold u64; omega
def laidI (x : Int) : List Int := leBytes 8 (u64 x)
theorem laidI_len (x : Int) : (laidI x).length = 8 := leBytes_len _ _
end Go.Proofs.YtgmlenpcchhmbaaGreat.P
end
section
set_option linter.unusedVariables false
set_option linter.unusedSimpArgs false
namespace Go.Proofs.YtgmlenpcchhmbaaGreat.P
open Go.RowKit Go.Proofs.YtgmlenpcchhmbaaGreatW.PrintWords Go.Proofs.YtgmlenpcchhmbaaGreatW.PrintLast Go.Proofs.YtgmlenpcchhmbaaGreatW.PrintMore
theorem infoB : (Tryz.prog.info? 5).map (fun i => (i.zero, i.size, i.bytes)) = some (some (.int .u8 0), 1, 1) := by kernel_rfl
theorem stop_append {P : Program} {ops : Array Oper} {rest : List Oper} {o : Oper} {a : Go.Act} {Q : Exit → Go.Act → World → Prop} {w : World} {xs : Array Operand} {ts : Array TypeId} (_ho : o.op = .call { callee := .builtin .append, args := xs, argTypes := ts })
    (h : RowKit.Hid (wpList P ops Q (o :: rest) a w)) : wpList P ops Q (o :: rest) a w := h.out
abbrev ptr (g : Nat) : Value := .pointer (some ⟨g, 0, none⟩)
def RowB (w : World) (base : Nat) (v : Value) (xs : List Int) : Prop := w.ownsRow base 5 1 v xs.length (nums .u8 xs)
theorem RowB.upd {w w' : World} {S : Nat → Prop} {b : Nat} {v : Value} {xs : List Int} (h : RowB w b v xs) (hu : Upd w w' S) (hs : ∀ k, v.ownBlock = some k → ¬ S k) : RowB w' b v xs := by
  obtain ⟨h0, h⟩ := h
  refine ⟨h0, ?_⟩
  rcases h with h | ⟨g, cap, cur, rfl, h1, h2, h3⟩
  · exact .inl h
  · refine .inr ⟨g, cap, cur, rfl, h1, ?_, h3⟩
    have hlt : g < w.heap.size := (Array.getElem?_eq_some_iff.1 h2).1
    exact (hu.block g hlt (hs g (by simp [Value.ownBlock]))).trans h2
theorem RowB.ge {w : World} {b : Nat} {v : Value} {xs : List Int} (h : RowB w b v xs) : ∀ k, v.ownBlock = some k → b ≤ k ∧ k < w.heap.size := by
  obtain ⟨h0, h⟩ := h
  intro k hk
  rcases h with ⟨rfl, _⟩ | ⟨g, cap, cur, rfl, h1, h2, h3⟩
  · simp [Value.ownBlock] at hk
  · simp [Value.ownBlock] at hk
    subst hk
    exact ⟨h1, (Array.getElem?_eq_some_iff.1 h2).1⟩
theorem RowB.below {w w' : World} {b : Nat} {v : Value} {xs : List Int} (h : RowB w b v xs) (hb : Below w.heap.size w w') : RowB w' b v xs := h.upd (Upd.of_below hb (fun _ => False)) (fun _ _ h => h)
structure PenIs (w : World) (base g : Nat) (xs : List Int) : Prop where
  ge : base ≤ g
  ex : ∃ v, Blk w g 95 #[v] ∧ RowB w base v xs ∧ v.ownBlock ≠ some g
theorem PenIs.lt {w : World} {base g : Nat} {xs : List Int} (h : PenIs w base g xs) : g < w.heap.size := by
  obtain ⟨v, hb, _⟩ := h.ex
  exact hb.lt
theorem PenIs.upd {w w' : World} {S : Nat → Prop} {base g : Nat} {xs : List Int} (h : PenIs w base g xs) (hu : Upd w w' S) (hs : ∀ k, base ≤ k → ¬ S k) : PenIs w' base g xs := by
  obtain ⟨v, hb, hr, hn⟩ := h.ex
  exact ⟨h.ge, v, hb.upd hu (hs g h.ge), hr.upd hu (fun k hk => hs k (hr.ge k hk).1), hn⟩
theorem PenIs.below {w w' : World} {base g : Nat} {xs : List Int} (h : PenIs w base g xs) (hb : Below w.heap.size w w') : PenIs w' base g xs := h.upd (Upd.of_below hb (fun _ => False)) (fun _ _ h => h)
theorem PenIs.new (w : World) : PenIs (w.alloc (.cells #[.slice none 0 0] 95)) w.heap.size w.heap.size [] :=
  ⟨Nat.le_refl _, .slice none 0 0, Blk.new w 95 _, ⟨rfl, .inl ⟨rfl, rfl⟩⟩, by simp [Value.ownBlock]⟩
theorem RowB.ne {w : World} {b g : Nat} {v : Value} {xs : List Int} {t : TypeId} {cs : Array Value} (h : RowB w b v xs) (hB : Blk w g t cs) (ht : t ≠ 5) : v.ownBlock ≠ some g := by
  intro e
  obtain ⟨_, h⟩ := h
  rcases h with ⟨rfl, _⟩ | ⟨g', cap, cur, rfl, h1, h2, h3⟩
  · simp [Value.ownBlock] at e
  · simp [Value.ownBlock] at e
    subst e
    unfold Blk at hB
    rw [h2] at hB
    injection hB with hB
    injection hB with _ hB
    exact ht hB.symm
theorem PenIs.laid {w w1 : World} {base g : Nat} {ys : List Int} {v v1 : Value} (hge : base ≤ g) (hB : Blk w g 95 #[v]) (hn : v.ownBlock ≠ some g) (ho : RowB w1 base v1 ys) (hg : w.grownBy w1 v.ownBlock) : PenIs (w1.setCell ⟨g, 0, none⟩ v1) base g ys := by
  have hB1 := hB.grown hg (fun e => hn e.symm)
  have hne : v1.ownBlock ≠ some g := ho.ne hB1 (by decide)
  refine ⟨hge, v1, hB1.set_ 0 v1, ?_, hne⟩
  exact ho.upd ((Upd.refl w1 (· = g)).setCell (p := ⟨g, 0, none⟩) (.inl rfl) v1) (fun k hk e => hne (e ▸ hk))
def KeepT (w w' : World) : Prop := ∀ (b : Nat) (t : TypeId) (cs : Array Value), t ≠ 5 → t ≠ 95 → Blk w b t cs → Blk w' b t cs
structure KB (base : Nat) (w w' : World) : Prop where
  b : Below base w w'
  k : KeepT w w'
theorem KB.refl (base : Nat) (w : World) : KB base w w := ⟨Below.refl _ _, fun _ _ _ _ _ h => h⟩
theorem KB.trans {base : Nat} {a b c : World} (h : KB base a b) (h' : KB base b c) : KB base a c := ⟨h.b.trans h'.b, fun g t cs h1 h2 hb => h'.k g t cs h1 h2 (h.k g t cs h1 h2 hb)⟩
theorem KB.of_below {base : Nat} {a b : World} (h : Below a.heap.size a b) (hb : base ≤ a.heap.size) : KB base a b := ⟨h.mono hb, fun g t cs _ _ hB => hB.below h hB.lt⟩
theorem KB.step {base g : Nat} {w wr w1 : World} {v v1 : Value} {Y : List Int} (h : KB base w wr) (hbl : Below base w w1) (hBk : Blk wr g 95 #[v]) (hr : RowB wr base v Y) (hg : wr.grownBy w1 v.ownBlock) (hge : base ≤ g) : KB base w (w1.setCell ⟨g, 0, none⟩ v1) :=
  ⟨hbl.setCell hge _, fun b t cs h1 h2 hB => by
    have hr1 := h.k b t cs h1 h2 hB
    have hr2 := hr1.grown hg (fun e => (hr.ne hr1 h1) e.symm)
    exact hr2.far (p := ⟨g, 0, none⟩) (hr1.ne_ hBk h2) _⟩
section
variable {base g : Nat} {xs : List Int}
def LowA (w : World) (base g : Nat) (xs : List Int) (n many : Nat) (nv kv : Value) (wr : World) : Prop := ∃ k : Nat, kv = .int .i64 k ∧ k ≤ many ∧ nv = .int .u64 ((n / 256 ^ k : Nat) : Int) ∧ PenIs wr base g (xs ++ leBytes k n) ∧ KB base w wr
set_option maxHeartbeats 1000000 in
theorem low_any (n : Nat) (many : Nat) (hm : many ≤ 8) (hn : n < 18446744073709551616) (w : World) (h : PenIs w base g xs) (hl : xs.length ≤ 140000000000000) : Calls Tryz.prog 106 #[ptr g, .int .u64 (n : Int), .int .i64 (many : Int)] w fun e w' => e = .returned (.tuple #[]) ∧ PenIs w' base g (xs ++ leBytes many n) ∧ KB base w w' := by
  have H := Lib.hid h; clear h
  go_enter Tryz.func106, Tryz.ntmps106
  go_wp2
  go_loopw [1, 9] (fun nv kv wr => LowA w base g xs n many nv kv wr) (fun _ k _ => many - (intOf k).toNat)
  case atStart => exact ⟨0, rfl, Nat.zero_le _, by simp, by simpa [leBytes] using H.out, KB.refl _ _⟩
  case round =>
    obtain ⟨k, rfl, hk, rfl, hP, hB⟩ := hrel
    by_cases hlt : k < many
    · obtain ⟨v, hBk, hr, hn0⟩ := hP.ex
      have hge := hP.ge
      have hsn := leBytes_snoc k n
      have hdv : n / 256 ^ (k + 1) = n / 256 ^ k / 256 := by rw [Nat.div_div_eq_div_mul, Nat.pow_succ]
      have hlY : (xs ++ leBytes k n).length ≤ 140000000000008 := by rw [List.length_append, leBytes_len]; omega
      have hsn' : xs ++ leBytes (k + 1) n = (xs ++ leBytes k n) ++ [((n / 256 ^ k % 256 : Nat) : Int)] := by rw [hsn, List.append_assoc]
      have hmlt : n / 256 ^ k < 18446744073709551616 := Nat.lt_of_le_of_lt (Nat.div_le_self _ _) hn
      obtain ⟨m, hm'⟩ : ∃ m, n / 256 ^ k = m := ⟨_, rfl⟩
      obtain ⟨Y, hY⟩ : ∃ Y, xs ++ leBytes k n = Y := ⟨_, rfl⟩
      rw [hm'] at hdv hsn' hmlt ⊢
      rw [hY] at hr hlY hsn'
      have HS := Lib.hid (And.intro hdv (And.intro hsn' (And.intro hBk (And.intro hr (And.intro hn0 (And.intro hge hB))))))
      obtain ⟨A, c, rfl, _⟩ := own_reads hr
      have hc0 : wr.cell? ⟨g, 0, none⟩ = some (.slice A Y.length c) := hBk.cell 0
      have hBx := Lib.hid hBk
      have HL := Lib.hid (show (Y.length + 1) * 1 ≤ 140737488355328 by omega)
      have HG := Lib.hid (show base ≤ wr.heap.size from Nat.le_trans hge (Nat.le_of_lt hBk.lt))
      clear hP hr hsn hdv hsn' hBk hn0 hge hm' hY hB
      go_wp2_with (first | ((with_reducible refine gate_builtin (b := .append) (xs := #[.tmp 15, .tmp 18]) rfl ?_); at_builtin; refine stop_append rfl ?_))
      refine Lib.hid ?_
      refine print_append_num (w0 := w) base rfl (.tmp 15) (.tmp 18) 23 5 .u8 1 rfl Tryz.underlying23 infoB (by decide) (.slice A Y.length c) Y (((m : Nat) : Int) % 256) rfl rfl HS.out.2.2.2.1 HS.out.2.2.2.2.2.2.b HG.out HL.out ?_
      intro v1 w1 ho hbl hg hat
      have hB1 := hBx.out.grown hg (fun e => HS.out.2.2.2.2.1 e.symm)
      have hz1 := hB1.frozen 0
      have hc1 : w1.cell? ⟨g, 0, none⟩ = some (.slice A Y.length c) := hB1.cell 0
      have HO1 := Lib.hid (And.intro ho (And.intro hbl (And.intro hg hat)))
      obtain ⟨A1, c1, rfl⟩ := own_slice ho
      clear ho hbl hg hat hB1 hc0
      go_wp2
      obtain ⟨ho, hbl, hg, hat⟩ := HO1.out
      obtain ⟨hdv, hsn', hBk, hr, hn0, hge, hB⟩ := HS.out
      have hP1 := PenIs.laid hge hBk hn0 ho hg
      go_roundw
      case rel => exact ⟨k + 1, by go_num, by omega, by rw [hdv]; simp, by rw [hsn']; simpa using hP1, hB.step hbl hBk hr hg hge⟩
      case measure => simp [intOf]; omega
    · obtain rfl : k = many := by omega
      go_wp2
      (try simp only [Exit.inBlock, Exit.then]); refine bodyPost_end (results_none rfl _ _ _) rfl ?_
      exact ⟨rfl, hP, hB⟩
theorem rd_nat (xs : List Int) {k : Nat} (hk : k < xs.length) : Go.Proofs.YtgmlenpcchhmbaaGreatW.PrintWords.rd xs (k : Int) = xs[k] := by simp [Go.Proofs.YtgmlenpcchhmbaaGreatW.PrintWords.rd, List.getD_eq_getElem?_getD, List.getElem?_eq_getElem hk]
def laidIs (l : List Int) : List Int := (l.map laidI).flatten
theorem laidIs_len (l : List Int) : (laidIs l).length = 8 * l.length := by
  induction l with
  | nil => rfl
  | cons x l ih => unfold laidIs at ih ⊢; rw [List.map_cons, List.flatten_cons, List.length_append, ih, laidI_len, List.length_cons]; omega
theorem laidIs_snoc (l : List Int) {k : Nat} (hk : k < l.length) : laidIs (l.take (k + 1)) = laidIs (l.take k) ++ laidI l[k] := by
  unfold laidIs
  rw [List.take_succ_eq_append_getElem hk, List.map_append, List.flatten_append]; simp
def IntA (w : World) (base g : Nat) (xs : List Int) (l : List Int) (kv : Value) (wr : World) : Prop := ∃ k : Nat, kv = .int .i64 k ∧ k ≤ l.length ∧ PenIs wr base g (xs ++ laidIs (l.take k)) ∧ KB base w wr
theorem u64_cast (x : Int) : ((u64 x : Nat) : Int) = x % 18446744073709551616 := by unfold u64; omega
set_option maxHeartbeats 1000000 in
theorem pnInt_any (A : Option Addr) (c : Nat) (l : List Int) (w : World) (h : PenIs w base g xs) (hC : ∀ W, KB base w W → Kd.C (Kd.int .i64) W A l.length l) (hl : xs.length + 8 * l.length ≤ 140000000000000) : Calls Tryz.prog 60 #[ptr g, .slice A l.length c] w fun e w' => e = .returned (.tuple #[]) ∧ PenIs w' base g (xs ++ laidIs l) ∧ KB base w w' := by
  have HC := Lib.hid hC; have H := Lib.hid h; clear h hC
  go_enter Tryz.func60, Tryz.ntmps60
  go_wp2
  go_loopw [8] (fun kv wr => IntA w base g xs l kv wr) (fun k _ => l.length - (intOf k).toNat)
  case atStart => exact ⟨0, rfl, Nat.zero_le _, by simpa [laidIs] using H.out, KB.refl _ _⟩
  case round =>
    obtain ⟨k, rfl, hk, hP, hB⟩ := hrel
    by_cases hlt : k < l.length
    · obtain ⟨ad, rfl, hcell⟩ := Kd.at_int (HC.out wr hB) (k : Int) (by omega) (by omega)
      rw [rd_nat l hlt] at hcell
      simp only [Int.toNat_natCast] at hcell
      have hsn := laidIs_snoc l hlt
      have hY : (xs ++ laidIs (l.take k)).length ≤ 140000000000000 := by rw [List.length_append, laidIs_len, List.length_take]; omega
      have hlow := low_any (u64 l[k]) 8 (by omega) (u64_lt _) wr hP hY
      rw [u64_cast, List.append_assoc, show leBytes 8 (u64 l[k]) = laidI l[k] from rfl, ← hsn] at hlow
      generalize l[k] = x at *
      have HLOW := Lib.hid hlow; have HB := Lib.hid hB
      clear hlow hsn hP hB
      go_wp2_with fail
      refine HLOW.out.mono ?_
      rintro e w1 ⟨rfl, hP1, hB1⟩
      go_wp2_with fail
      go_roundw
      case rel => exact ⟨k + 1, by go_num, by omega, hP1, HB.out.trans hB1⟩
      case measure => simp [intOf]; omega
    · obtain rfl : k = l.length := by omega
      rw [List.take_length] at hP
      go_wp2
      (try simp only [Exit.inBlock, Exit.then]); refine bodyPost_end (results_none rfl _ _ _) rfl ?_
      exact ⟨rfl, hP, hB⟩
def cutT (s : ByteArray) : ByteArray := s.extract 0 (min s.size 1048576)
def laidT (s : ByteArray) : List Int := leBytes 4 (min s.size 1048576) ++ bytesOf (cutT s)
theorem cutT_size (s : ByteArray) : (cutT s).size = min s.size 1048576 := by unfold cutT; rw [ByteArray.size_extract]; omega
theorem laidT_len (s : ByteArray) : (laidT s).length = 4 + min s.size 1048576 := by unfold laidT; rw [List.length_append, leBytes_len, bytesOf_length, cutT_size]
def laidTs (l : List ByteArray) : List Int := (l.map laidT).flatten
theorem laidTs_snoc (l : List ByteArray) {k : Nat} (hk : k < l.length) : laidTs (l.take (k + 1)) = laidTs (l.take k) ++ laidT l[k] := by
  unfold laidTs
  rw [List.take_succ_eq_append_getElem hk, List.map_append, List.flatten_append]; simp
theorem laidTs_len (l : List ByteArray) : ∀ k, (laidTs (l.take k)).length ≤ 1048580 * l.length := by
  have key : ∀ l : List ByteArray, (laidTs l).length ≤ 1048580 * l.length := by
    intro l
    induction l with
    | nil => simp [laidTs]
    | cons x l ih =>
      unfold laidTs at ih ⊢
      rw [List.map_cons, List.flatten_cons, List.length_append, laidT_len, List.length_cons]
      omega
  intro k
  refine Nat.le_trans (key _) (Nat.mul_le_mul_left _ ?_)
  rw [List.length_take]; omega
def TextA (w : World) (base g : Nat) (xs : List Int) (l : List ByteArray) (kv : Value) (wr : World) : Prop := ∃ k : Nat, kv = .int .i64 k ∧ k ≤ l.length ∧ PenIs wr base g (xs ++ laidTs (l.take k)) ∧ KB base w wr
set_option maxHeartbeats 2000000 in
theorem pnText_any (A : Option Addr) (c : Nat) (l : List ByteArray) (w : World) (h : PenIs w base g xs) (hC : ∀ W, KB base w W → Kd.C Kd.string W A l.length l) (hs : ∀ s ∈ l, s.size ≤ 140737488355328) (hl : xs.length + 1048580 * l.length ≤ 140000000000000) : Calls Tryz.prog 61 #[ptr g, .slice A l.length c] w fun e w' => e = .returned (.tuple #[]) ∧ PenIs w' base g (xs ++ laidTs l) ∧ KB base w w' := by
  have HC := Lib.hid hC; have H := Lib.hid h; have HS := Lib.hid hs; clear h hC hs
  go_enter Tryz.func61, Tryz.ntmps61
  go_wp2
  go_loopw [5, 10] (fun _ kv wr => TextA w base g xs l kv wr) (fun _ k _ => l.length - (intOf k).toNat)
  case atStart => exact ⟨0, rfl, Nat.zero_le _, by simpa [laidTs] using H.out, KB.refl _ _⟩
  case round =>
    obtain ⟨k, rfl, hk, hP, hB⟩ := hrel
    by_cases hlt : k < l.length
    · obtain ⟨ad, rfl, hcell⟩ := Kd.at_string (HC.out wr hB) (k : Int) (by omega) (by omega)
      have hsn := laidTs_snoc l hlt
      have hrd : rdOf ByteArray.empty l (k : Int) = l[k] := by simp [rdOf, List.getD_eq_getElem?_getD, List.getElem?_eq_getElem hlt]
      rw [hrd] at hcell
      simp only [Int.toNat_natCast] at hcell
      have hsz := HS.out l[k] (List.getElem_mem hlt)
      have hY : (xs ++ laidTs (l.take k)).length + 1048580 ≤ 140000000000000 := by
        rw [List.length_append]
        have h1 := laidTs_len (l.take k) k
        rw [List.take_take, Nat.min_self, List.length_take] at h1
        have : 1048580 * min k l.length + 1048580 ≤ 1048580 * l.length := by rw [← Nat.mul_succ]; exact Nat.mul_le_mul_left _ (by omega)
        omega
      generalize l[k] = s at *
      obtain ⟨Y, hYd⟩ : ∃ Y, xs ++ laidTs (l.take k) = Y := ⟨_, rfl⟩
      rw [hYd] at hY hP
      have hst : xs ++ laidTs (l.take (k + 1)) = Y ++ leBytes 4 (min s.size 1048576) ++ bytesOf (cutT s) := by rw [hsn, ← List.append_assoc, hYd, laidT, List.append_assoc]
      have hlow := low_any (min s.size 1048576) 4 (by omega) (by omega) wr hP (by omega)
      have HB := Lib.hid hB; have HY := Lib.hid hY
      clear hsn hP hB hrd hYd hY
      by_cases hs6 : s.size ≤ 1048576
      · have hcut : cutT s = s := by unfold cutT; rw [Nat.min_eq_left hs6]; exact ByteArray.extract_zero_size
        rw [Nat.min_eq_left hs6] at hlow
        rw [Nat.min_eq_left hs6, hcut] at hst
        have HLOW := Lib.hid hlow; have HST := Lib.hid hst
        clear hlow hst hcut
        go_wp2_with fail
        obtain ⟨Z, hZ⟩ : ∃ Z, Y ++ leBytes 4 s.size = Z := ⟨_, rfl⟩
        refine HLOW.out.mono ?_
        rintro e w1 ⟨rfl, hP1, hB1⟩
        obtain ⟨v1, hBk1, hr1, hn1⟩ := hP1.ex
        have hge1 := hP1.ge
        rw [hZ] at hr1
        have hlZ : Z.length + s.size ≤ 140737488355328 := by rw [← hZ, List.length_append, leBytes_len]; have := HY.out; omega
        have hst := HST.out
        rw [hZ] at hst
        have HST2 := Lib.hid hst; have HLZ := Lib.hid hlZ
        have HX := Lib.hid (And.intro hge1 (And.intro hBk1 (And.intro hn1 (And.intro hr1 (And.intro (HB.out.trans hB1) (Nat.le_trans hge1 (Nat.le_of_lt hBk1.lt)))))))
        obtain ⟨A1, c1, rfl, _⟩ := own_reads hr1
        have hc1 : w1.cell? ⟨g, 0, none⟩ = some (.slice A1 Z.length c1) := hBk1.cell 0
        clear HLOW hP1 hB1 hr1 hn1 hge1 hZ hlZ hst HST HY hBk1
        go_wp2_with (first | ((with_reducible refine gate_builtin (b := .append) (xs := #[.tmp 28, .tmp 29]) rfl ?_); at_builtin; refine stop_append rfl ?_))
        refine Lib.hid ?_
        refine print_append_str (w0 := w) base rfl (.tmp 28) (.tmp 29) 23 9 5 rfl Tryz.underlying23 Tryz.underlying9 infoB (.slice A1 Z.length c1) Z s rfl rfl HX.out.2.2.2.1 HX.out.2.2.2.2.1.b HX.out.2.2.2.2.2 HLZ.out ?_
        intro v2 w2 ho2 hb2 hg2
        have hB2 := HX.out.2.1.grown hg2 (fun e => HX.out.2.2.1 e.symm)
        have hz2 := hB2.frozen 0
        have hc2 : w2.cell? ⟨g, 0, none⟩ = some (.slice A1 Z.length c1) := hB2.cell 0
        have HO2 := Lib.hid (And.intro ho2 (And.intro hb2 hg2))
        obtain ⟨A2, c2, rfl⟩ := own_slice ho2
        clear ho2 hb2 hg2 hB2 hc1
        go_wp2
        obtain ⟨ho2, hb2, hg2⟩ := HO2.out
        obtain ⟨hge1, hBk1, hn1, hr1, hKB, _⟩ := HX.out
        have hP2 := PenIs.laid hge1 hBk1 hn1 ho2 hg2
        go_roundw
        case rel => exact ⟨k + 1, by go_num, by omega, by rw [HST2.out]; simpa using hP2, hKB.step hb2 hBk1 hr1 hg2 hge1⟩
        case measure => simp [intOf]; omega
      · have hmin : min s.size 1048576 = 1048576 := Nat.min_eq_right (by omega)
        have hcs : (cutT s).size = 1048576 := by rw [cutT_size, hmin]
        rw [hmin] at hlow
        have hlow : Calls Tryz.prog 106 #[ptr g, .int .u64 1048576, .int .i64 4] wr _ := hlow
        rw [hmin] at hst
        have hmin2 : min 1048576 s.size = 1048576 := Nat.min_eq_left (by omega)
        have HLOW := Lib.hid hlow; have HST := Lib.hid hst
        have hco : s.extract 0 1048576 = cutT s := by unfold cutT; rw [hmin]
        have HCO := Lib.hid hco
        clear hlow hst hco hmin
        go_wp2_with fail
        rw [HCO.out]
        generalize cutT s = s at *
        obtain ⟨Z, hZ⟩ : ∃ Z, Y ++ leBytes 4 1048576 = Z := ⟨_, rfl⟩
        refine HLOW.out.mono ?_
        rintro e w1 ⟨rfl, hP1, hB1⟩
        obtain ⟨v1, hBk1, hr1, hn1⟩ := hP1.ex
        have hge1 := hP1.ge
        rw [hZ] at hr1
        have hlZ : Z.length + s.size ≤ 140737488355328 := by rw [← hZ, List.length_append, leBytes_len]; have := HY.out; omega
        have hst := HST.out
        rw [hZ] at hst
        have HST2 := Lib.hid hst; have HLZ := Lib.hid hlZ
        have HX := Lib.hid (And.intro hge1 (And.intro hBk1 (And.intro hn1 (And.intro hr1 (And.intro (HB.out.trans hB1) (Nat.le_trans hge1 (Nat.le_of_lt hBk1.lt)))))))
        obtain ⟨A1, c1, rfl, _⟩ := own_reads hr1
        have hc1 : w1.cell? ⟨g, 0, none⟩ = some (.slice A1 Z.length c1) := hBk1.cell 0
        clear HLOW hP1 hB1 hr1 hn1 hge1 hZ hlZ hst HST HY hBk1
        go_wp2_with (first | ((with_reducible refine gate_builtin (b := .append) (xs := #[.tmp 28, .tmp 29]) rfl ?_); at_builtin; refine stop_append rfl ?_))
        refine Lib.hid ?_
        refine print_append_str (w0 := w) base rfl (.tmp 28) (.tmp 29) 23 9 5 rfl Tryz.underlying23 Tryz.underlying9 infoB (.slice A1 Z.length c1) Z s rfl rfl HX.out.2.2.2.1 HX.out.2.2.2.2.1.b HX.out.2.2.2.2.2 HLZ.out ?_
        intro v2 w2 ho2 hb2 hg2
        have hB2 := HX.out.2.1.grown hg2 (fun e => HX.out.2.2.1 e.symm)
        have hz2 := hB2.frozen 0
        have hc2 : w2.cell? ⟨g, 0, none⟩ = some (.slice A1 Z.length c1) := hB2.cell 0
        have HO2 := Lib.hid (And.intro ho2 (And.intro hb2 hg2))
        obtain ⟨A2, c2, rfl⟩ := own_slice ho2
        clear ho2 hb2 hg2 hB2 hc1
        go_wp2
        obtain ⟨ho2, hb2, hg2⟩ := HO2.out
        obtain ⟨hge1, hBk1, hn1, hr1, hKB, _⟩ := HX.out
        have hP2 := PenIs.laid hge1 hBk1 hn1 ho2 hg2
        go_roundw
        case rel => exact ⟨k + 1, by go_num, by omega, by rw [HST2.out]; simpa using hP2, hKB.step hb2 hBk1 hr1 hg2 hge1⟩
        case measure => simp [intOf]; omega
    · obtain rfl : k = l.length := by omega
      rw [List.take_length] at hP
      go_wp2
      (try simp only [Exit.inBlock, Exit.then]); refine bodyPost_end (results_none rfl _ _ _) rfl ?_
      exact ⟨rfl, hP, hB⟩
end
theorem own_lit0 (W : World) {b : Nat} (hb : b ≤ W.heap.size) : RowB (W.alloc (.cells #[] 5)) b (.slice (some ⟨W.heap.size, 0, none⟩) 0 0) [] :=
  ⟨rfl, .inr ⟨W.heap.size, 0, #[], rfl, hb, heap_alloc_new W _, Nat.le_refl _, Nat.zero_le _, rfl, rfl⟩⟩
set_option maxHeartbeats 1000000 in
theorem bclone_any (A : Option Addr) (c : Nat) (xs : List Int) (w : World) (hr : ReadsInt w .u8 A xs.length xs) (hb : xs.length * 1 ≤ 140737488355328) :
    Calls Tryz.prog 92 #[.slice A xs.length c] w fun e w' => ∃ v, e = .returned v ∧ RowB w' w.heap.size v xs ∧ Below w.heap.size w w' := by
  have q22 : ∀ (w : World) (a : Option Addr) (n c n' c' : Nat), (binOp .eql 23 (.slice a n c) (.slice none n' c')).run Tryz.prog w = .ok (.bool a.isNone) w := fun w a n c n' c' => Lib.run_eql_slice_nil w _ _ a n c n' c' Tryz.underlying23
  rcases A with _ | ad
  · have h0 : xs = [] := by
      rcases xs with _ | ⟨x, xs⟩
      · rfl
      · obtain ⟨_, h, _⟩ := hr.2.2 (by simp)
        cases h
    subst h0
    go_enter Tryz.func92, Tryz.ntmps92
    go_wp2
    go_ret
    exact ⟨_, rfl, ⟨rfl, .inl ⟨rfl, rfl⟩⟩, Below.refl _ _⟩
  · have HR := Lib.hid hr; have HB := Lib.hid hb
    clear hr hb
    go_enter Tryz.func92, Tryz.ntmps92
    go_wp2_with (first | ((with_reducible refine gate_builtin (b := .append) (xs := #[.tmp 5, .tmp 6]) rfl ?_); at_builtin; refine stop_append rfl ?_))
    refine Lib.hid ?_
    refine print_append_row (w0 := w) w.heap.size rfl (.tmp 5) (.tmp 6) 23 5 .u8 1 rfl Tryz.underlying23 infoB (by decide) (.slice (some ⟨w.heap.size, 0, none⟩) 0 0) [] xs (some ad) xs.length c rfl rfl (own_lit0 w (Nat.le_refl _)) (HR.out.below ((Below.refl _ _).alloc (Nat.le_refl _) _)) ((Below.refl _ _).alloc (Nat.le_refl _) _) (by simp) (by simpa using HB.out) ?_
    intro v1 w1 ho hbl _ _
    simp only [List.nil_append] at ho
    have HO := Lib.hid (And.intro ho hbl)
    obtain ⟨A1, c1, rfl⟩ := own_slice ho
    clear ho hbl
    go_wp2
    go_ret
    exact ⟨_, rfl, HO.out.1, HO.out.2⟩
section
variable {base g : Nat} {xs : List Int}
theorem pnBytes_any (w : World) (h : PenIs w base g xs) (hl : xs.length ≤ 140000000000000) : Calls Tryz.prog 62 #[ptr g] w fun e w' => ∃ v, e = .returned v ∧ RowB w' w.heap.size v xs ∧ Below w.heap.size w w' := by
  obtain ⟨v, hB, hr, hn⟩ := h.ex
  obtain ⟨A, c, rfl, hrd⟩ := own_reads hr
  have hc0 : w.cell? ⟨g, 0, none⟩ = some (.slice A xs.length c) := hB.cell 0
  have hcl := bclone_any A c xs w hrd (by omega)
  have HCL := Lib.hid hcl
  clear h hB hr hn hrd hcl
  go_enter Tryz.func62, Tryz.ntmps62
  go_wp2_with fail
  refine HCL.out.mono ?_
  rintro e w1 ⟨v1, rfl, ho, hb⟩
  have HO := Lib.hid (And.intro ho hb)
  obtain ⟨A1, c1, rfl⟩ := own_slice ho
  clear ho hb
  go_wp2
  go_ret
  exact ⟨_, rfl, HO.out.1, HO.out.2⟩
end
end Go.Proofs.YtgmlenpcchhmbaaGreat.P
end
section
set_option linter.unusedVariables false
set_option linter.unusedSimpArgs false
namespace Go.Proofs.YtgmlenpcchhmbaaGreat.P
open Go.RowKit Go.Proofs.YtgmlenpcchhmbaaGreatW.PrintWords Go.Proofs.YtgmlenpcchhmbaaGreatW.PrintLast Go.Proofs.YtgmlenpcchhmbaaGreatW.PrintMore
theorem zeroCells_one (z : Value) (n : Nat) (a b : Value) (hz : z.cells = #[a, b]) (ha : a.oneCell' = true) (hb : b.oneCell' = true) : (Builtin.zeroCells z.cells n).toList.length = n * 2 ∧ ∀ v ∈ (Builtin.zeroCells z.cells n).toList, v.oneCell' = true := by
  rw [hz]
  constructor
  · simp [Builtin.zeroCells]
  · intro v hv
    unfold Builtin.zeroCells at hv
    rw [Array.mem_toList_iff, Array.mem_map] at hv
    obtain ⟨i, _, rfl⟩ := hv
    have : i % (#[a, b] : Array Value).size = 0 ∨ i % (#[a, b] : Array Value).size = 1 := Nat.mod_two_eq_zero_or_one i
    rcases this with h | h
    · rw [h]; exact ha
    · rw [h]; exact hb
theorem run_clear2 {P : Program} (w : World) (t e ty : TypeId) (z a' b' : Value) (ht : P.underlying t = some (.slice e)) (hv : ∀ w, (zeroValue e).run P w = .ok z w) (hz : z.cells = #[a', b']) (ha : a'.oneCell' = true) (hb : b'.oneCell' = true) (b o n c : Nat) (hn : 0 < n)
    (hc : ∀ j, j < n * 2 → (w.cell? ⟨b, o + j, none⟩).isSome = true) (hf : ∀ j, j < n * 2 → w.frozen? ⟨b, o + j, none⟩ = false) :
    (Builtin.clear_ #[t] ty #[.slice (some ⟨b, o, none⟩) n c]).run P w = .ok (.tuple #[]) (w.setCells b o (Builtin.zeroCells z.cells n).toList) := by
  obtain ⟨hl, h1⟩ := zeroCells_one z n a' b' hz ha hb
  have hst := run_storeCells_cells (P := P) b o (Builtin.zeroCells z.cells n).toList 0 w (by rw [hl]; simpa using hc) (by rw [hl]; simpa using hf) h1
  simp only [Nat.add_zero] at hst
  obtain ⟨m, rfl⟩ : ∃ m, n = m + 1 := ⟨n - 1, by omega⟩
  simp [Builtin.clear_, run_underlying ht, hv, hst]
def enc2 (ps : List (Value × Value)) : List Value := ps.flatMap fun p => [p.1, p.2]
theorem enc2_cons (p : Value × Value) (ps : List (Value × Value)) : enc2 (p :: ps) = p.1 :: p.2 :: enc2 ps := rfl
theorem enc2_len : ∀ ps : List (Value × Value), (enc2 ps).length = ps.length * 2
  | [] => rfl
  | p :: ps => by rw [enc2_cons, List.length_cons, List.length_cons, enc2_len ps, List.length_cons]; omega
theorem enc2_app (a b : List (Value × Value)) : enc2 (a ++ b) = enc2 a ++ enc2 b := by simp [enc2]
theorem enc2_at : ∀ (ps : List (Value × Value)) (j : Nat), (enc2 ps)[j * 2]? = ps[j]?.map (·.1) ∧ (enc2 ps)[j * 2 + 1]? = ps[j]?.map (·.2)
  | [], j => by simp [enc2]
  | p :: ps, 0 => by simp [enc2_cons]
  | p :: ps, j + 1 => by
    have h := enc2_at ps j
    rw [enc2_cons, show (j + 1) * 2 = j * 2 + 1 + 1 by omega]
    simpa using h
theorem enc2_take : ∀ (ps : List (Value × Value)) (j : Nat), (enc2 ps).take (j * 2) = enc2 (ps.take j)
  | [], j => by simp [enc2]
  | p :: ps, 0 => by simp [enc2]
  | p :: ps, j + 1 => by
    rw [enc2_cons, show (j + 1) * 2 = j * 2 + 1 + 1 by omega, List.take_succ_cons, List.take_succ_cons, enc2_take ps j]
    rfl
theorem enc2_set : ∀ (ps : List (Value × Value)) (j : Nat) (a b : Value), ((enc2 ps).set (j * 2) a).set (j * 2 + 1) b = enc2 (ps.set j (a, b))
  | [], j, a, b => by simp [enc2]
  | p :: ps, 0, a, b => by simp [enc2_cons]
  | p :: ps, j + 1, a, b => by
    have h := enc2_set ps j a b
    rw [enc2_cons, show (j + 1) * 2 = j * 2 + 1 + 1 by omega, List.set_cons_succ, List.set_cons_succ, List.set_cons_succ, List.set_cons_succ, h]
    rfl
abbrev pPr (s : S61) : Value × Value := (.string s.f0, .int .u64 s.f1)
def RowPr (w : World) (base : Nat) (v : Value) (xs : List (S61)) : Prop := w.ownsRow base 61 2 v xs.length (enc2 (xs.map pPr))
theorem RowPr.at_ {w : World} {base g n cap : Nat} {xs : List (S61)} (h : RowPr w base (.slice (some ⟨g, 0, none⟩) n cap) xs) (i : Nat) (s : S61) (hx : xs[i]? = some s) :
    w.cell? ⟨g, i * 2, none⟩ = some (.string s.f0) ∧ w.cell? ⟨g, i * 2 + 1, none⟩ = some (.int .u64 s.f1) ∧ w.frozen? ⟨g, i * 2, none⟩ = false ∧ w.frozen? ⟨g, i * 2 + 1, none⟩ = false := by
  obtain rfl : n = xs.length := by
    obtain ⟨_, _, e⟩ := own_slice h
    injection e
  have hl := (List.getElem?_eq_some_iff.1 hx).1
  have hE := enc2_at (xs.map pPr) i
  rw [List.getElem?_map, hx] at hE
  exact ⟨(World.ownsRow.cellAt h (i * 2) (by omega)).trans hE.1, (World.ownsRow.cellAt h (i * 2 + 1) (by omega)).trans hE.2, World.ownsRow.frozenAt h _, World.ownsRow.frozenAt h _⟩
theorem RowPr.store {w : World} {base g n cap : Nat} {xs : List (S61)} (h : RowPr w base (.slice (some ⟨g, 0, none⟩) n cap) xs) (i : Nat) (s : S61) :
    RowPr ((w.setCell ⟨g, i * 2, none⟩ (.string s.f0)).setCell ⟨g, i * 2 + 1, none⟩ (.int .u64 s.f1)) base (.slice (some ⟨g, 0, none⟩) n cap) (xs.set i s) := by
  obtain rfl : n = xs.length := by
    obtain ⟨_, _, e⟩ := own_slice h
    injection e
  have h1 := (World.ownsRow.stored h (i * 2) (.string s.f0)).1
  have h2 := (World.ownsRow.stored h1 (i * 2 + 1) (.int .u64 s.f1)).1
  rw [enc2_set] at h2
  unfold RowPr
  rw [List.length_set, List.map_set]
  exact h2
theorem reps_Pr {w : World} {b : Nat} {ok : Nat → Prop} : ∀ {xs : List S61} {cs : List Value}, Reps (k61.M w b ok) 2 xs cs → cs = enc2 (xs.map pPr)
  | [], cs, h => List.eq_nil_of_length_eq_zero (by simpa using h.1)
  | x :: xs, cs, h => by
    have h0 := k61_openM (h.2 0 x rfl)
    have hr : Reps (k61.M w b ok) 2 xs (cs.drop 2) := ⟨by rw [List.length_drop, h.1, List.length_cons]; omega, fun j p hj => by
      have := h.2 (j + 1) p hj
      rwa [List.drop_drop, show 2 + j * 2 = (j + 1) * 2 by omega]⟩
    have ih := reps_Pr hr
    rw [List.map_cons, enc2_cons, ← ih]
    rw [show 0 * 2 = 0 from rfl, List.drop_zero] at h0
    conv => lhs; rw [← List.take_append_drop 2 cs, h0]
    rfl
theorem Pr_reps (w : World) (b : Nat) (ok : Nat → Prop) : ∀ xs : List S61, Reps (k61.M w b ok) 2 xs (enc2 (xs.map pPr))
  | [] => ⟨rfl, fun j p h => by simp at h⟩
  | x :: xs => by
    have ih := Pr_reps w b ok xs
    refine ⟨by rw [enc2_len, List.length_map], fun j p hj => ?_⟩
    rcases j with _ | j
    · obtain rfl : x = p := by simpa using hj
      exact k61_mkM w b ok x
    · have := ih.2 j p (by simpa using hj)
      rw [List.map_cons, enc2_cons, show (j + 1) * 2 = j * 2 + 1 + 1 by omega, List.drop_succ_cons, List.drop_succ_cons]
      exact this
theorem RowPr.of_R {w : World} {b : Nat} {ok : Nat → Prop} {v : Value} {xs : List S61} (h : Kd.R k61 61 w b ok v xs) : RowPr w b v xs := by
  obtain ⟨_, inner, ho, hr⟩ := h
  have : inner = enc2 (xs.map pPr) := reps_Pr hr
  subst this
  exact ho
theorem RowPr.R {w : World} {b : Nat} {v : Value} {xs : List S61} (h : RowPr w b v xs) : Kd.R k61 61 w b (fun _ => True) v xs :=
  ⟨fun _ _ => trivial, _, h, Pr_reps w b _ xs⟩
theorem RowPr.lower {w : World} {b b' : Nat} {v : Value} {xs : List S61} (h : RowPr w b v xs) (hb : b' ≤ b) : RowPr w b' v xs :=
  ⟨h.1, h.2.imp id fun ⟨g, cap, cur, h1, h2, h3⟩ => ⟨g, cap, cur, h1, Nat.le_trans hb h2, h3⟩⟩
theorem own_lit0Pr (W : World) {b : Nat} (hb : b ≤ W.heap.size) : (W.alloc (.cells #[] 61)).ownsRow b 61 2 (.slice (some ⟨W.heap.size, 0, none⟩) 0 0) 0 [] :=
  ⟨rfl, .inr ⟨W.heap.size, 0, #[], rfl, hb, heap_alloc_new W _, Nat.le_refl _, Nat.zero_le _, rfl, rfl⟩⟩
set_option maxHeartbeats 1000000 in
theorem clonePr_any (A : Option Addr) (c : Nat) (xs : List S61) (w : World) (hr : Kd.C k61 w A xs.length xs) (hb : xs.length * 24 ≤ 140737488355328) :
    Calls Tryz.prog 75 #[.slice A xs.length c] w fun e w' => ∃ v, e = .returned v ∧ RowPr w' w.heap.size v xs ∧ Below w.heap.size w w' := by
  have q22 : ∀ (w : World) (a : Option Addr) (n c n' c' : Nat), (binOp .eql 39 (.slice a n c) (.slice none n' c')).run Tryz.prog w = .ok (.bool a.isNone) w := fun w a n c n' c' => Lib.run_eql_slice_nil w _ _ a n c n' c' Tryz.underlying39
  rcases A with _ | ad
  · have h0 : xs = [] := by
      rcases xs with _ | ⟨x, xs⟩
      · rfl
      · obtain ⟨_, h, _⟩ := hr.2.2 (by simp)
        cases h
    subst h0
    go_enter Tryz.func75, Tryz.ntmps75
    go_wp2
    go_ret
    exact ⟨_, rfl, own_nil _ _ _ _, Below.refl _ _⟩
  · have HR := Lib.hid hr; have HB := Lib.hid hb
    clear hr hb
    go_enter Tryz.func75, Tryz.ntmps75
    go_wp2_with (first | ((with_reducible refine gate_builtin (b := .append) (xs := #[.tmp 5, .tmp 6]) rfl ?_); at_builtin; refine stop_append rfl ?_))
    refine Lib.hid ?_
    refine Kd.R_append_rows k61 (w0 := w) (Rr := k61.K w) w.heap.size (by rfl) (.tmp 5) (.tmp 6) 39 61 (.agg #[.string ⟨#[]⟩, .int .u64 0]) 24 (by rfl) Tryz.underlying39 info61 rfl (by decide) (by decide) (.slice (some ⟨w.heap.size, 0, none⟩) 0 0) [] xs (some ad) xs.length c (fun _ => True) (fun _ => False) (by rfl) (by rfl) ⟨fun _ _ => trivial, [], own_lit0Pr w (Nat.le_refl _), Reps.none _ _⟩ (HR.out.imp_ ((Below.refl _ _).alloc (Nat.le_refl _) _) (fun _ _ h => h)) ?_ (fun _ h => h.elim) (fun _ _ => trivial) ((Below.refl _ _).alloc (Nat.le_refl _) _) (by simp) (by simpa using HB.out) ?_
    · intro x cs hK
      obtain rfl := k61_open hK
      exact k61_mkM _ _ _ x
    intro v1 w1 ho hbl _ _
    simp only [List.nil_append] at ho
    have HO := Lib.hid (And.intro (RowPr.of_R ho) hbl)
    obtain ⟨A1, c1, rfl⟩ := own_slice HO.out.1
    clear ho hbl
    go_wp2
    go_ret
    exact ⟨_, rfl, HO.out.1, HO.out.2⟩
abbrev pSp (s : S71) : Value × Value := (.string s.f0, .string s.f1)
def RowSp (w : World) (base : Nat) (v : Value) (xs : List (S71)) : Prop := w.ownsRow base 71 2 v xs.length (enc2 (xs.map pSp))
theorem RowSp.at_ {w : World} {base g n cap : Nat} {xs : List (S71)} (h : RowSp w base (.slice (some ⟨g, 0, none⟩) n cap) xs) (i : Nat) (s : S71) (hx : xs[i]? = some s) :
    w.cell? ⟨g, i * 2, none⟩ = some (.string s.f0) ∧ w.cell? ⟨g, i * 2 + 1, none⟩ = some (.string s.f1) ∧ w.frozen? ⟨g, i * 2, none⟩ = false ∧ w.frozen? ⟨g, i * 2 + 1, none⟩ = false := by
  obtain rfl : n = xs.length := by
    obtain ⟨_, _, e⟩ := own_slice h
    injection e
  have hl := (List.getElem?_eq_some_iff.1 hx).1
  have hE := enc2_at (xs.map pSp) i
  rw [List.getElem?_map, hx] at hE
  exact ⟨(World.ownsRow.cellAt h (i * 2) (by omega)).trans hE.1, (World.ownsRow.cellAt h (i * 2 + 1) (by omega)).trans hE.2, World.ownsRow.frozenAt h _, World.ownsRow.frozenAt h _⟩
theorem RowSp.store {w : World} {base g n cap : Nat} {xs : List (S71)} (h : RowSp w base (.slice (some ⟨g, 0, none⟩) n cap) xs) (i : Nat) (s : S71) :
    RowSp ((w.setCell ⟨g, i * 2, none⟩ (.string s.f0)).setCell ⟨g, i * 2 + 1, none⟩ (.string s.f1)) base (.slice (some ⟨g, 0, none⟩) n cap) (xs.set i s) := by
  obtain rfl : n = xs.length := by
    obtain ⟨_, _, e⟩ := own_slice h
    injection e
  have h1 := (World.ownsRow.stored h (i * 2) (.string s.f0)).1
  have h2 := (World.ownsRow.stored h1 (i * 2 + 1) (.string s.f1)).1
  rw [enc2_set] at h2
  unfold RowSp
  rw [List.length_set, List.map_set]
  exact h2
theorem reps_Sp {w : World} {b : Nat} {ok : Nat → Prop} : ∀ {xs : List S71} {cs : List Value}, Reps (k71.M w b ok) 2 xs cs → cs = enc2 (xs.map pSp)
  | [], cs, h => List.eq_nil_of_length_eq_zero (by simpa using h.1)
  | x :: xs, cs, h => by
    have h0 := k71_openM (h.2 0 x rfl)
    have hr : Reps (k71.M w b ok) 2 xs (cs.drop 2) := ⟨by rw [List.length_drop, h.1, List.length_cons]; omega, fun j p hj => by
      have := h.2 (j + 1) p hj
      rwa [List.drop_drop, show 2 + j * 2 = (j + 1) * 2 by omega]⟩
    have ih := reps_Sp hr
    rw [List.map_cons, enc2_cons, ← ih]
    rw [show 0 * 2 = 0 from rfl, List.drop_zero] at h0
    conv => lhs; rw [← List.take_append_drop 2 cs, h0]
    rfl
theorem Sp_reps (w : World) (b : Nat) (ok : Nat → Prop) : ∀ xs : List S71, Reps (k71.M w b ok) 2 xs (enc2 (xs.map pSp))
  | [] => ⟨rfl, fun j p h => by simp at h⟩
  | x :: xs => by
    have ih := Sp_reps w b ok xs
    refine ⟨by rw [enc2_len, List.length_map], fun j p hj => ?_⟩
    rcases j with _ | j
    · obtain rfl : x = p := by simpa using hj
      exact k71_mkM w b ok x
    · have := ih.2 j p (by simpa using hj)
      rw [List.map_cons, enc2_cons, show (j + 1) * 2 = j * 2 + 1 + 1 by omega, List.drop_succ_cons, List.drop_succ_cons]
      exact this
theorem RowSp.of_R {w : World} {b : Nat} {ok : Nat → Prop} {v : Value} {xs : List S71} (h : Kd.R k71 71 w b ok v xs) : RowSp w b v xs := by
  obtain ⟨_, inner, ho, hr⟩ := h
  have : inner = enc2 (xs.map pSp) := reps_Sp hr
  subst this
  exact ho
theorem RowSp.R {w : World} {b : Nat} {v : Value} {xs : List S71} (h : RowSp w b v xs) : Kd.R k71 71 w b (fun _ => True) v xs :=
  ⟨fun _ _ => trivial, _, h, Sp_reps w b _ xs⟩
theorem RowSp.lower {w : World} {b b' : Nat} {v : Value} {xs : List S71} (h : RowSp w b v xs) (hb : b' ≤ b) : RowSp w b' v xs :=
  ⟨h.1, h.2.imp id fun ⟨g, cap, cur, h1, h2, h3⟩ => ⟨g, cap, cur, h1, Nat.le_trans hb h2, h3⟩⟩
end Go.Proofs.YtgmlenpcchhmbaaGreat.P
end
section
set_option linter.unusedVariables false
set_option linter.unusedSimpArgs false
namespace Go.Proofs.YtgmlenpcchhmbaaGreat.P
open Go.RowKit
def LastPost (P : Program) (ops : Array Oper) (o : Oper) (Q : Exit → Act → World → Prop) : Exit → Act → World → Prop
  | .normal, a, w => wpList P ops Q [o] a w
  | e, a, w => Q e a w
theorem lastPost_wp {P : Program} {ops : Array Oper} {o : Oper} {Q : Exit → Act → World → Prop} {a : Act} {w : World} (h : wpList P ops Q [o] a w) : LastPost P ops o Q .normal a w := h
def lastOk (l : List Oper) (o : Oper) : Bool :=
  (List.range l.length).all (fun i => match l[i]? with
    | some x => x.after.toList.all (fun e => decide (e.on < i)) && (match x.guard with | none => true | some (j, _) => decide (j < l.length))
    | none => true) &&
  (List.range l.length).all (fun j => o.after.toList.any (fun e => e.on == j && Region.binds .any e) || (List.range l.length).any (fun k => decide (j < k) && (match l[k]? with | some x => x.after.toList.any (fun e => e.on == j && Region.binds .any e) | none => false))) &&
  o.after.toList.all (fun e => decide (e.on < l.length)) && (match o.guard with | none => true | some _ => false)
structure LastOk (l : List Oper) (o : Oper) : Prop where
  low : ∀ (i : Nat) (x : Oper), l[i]? = some x → ∀ e ∈ x.after, e.on < i
  guard : ∀ (i : Nat) (x : Oper), l[i]? = some x → ∀ (j : Nat) (b : Bool), x.guard = some (j, b) → j < l.length
  all : ∀ j, j < l.length → (∃ e ∈ o.after, e.on = j ∧ Region.binds .any e = true) ∨ ∃ k x, j < k ∧ l[k]? = some x ∧ ∃ e ∈ x.after, e.on = j ∧ Region.binds .any e = true
  lt : ∀ e ∈ o.after, e.on < l.length
  ng : o.guard = none
theorem LastOk.of {l : List Oper} {o : Oper} (h : lastOk l o = true) : LastOk l o := by
  simp only [lastOk, Bool.and_eq_true, List.all_eq_true, List.any_eq_true, List.mem_range, Array.mem_toList_iff, decide_eq_true_eq, beq_iff_eq, Bool.or_eq_true] at h
  obtain ⟨⟨⟨h1, h2⟩, h3⟩, h4⟩ := h
  refine ⟨fun i x hx => ?_, fun i x hx j b hg => ?_, fun j hj => ?_, h3, ?_⟩
  · have := h1 i (List.getElem?_eq_some_iff.1 hx).1
    rw [hx] at this
    simp only [Bool.and_eq_true, List.all_eq_true, Array.mem_toList_iff, decide_eq_true_eq] at this
    exact this.1
  · have := h1 i (List.getElem?_eq_some_iff.1 hx).1
    rw [hx] at this
    simp only [Bool.and_eq_true, hg, decide_eq_true_eq] at this
    exact this.2
  · rcases h2 j hj with ⟨e, he, h, k⟩ | ⟨k, hk, hjk, hx⟩
    · exact .inl ⟨e, he, h, k⟩
    · right
      rw [List.getElem?_eq_getElem hk] at hx
      simp only [List.any_eq_true, Array.mem_toList_iff, Bool.and_eq_true, beq_iff_eq] at hx
      exact ⟨k, l[k], hjk, List.getElem?_eq_getElem hk, hx⟩
  · revert h4; cases o.guard <;> simp
section
variable {P : Program} {l : List Oper} {o : Oper} {Q : Exit → Act → World → Prop}
theorem lastPost_out (h : LetsOut (LastPost P (l ++ [o]).toArray o Q)) : LetsOut Q := h
theorem oper_post {x : Oper} {a : Act} {w : World} {K : Act → World → Prop} {Q' : Exit → Act → World → Prop} (hp : ∀ c a w, Q' (.panic c) a w → Q (.panic c) a w) (ho : LetsOut Q' → LetsOut Q)
    (hh : x.wp P a w K Q') : x.wp P a w K Q := by
  unfold Oper.wp at *
  generalize (execOp a.eval x).run P w = r at *
  cases r with
  | ok n w' =>
    cases n <;> simp only [Oper.upon] at hh ⊢ <;>
      first
        | exact hh
        | exact Calls.mono hh (fun e w'' he => by cases e <;> first | exact he | exact hp _ _ _ he | exact ho he)
  | halt y w' => cases y <;> simp only [Oper.upon] at hh ⊢ <;> first | exact hh | exact hp _ _ _ hh
theorem all_listed (hok : LastOk l o) {listed : Array Bool} (hs : listed.size = l.length) (h : Region.ready .any l.toArray listed = []) : ∀ i, i < l.length → listed.getD i false = true := by
  intro i
  induction i using Nat.strongRecOn with
  | _ i ih =>
    intro hi
    by_cases hl : listed.getD i false = true
    · exact hl
    · have hx := List.getElem?_eq_getElem hi
      have : i ∈ Region.ready .any l.toArray listed := by
        rw [mem_ready]
        refine ⟨?_, l[i], (by simp [hi]), fun e he _ => ih e.on (hok.low i _ hx e he) (by have := hok.low i _ hx e he; omega)⟩
        simp only [Array.getD_eq_getD_getElem?, Array.getElem?_eq_getElem (show i < listed.size by omega), Option.getD_some] at hl ⊢
        simpa using hl
      rw [h] at this; cases this
theorem push_getD {listed : Array Bool} {i : Nat} (hi : i < listed.size) (b d : Bool) : (listed.push b).getD i d = listed.getD i d := by
  simp [Array.getD_eq_getD_getElem?, Array.getElem?_push, Nat.ne_of_lt hi]
theorem ready_old (hok : LastOk l o) {listed : Array Bool} (hs : listed.size = l.length) {i : Nat} (hi : i < l.length) (h : i ∈ Region.ready .any (l ++ [o]).toArray (listed.push false)) : i ∈ Region.ready .any l.toArray listed := by
  rw [mem_ready] at h ⊢
  obtain ⟨h1, x, hx, h2⟩ := h
  rw [push_getD (by omega)] at h1
  have hx' : l[i]? = some x := by simpa [List.getElem?_append_left hi] using hx
  refine ⟨h1, x, by simpa using hx', fun e he hb => ?_⟩
  have := h2 e he hb
  rwa [push_getD (by have := hok.low i x hx' e he; omega)] at this
theorem old_ready (hok : LastOk l o) {listed : Array Bool} (hs : listed.size = l.length) {i : Nat} (h : i ∈ Region.ready .any l.toArray listed) : i ∈ Region.ready .any (l ++ [o]).toArray (listed.push false) := by
  rw [mem_ready] at h ⊢
  obtain ⟨h1, x, hx, h2⟩ := h
  have hi : i < l.length := by have := (Array.getElem?_eq_some_iff.1 hx).1; simpa using this
  have hx' : l[i]? = some x := by simpa using hx
  refine ⟨by rw [push_getD (by omega)]; exact h1, x, by simpa [List.getElem?_append_left hi] using hx', fun e he hb => ?_⟩
  rw [push_getD (by have := hok.low i x hx' e he; omega)]
  exact h2 e he hb
def Closed (l : List Oper) (listed : Array Bool) : Prop := ∀ i x, l[i]? = some x → listed.getD i false = true → ∀ e ∈ x.after, Region.binds .any e = true → listed.getD e.on false = true
theorem closed_set {listed : Array Bool} (hc : Closed l listed) {i : Nat} (hi : i ∈ Region.ready .any l.toArray listed) : Closed l (listed.setIfInBounds i true) := by
  intro j x hx hj e he hb
  obtain ⟨_, y, hy, h2⟩ := mem_ready.1 hi
  have hy' : l[i]? = some y := by simpa using hy
  by_cases hij : i = j
  · subst hij
    rw [hx] at hy'
    injection hy' with hy'
    subst hy'
    exact getD_set_true (h2 e he hb)
  · rw [getD_set_ne false hij] at hj
    exact getD_set_true (hc j x hx hj e he hb)
theorem ready_last (hok : LastOk l o) {listed : Array Bool} (hs : listed.size = l.length) (hc : Closed l listed) : l.length ∈ Region.ready .any (l ++ [o]).toArray (listed.push false) ↔ ∀ i, i < l.length → listed.getD i false = true := by
  rw [mem_ready]
  constructor
  · rintro ⟨_, x, hx, h⟩
    have : x = o := by simp at hx; exact hx.symm
    subst this
    have key : ∀ d i, i < l.length → l.length - i ≤ d → listed.getD i false = true := by
      intro d
      induction d with
      | zero => intro i hi hd; omega
      | succ d ih =>
        intro i hi hd
        rcases hok.all i hi with ⟨e, he, rfl, hb⟩ | ⟨k, y, hk, hy, e, he, rfl, hb⟩
        · have := h e he hb
          rwa [push_getD (by omega)] at this
        · have hkl := (List.getElem?_eq_some_iff.1 hy).1
          exact hc k y hy (ih k hkl (by omega)) e he hb
    exact fun i hi => key _ i hi (Nat.le_refl _)
  · intro h
    refine ⟨by simp [Array.getD_eq_getD_getElem?, ← hs], o, by simp, fun e he _ => ?_⟩
    rw [push_getD (by have := hok.lt e he; omega)]
    exact h _ (hok.lt e he)
theorem ready_end {listed : Array Bool} (hs : listed.size = l.length) (h : ∀ i, i < l.length → listed.getD i false = true) : Region.ready .any (l ++ [o]).toArray ((listed.push false).setIfInBounds l.length true) = [] := by
  apply List.eq_nil_iff_forall_not_mem.2
  intro i hi
  rw [mem_ready] at hi
  obtain ⟨h1, x, hx, _⟩ := hi
  have hlt : i < l.length + 1 := by have := (Array.getElem?_eq_some_iff.1 hx).1; simpa using this
  have e : (listed.push false).setIfInBounds l.length true = listed.push true := by
    apply Array.ext_getElem?
    intro j
    simp only [Array.getElem?_setIfInBounds, Array.getElem?_push, Array.size_push]
    by_cases hj : l.length = j
    · subst hj; simp [hs]
    · simp [hj, show ¬ j = listed.size by omega]
  rw [e] at h1
  rcases Nat.lt_or_ge i l.length with hl | hl
  · rw [push_getD (by omega)] at h1
    have := h i hl
    simp only [Array.getD_eq_getD_getElem?, Array.getElem?_eq_getElem (show i < listed.size by omega), Option.getD_some] at h1 this
    rw [this] at h1; cases h1
  · have : i = listed.size := by omega
    subst this
    simp [Array.getD_eq_getD_getElem?] at h1
theorem wpOp_last (_hok : LastOk l o) {K : Act → World → Prop} {a : Act} {w : World} (h : wpList P (l ++ [o]).toArray Q [o] a w) (hK : ∀ a w, Q .normal a w → K a w) : wpOp P (l ++ [o]).toArray Q l.length K a w := by
  unfold wpOp
  have e : (l ++ [o]).toArray[l.length]? = some o := by simp
  rw [e]
  have hw : Region.wanted o (yielded (l ++ [o]).toArray a.tmps) = true := by simp [Region.wanted, _hok.ng]
  simp only [wpList, hw, if_true] at h ⊢
  exact h.imp (Oper.wp_mono fun a w h => hK a w h) id
theorem wpOp_old (hok : LastOk l o) {K K' : Act → World → Prop} {a : Act} {w : World} {i : Nat} (hi : i < l.length) (hK : ∀ a w, K a w → K' a w) (h : wpOp P l.toArray (LastPost P (l ++ [o]).toArray o Q) i K a w) :
    wpOp P (l ++ [o]).toArray Q i K' a w := by
  unfold wpOp at h ⊢
  have hx := List.getElem?_eq_getElem hi
  have e1 : l.toArray[i]? = some l[i] := by simp [hi]
  have e2 : (l ++ [o]).toArray[i]? = some l[i] := by simp [List.getElem?_append_left hi, hi]
  rw [e1] at h
  rw [e2]
  have hy : Region.wanted l[i] (yielded (l ++ [o]).toArray a.tmps) = Region.wanted l[i] (yielded l.toArray a.tmps) := by
    unfold Region.wanted
    split
    · rfl
    · rename_i j b hg
      have hj := hok.guard i _ hx j b hg
      have : yielded (l ++ [o]).toArray a.tmps j = yielded l.toArray a.tmps j := by
        unfold yielded
        rw [show (l ++ [o]).toArray[j]? = l.toArray[j]? from by simp [List.getElem?_append_left hj]]
      rw [this]
  simp only [hy]
  split
  · rename_i hw
    simp only [hw, if_true] at h
    rcases h with h | h
    · exact .inl (oper_post (Q' := LastPost P (l ++ [o]).toArray o Q) (fun _ _ _ h => h) lastPost_out (Oper.wp_mono hK h))
    · exact .inr ⟨h.1, lastPost_out h.2⟩
  · rename_i hw
    simp only [hw] at h
    exact hK _ _ h
theorem wpAny_last (hok : LastOk l o) : ∀ (fuel : Nat) (listed : Array Bool) (a : Act) (w : World), listed.size = l.length → Closed l listed → wpAny P .any l.toArray (LastPost P (l ++ [o]).toArray o Q) fuel listed a w →
    wpAny P .any (l ++ [o]).toArray Q (fuel + 1) (listed.push false) a w := by
  intro fuel
  induction fuel with
  | zero =>
    intro listed a w hs hc h
    obtain ⟨h1, h2⟩ := h
    have hall := all_listed hok hs h1
    have hin := (ready_last hok hs hc).2 hall
    refine ⟨fun h0 => (by rw [h0] at hin; cases hin), fun i hi => ?_⟩
    have hlt : i < l.length + 1 := by
      obtain ⟨_, x, hx, _⟩ := mem_ready.1 hi
      have := (Array.getElem?_eq_some_iff.1 hx).1; simpa using this
    rcases Nat.lt_or_ge i l.length with hl | hl
    · have := ready_old hok hs hl hi
      rw [h1] at this; cases this
    · obtain rfl : i = l.length := by omega
      exact wpOp_last hok h2 (fun a w h => ⟨ready_end hs hall, h⟩)
  | succ fuel ih =>
    intro listed a w hs hc h
    obtain ⟨h1, h2⟩ := h
    refine ⟨fun h0 => ?_, fun i hi => ?_⟩
    · by_cases hr : Region.ready .any l.toArray listed = []
      · have hin := (ready_last hok hs hc).2 (all_listed hok hs hr)
        rw [h0] at hin; cases hin
      · obtain ⟨j, hj⟩ := List.exists_mem_of_ne_nil _ hr
        have := old_ready hok hs hj
        rw [h0] at this; cases this
    · have hlt : i < l.length + 1 := by
        obtain ⟨_, x, hx, _⟩ := mem_ready.1 hi
        have := (Array.getElem?_eq_some_iff.1 hx).1; simpa using this
      rcases Nat.lt_or_ge i l.length with hl | hl
      · refine wpOp_old hok hl (fun a w h => ?_) (h2 i (ready_old hok hs hl hi))
        have e : (listed.push false).setIfInBounds i true = (listed.setIfInBounds i true).push false := by
          apply Array.ext_getElem?
          intro j
          simp only [Array.getElem?_setIfInBounds, Array.getElem?_push, Array.size_push, Array.size_setIfInBounds]
          by_cases hj : i = j
          · subst hj; simp [show i < listed.size by omega, show ¬ i = listed.size by omega, show i < listed.size + 1 by omega]
          · simp [hj]
        rw [e]
        exact ih _ a w (by simpa using hs) (closed_set hc (ready_old hok hs hl hi)) h
      · obtain rfl : i = l.length := by omega
        have hall := (ready_last hok hs hc).1 hi
        have hr : Region.ready .any l.toArray listed = [] := by
          apply List.eq_nil_iff_forall_not_mem.2
          intro j hj
          obtain ⟨h0, x, hx, _⟩ := mem_ready.1 hj
          have hjl : j < l.length := by have := (Array.getElem?_eq_some_iff.1 hx).1; simpa using this
          have := hall j hjl
          simp only [Array.getD_eq_getD_getElem?, Array.getElem?_eq_getElem (show j < listed.size by omega), Option.getD_some] at h0 this
          rw [this] at h0; cases h0
        exact wpOp_last hok (h1 hr) (fun a w h => ⟨fun _ => h, fun j hj => by rw [ready_end hs hall] at hj; cases hj⟩)
theorem wp_region_last {id : Nat} {a : Act} {w : World} (hm : P.follows .mixedOrders = true) (hk : lastOk l o = true)
    (h : wpAny P .any l.toArray (LastPost P (l ++ [o]).toArray o Q) l.length (Array.replicate l.length false) a { w with drawn := w.drawn + 1 }) : (Code.region id (l ++ [o]).toArray true).wp P Q a w := by
  refine wp_region_any hm ?_
  have := wpAny_last (LastOk.of hk) l.length (Array.replicate l.length false) a _ (by simp) (fun i x hx hi => by simp [Array.getD_eq_getD_getElem?, Array.getElem?_replicate] at hi; split at hi <;> simp at hi) h
  have e : Array.replicate (l ++ [o]).toArray.size false = (Array.replicate l.length false).push false := by
    simp [Array.replicate_succ]
  rw [e]
  simpa using this
end
end Go.Proofs.YtgmlenpcchhmbaaGreat.P
end
section
set_option linter.unusedVariables false
set_option linter.unusedSimpArgs false
namespace Go.Proofs.YtgmlenpcchhmbaaGreat.P
open Go.RowKit
def lastOk2 (l : List Oper) (o : Oper) : Bool :=
  (List.range l.length).all (fun i => match l[i]? with
    | some x => x.after.toList.all (fun e => !Region.binds .any e || decide (e.on < i)) && (match x.guard with | none => true | some (j, _) => decide (j < l.length))
    | none => true) &&
  (List.range l.length).all (fun j => o.after.toList.any (fun e => e.on == j && Region.binds .any e) || (List.range l.length).any (fun k => decide (j < k) && (match l[k]? with | some x => x.after.toList.any (fun e => e.on == j && Region.binds .any e) | none => false))) &&
  o.after.toList.all (fun e => !Region.binds .any e || decide (e.on < l.length))
structure LastOk2 (l : List Oper) (o : Oper) : Prop where
  low : ∀ (i : Nat) (x : Oper), l[i]? = some x → ∀ e ∈ x.after, Region.binds .any e = true → e.on < i
  guard : ∀ (i : Nat) (x : Oper), l[i]? = some x → ∀ (j : Nat) (b : Bool), x.guard = some (j, b) → j < l.length
  all : ∀ j, j < l.length → (∃ e ∈ o.after, e.on = j ∧ Region.binds .any e = true) ∨ ∃ k x, j < k ∧ l[k]? = some x ∧ ∃ e ∈ x.after, e.on = j ∧ Region.binds .any e = true
  lt : ∀ e ∈ o.after, Region.binds .any e = true → e.on < l.length
theorem LastOk2.of {l : List Oper} {o : Oper} (h : lastOk2 l o = true) : LastOk2 l o := by
  simp only [lastOk2, Bool.and_eq_true, List.all_eq_true, List.any_eq_true, List.mem_range, Array.mem_toList_iff, decide_eq_true_eq, beq_iff_eq, Bool.or_eq_true] at h
  obtain ⟨⟨h1, h2⟩, h3⟩ := h
  refine ⟨fun i x hx => ?_, fun i x hx j b hg => ?_, fun j hj => ?_, fun e he hb => by have := h3 e he; simpa [hb] using this⟩
  · have := h1 i (List.getElem?_eq_some_iff.1 hx).1
    rw [hx] at this
    simp only [Bool.and_eq_true, List.all_eq_true, Array.mem_toList_iff] at this
    exact fun e he hb => by have := this.1 e he; simpa [hb] using this
  · have := h1 i (List.getElem?_eq_some_iff.1 hx).1
    rw [hx] at this
    simp only [Bool.and_eq_true, hg, decide_eq_true_eq] at this
    exact this.2
  · rcases h2 j hj with ⟨e, he, h, k⟩ | ⟨k, hk, hjk, hx⟩
    · exact .inl ⟨e, he, h, k⟩
    · right
      rw [List.getElem?_eq_getElem hk] at hx
      simp only [List.any_eq_true, Array.mem_toList_iff, Bool.and_eq_true, beq_iff_eq] at hx
      exact ⟨k, l[k], hjk, List.getElem?_eq_getElem hk, hx⟩
section
variable {P : Program} {l : List Oper} {o : Oper} {Q : Exit → Act → World → Prop}
theorem lastPost_out2 (h : LetsOut (LastPost P (l ++ [o]).toArray o Q)) : LetsOut Q := h
theorem oper_post2 {x : Oper} {a : Act} {w : World} {K : Act → World → Prop} {Q' : Exit → Act → World → Prop} (hp : ∀ c a w, Q' (.panic c) a w → Q (.panic c) a w) (ho : LetsOut Q' → LetsOut Q)
    (hh : x.wp P a w K Q') : x.wp P a w K Q := by
  unfold Oper.wp at *
  generalize (execOp a.eval x).run P w = r at *
  cases r with
  | ok n w' =>
    cases n <;> simp only [Oper.upon] at hh ⊢ <;>
      first
        | exact hh
        | exact Calls.mono hh (fun e w'' he => by cases e <;> first | exact he | exact hp _ _ _ he | exact ho he)
  | halt y w' => cases y <;> simp only [Oper.upon] at hh ⊢ <;> first | exact hh | exact hp _ _ _ hh
theorem all_listed2 (hok : LastOk2 l o) {listed : Array Bool} (hs : listed.size = l.length) (h : Region.ready .any l.toArray listed = []) : ∀ i, i < l.length → listed.getD i false = true := by
  intro i
  induction i using Nat.strongRecOn with
  | _ i ih =>
    intro hi
    by_cases hl : listed.getD i false = true
    · exact hl
    · have hx := List.getElem?_eq_getElem hi
      have : i ∈ Region.ready .any l.toArray listed := by
        rw [mem_ready]
        refine ⟨?_, l[i], (by simp [hi]), fun e he hb => ih e.on (hok.low i _ hx e he hb) (by have := hok.low i _ hx e he hb; omega)⟩
        simp only [Array.getD_eq_getD_getElem?, Array.getElem?_eq_getElem (show i < listed.size by omega), Option.getD_some] at hl ⊢
        simpa using hl
      rw [h] at this; cases this
theorem push_getD2 {listed : Array Bool} {i : Nat} (hi : i < listed.size) (b d : Bool) : (listed.push b).getD i d = listed.getD i d := by
  simp [Array.getD_eq_getD_getElem?, Array.getElem?_push, Nat.ne_of_lt hi]
theorem ready_old2 (hok : LastOk2 l o) {listed : Array Bool} (hs : listed.size = l.length) {i : Nat} (hi : i < l.length) (h : i ∈ Region.ready .any (l ++ [o]).toArray (listed.push false)) : i ∈ Region.ready .any l.toArray listed := by
  rw [mem_ready] at h ⊢
  obtain ⟨h1, x, hx, h2⟩ := h
  rw [push_getD2 (by omega)] at h1
  have hx' : l[i]? = some x := by simpa [List.getElem?_append_left hi] using hx
  refine ⟨h1, x, by simpa using hx', fun e he hb => ?_⟩
  have := h2 e he hb
  rwa [push_getD2 (by have := hok.low i x hx' e he hb; omega)] at this
theorem old_ready2 (hok : LastOk2 l o) {listed : Array Bool} (hs : listed.size = l.length) {i : Nat} (h : i ∈ Region.ready .any l.toArray listed) : i ∈ Region.ready .any (l ++ [o]).toArray (listed.push false) := by
  rw [mem_ready] at h ⊢
  obtain ⟨h1, x, hx, h2⟩ := h
  have hi : i < l.length := by have := (Array.getElem?_eq_some_iff.1 hx).1; simpa using this
  have hx' : l[i]? = some x := by simpa using hx
  refine ⟨by rw [push_getD2 (by omega)]; exact h1, x, by simpa [List.getElem?_append_left hi] using hx', fun e he hb => ?_⟩
  rw [push_getD2 (by have := hok.low i x hx' e he hb; omega)]
  exact h2 e he hb
def Closed2 (l : List Oper) (listed : Array Bool) : Prop := ∀ i x, l[i]? = some x → listed.getD i false = true → ∀ e ∈ x.after, Region.binds .any e = true → listed.getD e.on false = true
theorem closed_set2 {listed : Array Bool} (hc : Closed2 l listed) {i : Nat} (hi : i ∈ Region.ready .any l.toArray listed) : Closed2 l (listed.setIfInBounds i true) := by
  intro j x hx hj e he hb
  obtain ⟨_, y, hy, h2⟩ := mem_ready.1 hi
  have hy' : l[i]? = some y := by simpa using hy
  by_cases hij : i = j
  · subst hij
    rw [hx] at hy'
    injection hy' with hy'
    subst hy'
    exact getD_set_true (h2 e he hb)
  · rw [getD_set_ne false hij] at hj
    exact getD_set_true (hc j x hx hj e he hb)
theorem ready_last2 (hok : LastOk2 l o) {listed : Array Bool} (hs : listed.size = l.length) (hc : Closed2 l listed) : l.length ∈ Region.ready .any (l ++ [o]).toArray (listed.push false) ↔ ∀ i, i < l.length → listed.getD i false = true := by
  rw [mem_ready]
  constructor
  · rintro ⟨_, x, hx, h⟩
    have : x = o := by simp at hx; exact hx.symm
    subst this
    have key : ∀ d i, i < l.length → l.length - i ≤ d → listed.getD i false = true := by
      intro d
      induction d with
      | zero => intro i hi hd; omega
      | succ d ih =>
        intro i hi hd
        rcases hok.all i hi with ⟨e, he, rfl, hb⟩ | ⟨k, y, hk, hy, e, he, rfl, hb⟩
        · have := h e he hb
          rwa [push_getD2 (by omega)] at this
        · have hkl := (List.getElem?_eq_some_iff.1 hy).1
          exact hc k y hy (ih k hkl (by omega)) e he hb
    exact fun i hi => key _ i hi (Nat.le_refl _)
  · intro h
    refine ⟨by simp [Array.getD_eq_getD_getElem?, ← hs], o, by simp, fun e he hb => ?_⟩
    rw [push_getD2 (by have := hok.lt e he hb; omega)]
    exact h _ (hok.lt e he hb)
theorem ready_end2 {listed : Array Bool} (hs : listed.size = l.length) (h : ∀ i, i < l.length → listed.getD i false = true) : Region.ready .any (l ++ [o]).toArray ((listed.push false).setIfInBounds l.length true) = [] := by
  apply List.eq_nil_iff_forall_not_mem.2
  intro i hi
  rw [mem_ready] at hi
  obtain ⟨h1, x, hx, _⟩ := hi
  have hlt : i < l.length + 1 := by have := (Array.getElem?_eq_some_iff.1 hx).1; simpa using this
  have e : (listed.push false).setIfInBounds l.length true = listed.push true := by
    apply Array.ext_getElem?
    intro j
    simp only [Array.getElem?_setIfInBounds, Array.getElem?_push, Array.size_push]
    by_cases hj : l.length = j
    · subst hj; simp [hs]
    · simp [hj, show ¬ j = listed.size by omega]
  rw [e] at h1
  rcases Nat.lt_or_ge i l.length with hl | hl
  · rw [push_getD2 (by omega)] at h1
    have := h i hl
    simp only [Array.getD_eq_getD_getElem?, Array.getElem?_eq_getElem (show i < listed.size by omega), Option.getD_some] at h1 this
    rw [this] at h1; cases h1
  · have : i = listed.size := by omega
    subst this
    simp [Array.getD_eq_getD_getElem?] at h1
theorem wpOp_last2 {K : Act → World → Prop} {a : Act} {w : World} (h : wpList P (l ++ [o]).toArray Q [o] a w) (hK : ∀ a w, Q .normal a w → K a w) : wpOp P (l ++ [o]).toArray Q l.length K a w := by
  unfold wpOp
  have e : (l ++ [o]).toArray[l.length]? = some o := by simp
  rw [e]
  by_cases hw : Region.wanted o (yielded (l ++ [o]).toArray a.tmps) = true
  · simp only [wpList, hw, if_true] at h ⊢
    exact h.imp (Oper.wp_mono fun a w h => hK a w h) id
  · have hw' : Region.wanted o (yielded (l ++ [o]).toArray a.tmps) = false := by simpa using hw
    simp only [wpList, hw'] at h ⊢
    exact hK _ _ h
theorem wpOp_old2 (hok : LastOk2 l o) {K K' : Act → World → Prop} {a : Act} {w : World} {i : Nat} (hi : i < l.length) (hK : ∀ a w, K a w → K' a w) (h : wpOp P l.toArray (LastPost P (l ++ [o]).toArray o Q) i K a w) :
    wpOp P (l ++ [o]).toArray Q i K' a w := by
  unfold wpOp at h ⊢
  have hx := List.getElem?_eq_getElem hi
  have e1 : l.toArray[i]? = some l[i] := by simp [hi]
  have e2 : (l ++ [o]).toArray[i]? = some l[i] := by simp [List.getElem?_append_left hi, hi]
  rw [e1] at h
  rw [e2]
  have hy : Region.wanted l[i] (yielded (l ++ [o]).toArray a.tmps) = Region.wanted l[i] (yielded l.toArray a.tmps) := by
    unfold Region.wanted
    split
    · rfl
    · rename_i j b hg
      have hj := hok.guard i _ hx j b hg
      have : yielded (l ++ [o]).toArray a.tmps j = yielded l.toArray a.tmps j := by
        unfold yielded
        rw [show (l ++ [o]).toArray[j]? = l.toArray[j]? from by simp [List.getElem?_append_left hj]]
      rw [this]
  simp only [hy]
  split
  · rename_i hw
    simp only [hw, if_true] at h
    rcases h with h | h
    · exact .inl (oper_post2 (Q' := LastPost P (l ++ [o]).toArray o Q) (fun _ _ _ h => h) lastPost_out2 (Oper.wp_mono hK h))
    · exact .inr ⟨h.1, lastPost_out2 h.2⟩
  · rename_i hw
    simp only [hw] at h
    exact hK _ _ h
theorem wpAny_last2 (hok : LastOk2 l o) : ∀ (fuel : Nat) (listed : Array Bool) (a : Act) (w : World), listed.size = l.length → Closed2 l listed → wpAny P .any l.toArray (LastPost P (l ++ [o]).toArray o Q) fuel listed a w →
    wpAny P .any (l ++ [o]).toArray Q (fuel + 1) (listed.push false) a w := by
  intro fuel
  induction fuel with
  | zero =>
    intro listed a w hs hc h
    obtain ⟨h1, h2⟩ := h
    have hall := all_listed2 hok hs h1
    have hin := (ready_last2 hok hs hc).2 hall
    refine ⟨fun h0 => (by rw [h0] at hin; cases hin), fun i hi => ?_⟩
    have hlt : i < l.length + 1 := by
      obtain ⟨_, x, hx, _⟩ := mem_ready.1 hi
      have := (Array.getElem?_eq_some_iff.1 hx).1; simpa using this
    rcases Nat.lt_or_ge i l.length with hl | hl
    · have := ready_old2 hok hs hl hi
      rw [h1] at this; cases this
    · obtain rfl : i = l.length := by omega
      exact wpOp_last2 h2 (fun a w h => ⟨ready_end2 hs hall, h⟩)
  | succ fuel ih =>
    intro listed a w hs hc h
    obtain ⟨h1, h2⟩ := h
    refine ⟨fun h0 => ?_, fun i hi => ?_⟩
    · by_cases hr : Region.ready .any l.toArray listed = []
      · have hin := (ready_last2 hok hs hc).2 (all_listed2 hok hs hr)
        rw [h0] at hin; cases hin
      · obtain ⟨j, hj⟩ := List.exists_mem_of_ne_nil _ hr
        have := old_ready2 hok hs hj
        rw [h0] at this; cases this
    · have hlt : i < l.length + 1 := by
        obtain ⟨_, x, hx, _⟩ := mem_ready.1 hi
        have := (Array.getElem?_eq_some_iff.1 hx).1; simpa using this
      rcases Nat.lt_or_ge i l.length with hl | hl
      · refine wpOp_old2 hok hl (fun a w h => ?_) (h2 i (ready_old2 hok hs hl hi))
        have e : (listed.push false).setIfInBounds i true = (listed.setIfInBounds i true).push false := by
          apply Array.ext_getElem?
          intro j
          simp only [Array.getElem?_setIfInBounds, Array.getElem?_push, Array.size_push, Array.size_setIfInBounds]
          by_cases hj : i = j
          · subst hj; simp [show i < listed.size by omega, show ¬ i = listed.size by omega, show i < listed.size + 1 by omega]
          · simp [hj]
        rw [e]
        exact ih _ a w (by simpa using hs) (closed_set2 hc (ready_old2 hok hs hl hi)) h
      · obtain rfl : i = l.length := by omega
        have hall := (ready_last2 hok hs hc).1 hi
        have hr : Region.ready .any l.toArray listed = [] := by
          apply List.eq_nil_iff_forall_not_mem.2
          intro j hj
          obtain ⟨h0, x, hx, _⟩ := mem_ready.1 hj
          have hjl : j < l.length := by have := (Array.getElem?_eq_some_iff.1 hx).1; simpa using this
          have := hall j hjl
          simp only [Array.getD_eq_getD_getElem?, Array.getElem?_eq_getElem (show j < listed.size by omega), Option.getD_some] at h0 this
          rw [this] at h0; cases h0
        exact wpOp_last2 (h1 hr) (fun a w h => ⟨fun _ => h, fun j hj => by rw [ready_end2 hs hall] at hj; cases hj⟩)
theorem wpAny_last2' (hok : lastOk2 l o = true) {m : Nat} (hm : m = l.length + 1) {a : Act} {w : World} (h : wpAny P .any l.toArray (LastPost P (l ++ [o]).toArray o Q) l.length (Array.replicate l.length false) a w) : wpAny P .any (l ++ [o]).toArray Q m (Array.replicate m false) a w := by
  subst hm
  have := wpAny_last2 (LastOk2.of hok) l.length (Array.replicate l.length false) a _ (by simp) (fun i x hx hi => by simp [Array.getD_eq_getD_getElem?, Array.getElem?_replicate] at hi; split at hi <;> simp at hi) h
  have e : Array.replicate (l.length + 1) false = (Array.replicate l.length false).push false := by
    simp [Array.replicate_succ]
  rw [e]
  exact this
theorem wp_region_last1_held {id : Nat} {a : Act} {w : World} (S : World → Prop) (hm : P.follows .mixedOrders = true) (h1 : lastOk2 l o = true)
    (h : wpAnyH P .any l.toArray (LastPost P (l ++ [o]).toArray o Q) S l.length (Array.replicate l.length false) a w.drew) : (Code.region id (l ++ [o]).toArray true).wp P Q a w := by
  refine wp_region_any hm ?_
  refine wpAny_last2' h1 (by simp) ?_
  exact wpAny_of_held _ _ _ _ h
end
end Go.Proofs.YtgmlenpcchhmbaaGreat.P
end
section
set_option linter.unusedVariables false
set_option linter.unusedSimpArgs false
namespace Go.Proofs.YtgmlenpcchhmbaaGreat.P
open Go.RowKit Go.Shelf Go.Proofs.YtgmlenpcchhmbaaGreatW.PrintWords Go.Proofs.YtgmlenpcchhmbaaGreatW.PrintLast Go.Proofs.YtgmlenpcchhmbaaGreatW.PrintMore
set_option maxHeartbeats 1000000 in
theorem idxPr_any (g : Nat) (fst lb : Array Value) (p : S61 → Bool) (eg : ∀ args w, (callFunc g args).run Tryz.prog w = .ok (.enter g args) w) (base blk cap : Nat) (xs : List (S61)) (w : World)
    (hown : RowPr w base (.slice (some ⟨blk, 0, none⟩) xs.length cap) xs) (hm : xs.length ≤ cap ∧ cap ≤ 9223372036854775807)
    (hp : ∀ (W : World) (s : S61), s ∈ xs → Below w.heap.size w W → Calls Tryz.prog g (fst ++ #[.agg #[.string s.f0, .int .u64 s.f1]] ++ lb) W fun e w' => e = .returned (.bool (p s)) ∧ Below W.heap.size W w') :
    Calls Tryz.prog 125 #[.slice (some ⟨blk, 0, none⟩) xs.length cap, .func (.func g) fst lb] w fun e w' => e = .returned (.int .i64 (idxP p xs)) ∧ Below w.heap.size w w' := by
  obtain ⟨hm1, hm2⟩ := hm
  have HR := Lib.hid hown; clear hown
  have HP := Lib.hid hp; clear hp
  go_enter Tryz.func125, Tryz.ntmps125
  go_wp2
  go_loopw [5, 8] (fun _ i wr => ∃ k : Nat, i = .int .i64 k ∧ k ≤ xs.length ∧ Below w.heap.size w wr ∧ RowKit.Hid (∀ j (hj : j < xs.length), j < k → p xs[j] = false)) (fun _ i _ => xs.length - (intOf i).toNat)
  case atStart => exact ⟨0, rfl, Nat.zero_le _, Below.refl _ _, Lib.hid (fun j _ h => absurd h (Nat.not_lt_zero _))⟩
  case round =>
    obtain ⟨k, rfl, hk, hB, HN⟩ := hrel
    by_cases hlt : k < xs.length
    · obtain ⟨x0, x1, _, _⟩ := RowPr.at_ (pw_own_below HR.out hB) k xs[k] (List.getElem?_eq_getElem hlt)
      have hc := HP.out wr xs[k] (List.getElem_mem hlt) hB
      generalize hu : xs[k] = u at *
      have HU := Lib.hid hu; clear hu
      cases hq : p u with
      | true =>
        rw [hq] at hc
        have HQ := Lib.hid hq; clear hq
        go_wp2_with (go_at_fn g; refine hc.mono ?_; rintro e w' ⟨rfl, hb⟩)
        go_ret
        refine ⟨?_, hB.trans (hb.mono hB.size)⟩
        rw [idxP_hit hlt HN.out (by rw [HU.out]; exact HQ.out)]
        rfl
      | false =>
        rw [hq] at hc
        have HQ := Lib.hid hq; clear hq
        go_wp2_with (go_at_fn g; refine hc.mono ?_; rintro e w' ⟨rfl, hb⟩)
        go_roundw
        case rel => exact ⟨k + 1, by go_num, by omega, hB.trans (hb.mono hB.size), Lib.hid (fun j hj h => by
          by_cases e : j = k
          · subst e; rw [HU.out]; exact HQ.out
          · exact HN.out j hj (by omega))⟩
        case measure => simp [intOf]; omega
    · obtain rfl : k = xs.length := by omega
      go_wp2
      go_ret
      refine ⟨?_, hB⟩
      rw [idxP_none (fun j hj => HN.out j hj (by omega))]
      rfl
set_option maxHeartbeats 4000000 in
set_option maxRecDepth 100000 in
theorem delPr_any (g : Nat) (fst lb : Array Value) (p : S61 → Bool) (eg : ∀ args w, (callFunc g args).run Tryz.prog w = .ok (.enter g args) w) (base blk cap : Nat) (xs : List (S61)) (w : World)
    (hown : RowPr w base (.slice (some ⟨blk, 0, none⟩) xs.length cap) xs)
    (hp : ∀ (W : World) (s : S61), s ∈ xs → Upd w W (· = blk) → Calls Tryz.prog g (fst ++ #[.agg #[.string s.f0, .int .u64 s.f1]] ++ lb) W fun e w' => e = .returned (.bool (p s)) ∧ Below W.heap.size W w') :
    Calls Tryz.prog 82 #[.slice (some ⟨blk, 0, none⟩) xs.length cap, .func (.func g) fst lb] w fun e w' =>
      e = .returned (.slice (some ⟨blk, 0, none⟩) (xs.filter fun x => !p x).length cap) ∧ RowPr w' base (.slice (some ⟨blk, 0, none⟩) (xs.filter fun x => !p x).length cap) (xs.filter fun x => !p x) ∧ Upd w w' (· = blk) := by
  have hcap : xs.length ≤ cap ∧ cap ≤ 9223372036854775807 := by
    rcases hown.2 with ⟨h, _⟩ | ⟨g', cap', cur, h, _, _, h1, h2, _⟩
    · cases h
    · injection h with _ _ h
      subst h
      exact ⟨h1, by simpa [maxLen] using h2⟩
  have hidx := idxPr_any g fst lb p eg base blk cap xs w hown hcap (fun W x hx hb => hp W x hx (Upd.of_below hb _))
  obtain ⟨hcap1, hcap2⟩ := hcap
  have HO := Lib.hid hown
  have HP := Lib.hid hp; clear hp
  by_cases hall : ∀ j (hj : j < xs.length), p xs[j] = false
  · rw [idxP_none hall] at hidx
    have hf : (xs.filter fun x => !p x) = xs := List.filter_eq_self.2 (fun x hx => by
      obtain ⟨j, hj, rfl⟩ := List.getElem_of_mem hx
      simp [hall j hj])
    rw [hf]
    clear hf hall hown
    go_enter Tryz.func82, Tryz.ntmps82
    go_wp2_with (go_at_call 125; refine hidx.mono ?_; rintro e w' ⟨rfl, hb⟩)
    go_ret
    exact ⟨rfl, pw_own_below HO.out hb, Upd.of_below hb _⟩
  · obtain ⟨k, hk, ht, hlow⟩ : ∃ k, ∃ hk : k < xs.length, p xs[k] = true ∧ ∀ j (hj : j < xs.length), j < k → p xs[j] = false := by
      cases hf : xs.findIdx? p with
      | none =>
        rw [List.findIdx?_eq_none_iff] at hf
        exact absurd (fun j hj => hf _ (List.getElem_mem hj)) hall
      | some k =>
        rw [List.findIdx?_eq_some_iff_getElem] at hf
        obtain ⟨hk, ht, h⟩ := hf
        exact ⟨k, hk, ht, fun j _ hj => by simpa using h j hj⟩
    rw [idxP_hit hk hlow ht] at hidx
    have HI := Lib.hid (DelInv.start hk hlow ht)
    clear hall hlow ht hown
    have hne : ((k : Int) == -1) = false := beq_eq_false_iff_ne.2 (by omega)
    go_enter Tryz.func82, Tryz.ntmps82
    go_wp2_with (go_at_call 125; refine hidx.mono ?_; rintro e w' ⟨rfl, hb⟩)
    go_loopw [5, 6, 7] (fun si sj _ wr => ∃ (i j : Nat) (ys : List (S61)), si = .int .i64 i ∧ sj = .int .i64 j ∧ i < j ∧ j ≤ xs.length ∧ RowKit.Hid (DelInv p xs ys i j) ∧ RowKit.Hid (RowPr wr base (.slice (some ⟨blk, 0, none⟩) xs.length cap) ys ∧ Upd w wr (· = blk))) (fun _ j _ _ => xs.length - (intOf j).toNat)
    case atStart => exact ⟨k, k + 1, xs, rfl, by go_num, by omega, by omega, HI, Lib.hid ⟨pw_own_below HO.out hb, Upd.of_below hb _⟩⟩
    case round =>
      obtain ⟨i, j, ys, rfl, rfl, hij, hj, HD, HS⟩ := hrel
      have hyl := HD.out.len
      by_cases hlt : j < xs.length
      · have hget := HD.out.get hlt
        obtain ⟨x0, x1, _, _⟩ := RowPr.at_ HS.out.1 j xs[j] (by rw [List.getElem?_eq_getElem (by omega), hget])
        obtain ⟨z', hz'⟩ : ∃ z', ys[i]? = some z' := ⟨_, List.getElem?_eq_getElem (by omega)⟩
        obtain ⟨c0, c1, q0, q1⟩ := RowPr.at_ HS.out.1 i z' hz'
        have hblk : blk < wr.heap.size := (World.ownsRow.lt HS.out.1 blk rfl).2
        have hc := fun W (h : Below wr.heap.size wr W) => HP.out W xs[j] (List.getElem_mem hlt) (HS.out.2.then_below h)
        have hx : RowKit.Hid (∀ q, p xs[j] = q → DelInv p xs (if q then ys else ys.set i xs[j]) (if q then i else i + 1) (j + 1)) := Lib.hid (fun q hq => by
          cases q with
          | true => exact HD.out.skip hlt hq
          | false => exact HD.out.keep hlt hq)
        clear hget hyl hz'
        generalize xs[j] = s at *
        obtain ⟨q, hq⟩ : ∃ q, p s = q := ⟨_, rfl⟩
        rw [hq] at hc
        have HC := Lib.hid hc; clear hc
        have HQ := Lib.hid hq; clear hq
        cases q with
        | true =>
          have HSK := Lib.hid (hx.out true HQ.out)
          go_wp2_with (go_at_fn g; refine (HC.out _ ((Below.refl _ _).alloc (Nat.le_refl _) _)).mono ?_; rintro e w2 ⟨rfl, hb2⟩)
          go_roundw
          case rel =>
            have hbw : Below wr.heap.size wr w2 := ((Below.refl _ _).alloc (Nat.le_refl _) _).trans (hb2.mono (by simp))
            exact ⟨i, j + 1, ys, rfl, by go_num, by omega, by omega, HSK, Lib.hid ⟨pw_own_below HS.out.1 hbw, HS.out.2.then_below hbw⟩⟩
          case measure => simp [intOf]; omega
        | false =>
          have HSK := Lib.hid (hx.out false HQ.out)
          have hcells := fun w2 (hb2 : Below (wr.alloc (.cells #[.string s.f0, .int .u64 s.f1] 61)).heap.size (wr.alloc (.cells #[.string s.f0, .int .u64 s.f1] 61)) w2) => (show Below wr.heap.size wr w2 ∧ w2.cell? ⟨wr.heap.size, 0, none⟩ = some (.string s.f0) ∧ w2.cell? ⟨wr.heap.size, 1, none⟩ = some (.int .u64 s.f1) from by
            have hn := Blk.new wr 61 #[.string s.f0, .int .u64 s.f1]
            exact ⟨((Below.refl _ _).alloc (Nat.le_refl _) _).trans (hb2.mono (by simp)), (hn.below hb2 (by simp)).cell 0, (hn.below hb2 (by simp)).cell 1⟩)
          have HCE := Lib.hid hcells
          clear hcells
          go_wp2_with (go_at_fn g; refine (HC.out _ ((Below.refl _ _).alloc (Nat.le_refl _) _)).mono ?_; rintro e w2 ⟨rfl, hb2⟩; obtain ⟨hbw, n0, n1⟩ := HCE.out w2 hb2; have c0' := pw_cell_below hbw c0; have c1' := pw_cell_below hbw c1; have q0' := (hbw.frozen (p := ⟨blk, i * 2, none⟩) hblk).trans q0; have q1' := (hbw.frozen (p := ⟨blk, i * 2 + 1, none⟩) hblk).trans q1)
          go_roundw
          case rel => exact ⟨i + 1, j + 1, ys.set i s, by go_num, by go_num, by omega, by omega, HSK, Lib.hid ⟨RowPr.store (pw_own_below HS.out.1 hbw) i s, ((HS.out.2.then_below hbw).setCell (.inl rfl) _).setCell (.inl rfl) _⟩⟩
          case measure => simp [intOf]; omega
      · obtain rfl : j = xs.length := by omega
        have hsz := HD.out.size
        have hdn := Lib.hid HD.out.done
        obtain ⟨vs, hcl⟩ : ∃ vs, ∀ ty, (Builtin.clear_ #[39] ty #[.slice (some ⟨blk, i * 2, none⟩) (xs.length - i) (cap - i)]).run Tryz.prog wr = .ok (.tuple #[]) (wr.setCells blk (i * 2) vs) := ⟨_, fun ty =>
          run_clear2 wr _ _ ty _ (.string ⟨#[]⟩) (.int .u64 0) Tryz.underlying39 Tryz.zeroValue61 rfl rfl rfl blk (i * 2) _ _ (by omega) (fun t ht => by
            have h := World.ownsRow.cellAt (n := xs.length) (by have h := HS.out.1; unfold RowPr at h; rw [hyl] at h; exact h) (i * 2 + t) (by omega)
            rw [h, List.getElem?_eq_getElem (by rw [enc2_len, List.length_map]; omega)]; rfl) (fun t ht => World.ownsRow.frozenAt (n := xs.length) (by have h := HS.out.1; unfold RowPr at h; rw [hyl] at h; exact h) _)⟩
        have HSZ := Lib.hid hsz
        clear hsz
        go_wp2
        go_ret
        obtain ⟨zs, hz, ht⟩ := own_setCells vs (i * 2) wr _ (by have h := HS.out.1; unfold RowPr at h; rw [hyl] at h; exact h)
        have h3 := own_take hz (m := i) (by omega)
        rw [ht, enc2_take, ← List.map_take, hdn.out] at h3
        rw [HSZ.out]
        refine ⟨rfl, ?_, HS.out.2.setCells (.inl rfl) vs (i * 2)⟩
        unfold RowPr
        rw [HSZ.out]
        exact h3
theorem delPr_nil (g : Nat) (fst lb : Array Value) (eg : ∀ args w, (callFunc g args).run Tryz.prog w = .ok (.enter g args) w) (w : World) :
    Calls Tryz.prog 82 #[.slice none 0 0, .func (.func g) fst lb] w fun e w' => e = .returned (.slice none 0 0) ∧ Below w.heap.size w w' := by
  have hidx : Calls Tryz.prog 125 #[.slice none 0 0, .func (.func g) fst lb] w fun e w' => e = .returned (.int .i64 (-1)) ∧ Below w.heap.size w w' := by
    go_enter Tryz.func125, Tryz.ntmps125
    go_wp2
    refine wp_loop_rounds 1 ?_
    rw [rounds_succ]
    go_wp2
    go_ret
    exact ⟨rfl, Below.refl _ _⟩
  go_enter Tryz.func82, Tryz.ntmps82
  go_wp2_with (go_at_call 125; refine hidx.mono ?_; rintro e w' ⟨rfl, hb⟩)
  go_ret
  exact ⟨rfl, hb⟩
theorem delPr_own (g : Nat) (fst lb : Array Value) (p : S61 → Bool) (eg : ∀ args w, (callFunc g args).run Tryz.prog w = .ok (.enter g args) w) (base : Nat) (v : Value) (xs : List (S61)) (w w0 : World)
    (hown : RowPr w base v xs) (hb : Below base w0 w) (hbs : base ≤ w.heap.size)
    (hp : ∀ (W : World) (s : S61), s ∈ xs → Below base w0 W → Calls Tryz.prog g (fst ++ #[.agg #[.string s.f0, .int .u64 s.f1]] ++ lb) W fun e w' => e = .returned (.bool (p s)) ∧ Below W.heap.size W w') :
    Calls Tryz.prog 82 #[v, .func (.func g) fst lb] w fun e w' => ∃ v', e = .returned v' ∧ RowPr w' base v' (xs.filter fun x => !p x) ∧ Below base w0 w' ∧ Upd w w' (fun k => v.ownBlock = some k) ∧ v'.ownBlock = v.ownBlock := by
  have hg := hown
  rcases hg.2 with ⟨rfl, h0⟩ | ⟨blk, cap, cur, rfl, hbb, hgb, _⟩
  · obtain rfl : xs = [] := List.eq_nil_of_length_eq_zero h0
    exact (delPr_nil g fst lb eg w).mono fun e w' ⟨he, h⟩ => ⟨_, he, own_nil _ _ _ _, hb.trans (h.mono hbs), Upd.of_below h _, rfl⟩
  · have hU : ∀ W, Upd w W (· = blk) → Below base w0 W := fun W h => hb.trans (h.below hbs (fun k hk e => by omega))
    exact (delPr_any g fst lb p eg base blk cap xs w hown (fun W x hx h => hp W x hx (hU W h))).mono fun e w' ⟨he, ho, h⟩ => ⟨_, he, ho, hU w' h, h.mono fun k _ e => by simp [Value.ownBlock, e], rfl⟩
end Go.Proofs.YtgmlenpcchhmbaaGreat.P
end
section
set_option linter.unusedVariables false
set_option linter.unusedSimpArgs false
namespace Go.Proofs.YtgmlenpcchhmbaaGreat.P
open Go.RowKit Go.Proofs.YtgmlenpcchhmbaaGreatW.PrintWords Go.Proofs.YtgmlenpcchhmbaaGreatW.PrintLast Go.Proofs.YtgmlenpcchhmbaaGreatW.PrintMore
theorem C_blkI {W : World} {b : Nat} {t : TypeId} (xs : List Int) (h : Blk W b t (xs.map (Value.int .i64)).toArray) (hm : xs.length ≤ 1000) : Kd.C (Kd.int .i64) W (some ⟨b, 0, none⟩) xs.length xs := by
  refine ⟨rfl, by omega, fun _ => ⟨_, rfl, fun j p hj => ⟨[.int .i64 p], rfl, rfl, fun i u hu => ?_⟩⟩⟩
  rcases i with _ | i
  · simp only [List.getElem?_cons_zero, Option.some.injEq] at hu
    subst hu
    have := h.cell j
    rw [show (⟨b, 0, none⟩ : Addr).add (j * (Kd.int .i64).sz + 0) = ⟨b, j, none⟩ by rw [show (Kd.int .i64).sz = 1 from rfl, Nat.mul_one, Nat.add_zero, add_plain]]
    rw [this]
    simp [hj]
  · simp at hu
theorem C_blkS {W : World} {b : Nat} {t : TypeId} (xs : List ByteArray) (h : Blk W b t (xs.map Value.string).toArray) (hm : xs.length ≤ 1000) : Kd.C Kd.string W (some ⟨b, 0, none⟩) xs.length xs := by
  refine ⟨rfl, by omega, fun _ => ⟨_, rfl, fun j p hj => ⟨[.string p], rfl, rfl, fun i u hu => ?_⟩⟩⟩
  rcases i with _ | i
  · simp only [List.getElem?_cons_zero, Option.some.injEq] at hu
    subst hu
    have := h.cell j
    rw [show (⟨b, 0, none⟩ : Addr).add (j * Kd.string.sz + 0) = ⟨b, j, none⟩ by rw [show Kd.string.sz = 1 from rfl, Nat.mul_one, Nat.add_zero, add_plain]]
    rw [this]
    simp [hj]
  · simp at hu
theorem RowB.lower {w : World} {b b' : Nat} {v : Value} {xs : List Int} (h : RowB w b v xs) (hb : b' ≤ b) : RowB w b' v xs :=
  ⟨h.1, h.2.imp id fun ⟨g, cap, cur, h1, h2, h3⟩ => ⟨g, cap, cur, h1, Nat.le_trans hb h2, h3⟩⟩
theorem C_atO {w : World} {A : Option Addr} {n : Nat} {xs : List S63} (h : Kd.C k63 w A n xs) (k : Nat) (hk : k < xs.length) : ∃ ad, A = some ad ∧ w.cell? (ad.add (k * 4)) = some (.int .i64 xs[k].f0) ∧ w.cell? ⟨(ad.add (k * 4)).block, (ad.add (k * 4)).off + 1, none⟩ = some (.string xs[k].f1) ∧ w.cell? ⟨(ad.add (k * 4)).block, (ad.add (k * 4)).off + 2, none⟩ = some (.string xs[k].f2) ∧ w.cell? ⟨(ad.add (k * 4)).block, (ad.add (k * 4)).off + 3, none⟩ = some (.int .u64 xs[k].f3) := by
  obtain ⟨ad, hA, x0, x1, x2, x3⟩ := at_T63 h (k : Int) (by omega) (by have := h.1; omega)
  have er : rd_T63 xs (k : Int) = xs[k] := by
    unfold rd_T63
    rw [Int.toNat_natCast, List.getD_eq_getElem?_getD, List.getElem?_eq_getElem hk]
    rfl
  rw [er, Int.toNat_natCast] at x0 x1 x2 x3
  exact ⟨ad, hA, x0, x1, x2, x3⟩
end Go.Proofs.YtgmlenpcchhmbaaGreat.P
end
section
set_option linter.unusedVariables false
set_option linter.unusedSimpArgs false
namespace Go.Proofs.YtgmlenpcchhmbaaGreat.P
open Go.RowKit Go.Proofs.YtgmlenpcchhmbaaGreatW.PrintWords Go.Proofs.YtgmlenpcchhmbaaGreatW.PrintLast Go.Proofs.YtgmlenpcchhmbaaGreatW.PrintMore
structure EyeIs (w : World) (g ab : Nat) (xs : List Int) (bl : Bool) : Prop where
  ne : ab ≠ g ∨ xs = []
  old : ab < w.heap.size
  ex : ∃ A c, Blk w g 137 #[.slice A xs.length c, .bool bl] ∧ xs.length ≤ c ∧ Kd.F (Kd.int .u8) w (· = ab) A xs.length xs
theorem F_zero {w : World} {ok : Nat → Prop} (A : Option Addr) : Kd.F (Kd.int .u8) w ok A 0 [] := fun _ _ => ⟨rfl, by decide, fun h => absurd h (by decide)⟩
theorem rep23 : Array.replicate 23 undef = #[undef, undef, undef, undef, undef, undef, undef, undef, undef, undef, undef, undef, undef, undef, undef, undef, undef, undef, undef, undef, undef, undef, undef] := rfl
theorem sight_assert (w : World) : (Instr.typeAssert (.iface 170 (.agg #[])) 20 170 true).run Tryz.prog w = .ok (.tuple #[.agg #[], .bool true]) w := by kernel_rfl
structure Caught (w w' : World) (g bx : Nat) (was : Value) (z : Value) (tX : TypeId) : Prop where
  upd : Upd w w' (fun k => k = g ∨ k = bx)
  eye : Blk w' g 137 #[was, .bool true]
  res : Blk w' bx tX #[z]
section
variable {w w' : World} {g ab : Nat} {xs : List Int} {bl : Bool}
theorem EyeIs.upd {S : Nat → Prop} (h : EyeIs w g ab xs bl) (hu : Upd w w' S) (hg : ¬ S g) (ha : ¬ S ab) : EyeIs w' g ab xs bl := by
  obtain ⟨A, c, hB, hc, hF⟩ := h.ex
  exact ⟨h.ne, Nat.lt_of_lt_of_le h.old hu.size, A, c, hB.upd hu hg, hc, Kd.F_step hF (fun k hk hlt => hu.block k hlt (hk ▸ ha))⟩
theorem EyeIs.below (h : EyeIs w g ab xs bl) (hb : Below w.heap.size w w') : EyeIs w' g ab xs bl := h.upd (Upd.of_below hb (fun _ => False)) (fun h => h) (fun h => h)
theorem EyeIs.lt (h : EyeIs w g ab xs bl) : g < w.heap.size := by obtain ⟨A, c, hB, _⟩ := h.ex; exact hB.lt
def sightP : List PanicEntry := [{ v := .iface 170 (.agg #[]), recovered := false }]
theorem must_true (w : World) : Calls Tryz.prog 98 #[.bool true] w fun e w' => e = .returned (.tuple #[]) ∧ w' = w := by
  go_enter Tryz.func98, Tryz.ntmps98
  go_wp2
  (try simp only [Exit.inBlock, Exit.then]); refine bodyPost_end (results_none rfl _ _ _) rfl ?_
  exact ⟨rfl, rfl⟩
theorem must_false (w : World) : Calls Tryz.prog 98 #[.bool false] w fun e w' => e = .panicked sightP ∧ w' = w := by
  go_enter Tryz.func98, Tryz.ntmps98
  go_wp2
  exact ⟨rfl, rfl, rfl⟩
theorem C_of_int {W : World} {A : Option Addr} {n : Nat} {xs : List Int} (h : ReadsInt W .u8 A n xs) : Kd.C (Kd.int .u8) W A n xs := Kd.C_of_reads (d := (0 : Int)) (readsInt_of.1 h)
theorem reads_F {A : Option Addr} {n : Nat} {ys : List Int} {ok : Nat → Prop} (h : Kd.F (Kd.int .u8) w ok A n ys) : ReadsInt w .u8 A n ys := readsInt_of.2 (Kd.reads_of_C (d := (0 : Int)) (Kd.F_now h))
theorem F_reads {A A' : Option Addr} {n n' : Nat} {ys ys' : List Int} {ok : Nat → Prop} (h : Kd.F (Kd.int .u8) w ok A n ys) (hi : ∀ W, ReadsInt W .u8 A n ys → ReadsInt W .u8 A' n' ys') : Kd.F (Kd.int .u8) w ok A' n' ys' :=
  Kd.F_imp h (fun W hC => C_of_int (hi W (readsInt_of.2 (Kd.reads_of_C (d := (0 : Int)) hC))))
theorem take_done {A : Option Addr} {n c n2 c2 : Nat} (hB : Blk w g 137 #[.slice A xs.length c, .bool bl]) (hne : ab ≠ g ∨ xs = []) (hold : ab < w.heap.size) (hF : Kd.F (Kd.int .u8) w (· = ab) A xs.length xs) (hn : n ≤ xs.length) (hc : xs.length ≤ c) (h2 : n2 = xs.length - n) (hc2 : c2 = c - n) {A2 : Option Addr} (hA2 : A2 = if c = n then A else A.map (·.add n)) :
    Kd.F (Kd.int .u8) (w.setCell ⟨g, 0, none⟩ (.slice A2 n2 c2)) (· = ab) A n (xs.take n) ∧ EyeIs (w.setCell ⟨g, 0, none⟩ (.slice A2 n2 c2)) g ab (xs.drop n) bl ∧ Upd w (w.setCell ⟨g, 0, none⟩ (.slice A2 n2 c2)) (· = g) := by
  have hu : Upd w (w.setCell ⟨g, 0, none⟩ (.slice A2 n2 c2)) (· = g) := (Upd.refl w (· = g)).setCell (p := ⟨g, 0, none⟩) (.inl rfl) _
  have hF' : Kd.F (Kd.int .u8) (w.setCell ⟨g, 0, none⟩ (.slice A2 n2 c2)) (· = ab) A xs.length xs := by
    rcases hne with hne | rfl
    · exact Kd.F_step hF (fun k hk hlt => hu.block k hlt (fun e => hne (hk ▸ e)))
    · exact F_zero A
  have hl : n2 = (xs.drop n).length := by rw [List.length_drop]; exact h2
  refine ⟨F_reads hF' (fun W h => h.take_ n hn), ⟨hne.imp id (fun h => by rw [h, List.drop_nil]), Nat.lt_of_lt_of_le hold hu.size, A2, c2, ?_, by rw [← hl]; omega, ?_⟩, hu⟩
  · have := hB.set_ 0 (.slice A2 n2 c2)
    rw [hl] at this ⊢
    exact this
  · rw [← hl, hA2, h2]
    rw [hA2, h2] at hF'
    exact F_reads hF' (fun W h => h.drop_ n hn hc)
theorem take_short (h : EyeIs w g ab xs bl) (n : Int) (hn : (xs.length : Int) < n) : Calls Tryz.prog 99 #[ptr g, .int .i64 n] w fun e w' => e = .panicked sightP ∧ w' = w := by
  obtain ⟨A, c, hB, hc, hF⟩ := h.ex
  have hc0 : w.cell? ⟨g, 0, none⟩ = some (.slice A xs.length c) := hB.cell 0
  have d1 : decide (n ≤ (xs.length : Int)) = false := decide_eq_false (by omega)
  clear h hB hF
  go_enter Tryz.func99, Tryz.ntmps99
  go_wp2_with fail
  refine (must_false w).mono ?_
  rintro e w1 ⟨rfl, rfl⟩
  go_wp2_with fail
  exact ⟨rfl, rfl, rfl⟩
theorem take_ok (h : EyeIs w g ab xs bl) (n : Nat) (hn : n ≤ xs.length) : Calls Tryz.prog 99 #[ptr g, .int .i64 (n : Int)] w fun e w' => ∃ A1 c1, e = .returned (.slice A1 n c1) ∧ n ≤ c1 ∧ Kd.F (Kd.int .u8) w' (· = ab) A1 n (xs.take n) ∧ EyeIs w' g ab (xs.drop n) bl ∧ Upd w w' (· = g) := by
  obtain ⟨A, c, hB, hc, hF⟩ := h.ex
  have hne := h.ne; have hold := h.old
  have hm := (reads_F hF).2.1
  have hc0 : w.cell? ⟨g, 0, none⟩ = some (.slice A xs.length c) := hB.cell 0
  have hfz := hB.frozen 0
  have d1 : decide ((n : Int) ≤ (xs.length : Int)) = true := decide_eq_true (by omega)
  have hnc : n ≤ c := by omega
  have hu : ∀ v : Value, Upd w (w.setCell ⟨g, 0, none⟩ v) (· = g) := fun v => (Upd.refl w (· = g)).setCell (p := ⟨g, 0, none⟩) (.inl rfl) v
  have HB := Lib.hid hB; have HF := Lib.hid hF; have HU := Lib.hid hu; have HNE := Lib.hid hne; have HC := Lib.hid hc; have HOL := Lib.hid hold
  clear h hB hF hu hne hold
  go_enter Tryz.func99, Tryz.ntmps99
  go_wp2_with fail
  refine (must_true w).mono ?_
  rintro e w1 ⟨rfl, rfl⟩
  by_cases hcn : c = n
  · have hD := take_done (n := n) (n2 := 0) (c2 := 0) HB.out HNE.out HOL.out HF.out hn HC.out (by omega) (by omega) (A2 := A) (by rw [if_pos hcn])
    have HD := Lib.hid hD; clear hD
    subst hcn
    go_wp2
    go_ret
    exact ⟨A, c, rfl, Nat.le_refl _, HD.out⟩
  · have hD := take_done (n := n) (n2 := xs.length - n) (c2 := c - n) HB.out HNE.out HOL.out HF.out hn HC.out rfl rfl (A2 := A.map (·.add n)) (by rw [if_neg hcn])
    have HD := Lib.hid hD; clear hD
    go_wp2
    go_ret
    exact ⟨A, c, rfl, hnc, HD.out⟩
def numOf (xs : List Int) (many : Nat) : Nat := leNum (xs.take many)
theorem number_short (h : EyeIs w g ab xs bl) (n : Nat) (hn : xs.length < n) : Calls Tryz.prog 95 #[ptr g, .int .i64 (n : Int)] w fun e w' => e = .panicked sightP ∧ w' = w := by
  have ht := take_short h (n : Int) (by omega)
  have HT := Lib.hid ht
  clear h ht
  go_enter Tryz.func95, Tryz.ntmps95
  go_wp2_with fail
  refine HT.out.mono ?_
  rintro e w1 ⟨rfl, rfl⟩
  go_wp2_with fail
  exact ⟨rfl, rfl, rfl⟩
def NumA (w1 : World) (ys : List Int) (nv kv : Value) (wr : World) : Prop := ∃ k : Nat, kv = .int .i64 k ∧ k ≤ ys.length ∧ nv = .int .u64 (leNum (ys.take k) : Nat) ∧ wr = w1
theorem number_ok (h : EyeIs w g ab xs bl) (hx : bytesOk xs) (n : Nat) (hn : n ≤ xs.length) (h8 : n ≤ 8) : Calls Tryz.prog 95 #[ptr g, .int .i64 (n : Int)] w fun e w' => e = .returned (.int .u64 (numOf xs n : Nat)) ∧ EyeIs w' g ab (xs.drop n) bl ∧ Upd w w' (· = g) := by
  have ht := take_ok h n hn
  have HT := Lib.hid ht
  clear h ht
  go_enter Tryz.func95, Tryz.ntmps95
  go_wp2_with fail
  refine HT.out.mono ?_
  rintro e w1 ⟨A1, c1, rfl, hc1, hF1, hE1, hu1⟩
  have HR := Lib.hid (reads_F hF1)
  have HE := Lib.hid (And.intro hE1 hu1)
  have hyl : (xs.take n).length = n := by rw [List.length_take]; omega
  have hyb : bytesOk (xs.take n) := fun x hx' => hx x (List.mem_of_mem_take hx')
  obtain ⟨ys, hys⟩ : ∃ ys, xs.take n = ys := ⟨_, rfl⟩
  rw [hys] at HR hyl hyb
  have HYB := Lib.hid hyb
  have HYS := Lib.hid (show numOf xs n = leNum ys by unfold numOf; rw [hys])
  clear hF1 hE1 hu1 hx hys hyb HT
  subst hyl
  go_wp2
  go_loopw [4, 5, 6, 11] (fun nv _ _ kv wr => NumA w1 ys nv kv wr) (fun _ _ _ k _ => ys.length - (intOf k).toNat)
  case atStart => exact ⟨0, rfl, Nat.zero_le _, rfl, rfl⟩
  case round =>
    obtain ⟨k, rfl, hk, rfl, hw⟩ := hrel
    replace hw := hw.symm
    subst hw
    by_cases hlt : k < ys.length
    · obtain ⟨ad, hA, hcell⟩ := HR.out.at_ (k : Int) (by omega) (by omega)
      subst hA
      rw [rd_nat ys hlt] at hcell
      simp only [Int.toNat_natCast] at hcell
      have hb := HYB.out ys[k] (List.getElem_mem hlt)
      obtain ⟨b, hbe⟩ : ∃ b : Nat, ys[k] = b := ⟨ys[k].toNat, by omega⟩
      have hsn := leNum_snoc (ys.take k) ys[k]
      rw [← List.take_succ_eq_append_getElem hlt, List.length_take, Nat.min_eq_left (by omega), hbe, Int.toNat_natCast] at hsn
      have hlt2 := leNum_lt (ys.take k) (fun x hx => HYB.out x (List.mem_of_mem_take hx))
      rw [List.length_take, Nat.min_eq_left (by omega)] at hlt2
      have hj := or_join (k := k) (acc := leNum (ys.take k)) (b := b) (by omega) hlt2 (by omega)
      rw [hbe] at hcell
      have HJ := Lib.hid hj; have HSN := Lib.hid hsn
      clear hb hbe hsn hlt2 hj
      go_wp2
      go_roundw
      case rel => exact ⟨k + 1, by go_num, by omega, by rw [HSN.out, HJ.out], rfl⟩
      case measure => simp [intOf]; omega
    · obtain rfl : k = ys.length := by omega
      rw [List.take_length]
      go_wp2
      go_ret
      refine ⟨?_, HE.out⟩
      rw [HYS.out]
      rfl
end
end Go.Proofs.YtgmlenpcchhmbaaGreat.P
end
section
set_option linter.unusedVariables false
set_option linter.unusedSimpArgs false
namespace Go.Proofs.YtgmlenpcchhmbaaGreat.P
open Go.RowKit Go.Proofs.YtgmlenpcchhmbaaGreatW.PrintWords Go.Proofs.YtgmlenpcchhmbaaGreatW.PrintLast Go.Proofs.YtgmlenpcchhmbaaGreatW.PrintMore
section
variable {w : World} {g ab : Nat} {xs xs' : List Int} {A : Option Addr} {n c : Nat} {x : Int} {v0 : Value} {older : List PanicEntry}
theorem seeI_blind (h : EyeIs w g ab xs true) (f : Fn) (fi ca : Array Value) : Calls Tryz.prog 93 #[ptr g, .func f fi ca] w fun e w' => e = .returned (.int .i64 0) ∧ Below w.heap.size w w' := by
  obtain ⟨A, c, hB, hc, hF⟩ := h.ex
  have hc1 : w.cell? ⟨g, 1, none⟩ = some (.bool true) := hB.cell 1
  obtain ⟨w1, hw1⟩ : ∃ w1, (w.alloc (.cells #[ptr g] 80)).alloc (.cells #[.int .i64 0] 2) = w1 := ⟨_, rfl⟩
  have hb1 : Below w.heap.size w w1 := hw1 ▸ ((Below.refl _ _).alloc (Nat.le_refl _) _).alloc (by simp) _
  have h0 : w1.cell? ⟨w.heap.size, 0, none⟩ = some (ptr g) := hw1 ▸ ((Blk.new w 80 #[ptr g]).alloc _).cell 0
  have hx : Blk w1 (w.heap.size + 1) 2 #[.int .i64 0] := by
    have := Blk.new (w.alloc (.cells #[ptr g] 80)) 2 #[.int .i64 0]
    rw [hw1] at this
    simpa using this
  have hx0 : w1.cell? ⟨w.heap.size + 1, 0, none⟩ = some (.int .i64 0) := hx.cell 0
  have hxz := hx.frozen 0
  have hc1' := pw_cell_below hb1 hc1
  have HX := Lib.hid hx
  clear h hB hF hx
  go_enter_defers Tryz.func93, Tryz.ntmps93
  go_wp2
  have hxs : (w1.setCell ⟨w.heap.size + 1, 0, none⟩ (.int .i64 0)).cell? ⟨w.heap.size + 1, 0, none⟩ = some (.int .i64 0) := (HX.out.set_ 0 (.int .i64 0)).cell 0
  simp [bodyPostD, Leaves, results, Tryz.results93, go_sem, hxs]
  exact hb1.setCell (p := ⟨w.heap.size + 1, 0, none⟩) (Nat.le_succ _) _
theorem seeI1_idle (bw bx be : Nat) (w : World) : CallsD Tryz.prog 138 #[ptr bw, ptr bx, ptr be] .returning w fun e u' w' => e = .returned (.tuple #[]) ∧ u' = .returning ∧ w' = w := by
  refine callsD_of_wpS Tryz.func138 rfl fun c₀ cs hu => ?_
  apply wpS_seq
  apply wpS_region
  simp [wpOpsS, go_sem, recoverD, hu, Tryz.ntmps138, Exit.thenS]
  apply wpS_seq
  apply wpS_region
  simp [wpOpsS, go_sem, Exit.thenS]
  refine wpS_cond (t := false) (by simp [Act.eval, Array.replicate]) ?_
  simp only [Bool.false_eq_true, if_false]
  refine wpS_of_wp (wp_skip ?_)
  cases c₀
  simp_all [bodyPostS, results, Tryz.results138]
set_option maxRecDepth 100000 in
theorem seeI1_catch (bw bx be : Nat) (w : World) (hw : w.cell? ⟨bw, 0, none⟩ = some (.slice A n c)) (hx : Blk w bx 2 #[.int .i64 x]) (he : w.cell? ⟨be, 0, none⟩ = some (ptr g)) (hg : Blk w g 137 #[v0, .bool false]) :
    CallsD Tryz.prog 138 #[ptr bw, ptr bx, ptr be] (.panicking ({ v := .iface 170 (.agg #[]), recovered := false } :: older)) w fun e u' w' => e = .returned (.tuple #[]) ∧ u' = .panicking ({ v := .iface 170 (.agg #[]), recovered := true } :: older) ∧ Caught w w' g bx (.slice A n c) (.int .i64 0) 2 := by
  have hgx : g ≠ bx := hg.ne_ hx (by decide)
  refine callsD_of_wpS Tryz.func138 rfl fun c₀ cs hu => ?_
  apply wpS_seq
  apply wpS_region
  simp [wpOpsS, go_sem, recoverD, hu, Tryz.ntmps138, Exit.thenS, rep23]
  apply wpS_seq
  apply wpS_region
  simp [wpOpsS, go_sem, Exit.thenS]
  refine wpS_cond (t := true) (by simp [Act.eval, Array.replicate]) ?_
  simp only [if_true]
  refine wpS_of_wp ?_
  obtain ⟨w1, hw1⟩ : ∃ w1, w.alloc (.cells #[] 170) = w1 := ⟨_, rfl⟩
  have hb1 : Below w.heap.size w w1 := hw1 ▸ (Below.refl _ _).alloc (Nat.le_refl _) _
  have hw' := pw_cell_below hb1 hw
  have he' := pw_cell_below hb1 he
  have hx1 := hx.below hb1 hx.lt
  have hg1 := hg.below hb1 hg.lt
  obtain ⟨w2, hw2⟩ : ∃ w2, w1.setCell ⟨bx, 0, none⟩ (.int .i64 0) = w2 := ⟨_, rfl⟩
  have hu2 : Upd w1 w2 (· = bx) := hw2 ▸ (Upd.refl w1 (· = bx)).setCell (p := ⟨bx, 0, none⟩) (.inl rfl) _
  have hx2 : Blk w2 bx 2 #[.int .i64 0] := hw2 ▸ hx1.set_ 0 (.int .i64 0)
  have hg2 := hg1.upd hu2 hgx
  obtain ⟨w3, hw3⟩ : ∃ w3, w2.setCell ⟨g, 0, none⟩ (.slice A n c) = w3 := ⟨_, rfl⟩
  have hu3 : Upd w2 w3 (· = g) := hw3 ▸ (Upd.refl w2 (· = g)).setCell (p := ⟨g, 0, none⟩) (.inl rfl) _
  have hg3 : Blk w3 g 137 #[.slice A n c, .bool false] := hw3 ▸ hg2.set_ 0 (.slice A n c)
  obtain ⟨w4, hw4⟩ : ∃ w4, w3.setCell ⟨g, 1, none⟩ (.bool true) = w4 := ⟨_, rfl⟩
  have hu4 : Upd w3 w4 (· = g) := hw4 ▸ (Upd.refl w3 (· = g)).setCell (p := ⟨g, 1, none⟩) (.inl rfl) _
  have hg4 : Blk w4 g 137 #[.slice A n c, .bool true] := hw4 ▸ hg3.set_ 1 (.bool true)
  have hx4 := (hx2.upd hu3 hgx.symm).upd hu4 hgx.symm
  have hC : Caught w w4 g bx (.slice A n c) (.int .i64 0) 2 := ⟨(((Upd.of_below hb1 _).trans (hu2.mono fun _ _ h => .inr h)).trans (hu3.mono fun _ _ h => .inl h)).trans (hu4.mono fun _ _ h => .inl h), hg4, hx4⟩
  have HC := Lib.hid hC
  have hxc : w1.cell? ⟨bx, 0, none⟩ = some (.int .i64 x) := hx1.cell 0
  have hxz := hx1.frozen 0
  have hgc : w2.cell? ⟨g, 0, none⟩ = some v0 := hg2.cell 0
  have hgz := hg2.frozen 0
  have hgc3 : w3.cell? ⟨g, 1, none⟩ = some (.bool false) := hg3.cell 1
  have hgz3 := hg3.frozen 1
  have HU := Lib.hid hu
  clear hu hx hg hb1 hw he hx1 hg1 hu2 hx2 hg2 hu3 hg3 hu4 hg4 hx4 hC hgx
  have hta := sight_assert
  go_wp2_with fail
  have hu := HU.out
  cases c₀
  simp_all [bodyPostS, results, Tryz.results138]
  exact HC.out
set_option maxRecDepth 100000 in
theorem seeI_ok (h : EyeIs w g ab xs false) (gf : Nat) (caps : Array Value) (eg : ∀ args w, (callFunc gf args).run Tryz.prog w = .ok (.enter gf args) w) (v : Int)
    (hf : ∀ W, EyeIs W g ab xs false → Below w.heap.size w W → Calls Tryz.prog gf caps W fun e w' => e = .returned (.int .i64 v) ∧ EyeIs w' g ab xs' false ∧ Upd W w' (· = g)) :
    Calls Tryz.prog 93 #[ptr g, .func (.func gf) #[] caps] w fun e w' => e = .returned (.int .i64 v) ∧ EyeIs w' g ab xs' false ∧ Upd w w' (· = g) := by
  obtain ⟨A, c, hB, hc, hF⟩ := h.ex
  obtain ⟨w1, hw1⟩ : ∃ w1, (w.alloc (.cells #[ptr g] 80)).alloc (.cells #[.int .i64 0] 2) = w1 := ⟨_, rfl⟩
  have hb1 : Below w.heap.size w w1 := hw1 ▸ ((Below.refl _ _).alloc (Nat.le_refl _) _).alloc (by simp) _
  have h0 : w1.cell? ⟨w.heap.size, 0, none⟩ = some (ptr g) := hw1 ▸ ((Blk.new w 80 #[ptr g]).alloc _).cell 0
  have hx : Blk w1 (w.heap.size + 1) 2 #[.int .i64 0] := by
    have := Blk.new (w.alloc (.cells #[ptr g] 80)) 2 #[.int .i64 0]
    rw [hw1] at this
    simpa using this
  have hB1 := hB.below hb1 hB.lt
  have hc0 : w1.cell? ⟨g, 0, none⟩ = some (.slice A xs.length c) := hB1.cell 0
  have hc1 : w1.cell? ⟨g, 1, none⟩ = some (.bool false) := hB1.cell 1
  obtain ⟨w2, hw2⟩ : ∃ w2, w1.alloc (.cells #[.slice A xs.length c] 23) = w2 := ⟨_, rfl⟩
  have hb2 : Below w.heap.size w w2 := hw2 ▸ hb1.alloc hb1.size _
  have hx2 : Blk w2 (w.heap.size + 1) 2 #[.int .i64 0] := hw2 ▸ hx.alloc _
  have hcl := hf w2 (h.below hb2) hb2
  have hlt := h.lt
  have HCL := Lib.hid hcl; have HX := Lib.hid (And.intro hx2 (And.intro hb2 (And.intro h.old hlt)))
  have hmf : ∀ (fn : Fn) (first cap : Array Value) (w : World), (Instr.makeFunc fn first cap).run Tryz.prog w = .ok (.func fn first cap) w := fun _ _ _ _ => rfl
  clear hB hF hf hx hB1 hcl hx2 hb2 hlt h
  go_enter_defers Tryz.func93, Tryz.ntmps93
  go_wp2_with fail
  refine HCL.out.mono ?_
  rintro e w3 ⟨rfl, hE3, hu3⟩
  have hX3 := HX.out.1.upd hu3 (fun e => by have := HX.out.2.2.2; omega)
  have hx3c : w3.cell? ⟨w.heap.size + 1, 0, none⟩ = some (.int .i64 0) := hX3.cell 0
  have hx3z := hX3.frozen 0
  obtain ⟨w4, hw4⟩ : ∃ w4, w3.setCell ⟨w.heap.size + 1, 0, none⟩ (.int .i64 v) = w4 := ⟨_, rfl⟩
  have hX4 : Blk w4 (w.heap.size + 1) 2 #[.int .i64 v] := hw4 ▸ hX3.set_ 0 (.int .i64 v)
  have hu4 : Upd w3 w4 (· = w.heap.size + 1) := hw4 ▸ (Upd.refl w3 (· = w.heap.size + 1)).setCell (p := ⟨w.heap.size + 1, 0, none⟩) (.inl rfl) _
  have HE := Lib.hid (And.intro hE3 (And.intro hu3 (And.intro hX4 hu4)))
  clear hE3 hu3 hX3 hX4 hu4 HCL
  go_wp2_with fail
  refine leaves_cons (f := 138) (args := #[ptr w1.heap.size, ptr (w.heap.size + 1), ptr w.heap.size]) (by simp) (by simp [go_sem]) ?_
  refine (seeI1_idle _ _ _ _).mono ?_
  rintro e u' w'' ⟨rfl, rfl, rfl⟩
  obtain ⟨hE3, hu3, hX4, hu4⟩ := HE.out
  obtain ⟨_, hb2, hold, hlt⟩ := HX.out
  have hxs := hX4.cell 0
  simp at hxs
  have hE4 := hE3.upd hu4 (fun e => by omega) (fun e => by omega)
  simp [Leaves, settle, results, Tryz.results93, go_sem, hxs]
  refine ⟨hE4, ?_⟩
  have hU : Upd w3 w'' (fun k => k = w.heap.size + 1) := hu4
  refine ⟨(hu4.os.trans hu3.os).trans hb2.os, (hu4.tape.trans hu3.tape).trans hb2.tape, (hu4.output.trans hu3.output).trans hb2.output, Nat.le_trans hb2.size (Nat.le_trans hu3.size hu4.size), fun k hk hn => ?_⟩
  have h1 := hb2.block k hk
  have h2 := hu3.block k (Nat.lt_of_lt_of_le hk hb2.size) hn
  have h3 := hu4.block k (Nat.lt_of_lt_of_le hk (Nat.le_trans hb2.size hu3.size)) (by omega)
  exact h3.trans (h2.trans h1)
set_option maxRecDepth 100000 in
theorem seeI_bad (h : EyeIs w g ab xs false) (gf : Nat) (caps : Array Value) (eg : ∀ args w, (callFunc gf args).run Tryz.prog w = .ok (.enter gf args) w)
    (hf : ∀ W, EyeIs W g ab xs false → Below w.heap.size w W → Calls Tryz.prog gf caps W fun e w' => e = .panicked sightP ∧ (∃ v0, Blk w' g 137 #[v0, .bool false]) ∧ Upd W w' (· = g)) :
    Calls Tryz.prog 93 #[ptr g, .func (.func gf) #[] caps] w fun e w' => e = .returned (.int .i64 0) ∧ EyeIs w' g ab xs true ∧ Upd w w' (· = g) := by
  obtain ⟨A, c, hB, hc, hF⟩ := h.ex
  obtain ⟨w1, hw1⟩ : ∃ w1, (w.alloc (.cells #[ptr g] 80)).alloc (.cells #[.int .i64 0] 2) = w1 := ⟨_, rfl⟩
  have hb1 : Below w.heap.size w w1 := hw1 ▸ ((Below.refl _ _).alloc (Nat.le_refl _) _).alloc (by simp) _
  have h0B : Blk w1 w.heap.size 80 #[ptr g] := hw1 ▸ ((Blk.new w 80 #[ptr g]).alloc _)
  have h0 : w1.cell? ⟨w.heap.size, 0, none⟩ = some (ptr g) := h0B.cell 0
  have hx : Blk w1 (w.heap.size + 1) 2 #[.int .i64 0] := by
    have := Blk.new (w.alloc (.cells #[ptr g] 80)) 2 #[.int .i64 0]
    rw [hw1] at this
    simpa using this
  have hs1 : w1.heap.size = w.heap.size + 2 := by rw [← hw1]; simp
  have hB1 := hB.below hb1 hB.lt
  have hc0 : w1.cell? ⟨g, 0, none⟩ = some (.slice A xs.length c) := hB1.cell 0
  have hc1 : w1.cell? ⟨g, 1, none⟩ = some (.bool false) := hB1.cell 1
  obtain ⟨w2, hw2⟩ : ∃ w2, w1.alloc (.cells #[.slice A xs.length c] 23) = w2 := ⟨_, rfl⟩
  have hb2 : Below w.heap.size w w2 := hw2 ▸ hb1.alloc hb1.size _
  have hx2 : Blk w2 (w.heap.size + 1) 2 #[.int .i64 0] := hw2 ▸ hx.alloc _
  have h02 : Blk w2 w.heap.size 80 #[ptr g] := hw2 ▸ h0B.alloc _
  have hw22 : Blk w2 w1.heap.size 23 #[.slice A xs.length c] := hw2 ▸ Blk.new w1 23 _
  have hcl := hf w2 (h.below hb2) hb2
  have hlt := h.lt
  have HCL := Lib.hid hcl; have HX := Lib.hid (And.intro hx2 (And.intro hb2 (And.intro h (And.intro hlt (And.intro h02 (And.intro hw22 hs1))))))
  have hmf : ∀ (fn : Fn) (first cap : Array Value) (w : World), (Instr.makeFunc fn first cap).run Tryz.prog w = .ok (.func fn first cap) w := fun _ _ _ _ => rfl
  have HFC := Lib.hid (And.intro hF hc)
  clear hB hF hf hx hB1 hcl hx2 hb2 hlt h h0B h02 hw22 hs1 hc
  go_enter_defers Tryz.func93, Tryz.ntmps93
  go_wp2_with fail
  refine HCL.out.mono ?_
  rintro e w3 ⟨rfl, ⟨v0, hE3⟩, hu3⟩
  have HE := Lib.hid (And.intro hE3 hu3)
  clear hE3 hu3 HCL
  go_wp2_with fail
  obtain ⟨hE3, hu3⟩ := HE.out
  obtain ⟨hx2, hb2, h, hlt, h02, hw22, hs1⟩ := HX.out
  have hx3 := hx2.upd hu3 (fun e => by omega)
  have h03 := h02.upd hu3 (fun e => by omega)
  have hw3 := hw22.upd hu3 (fun e => by omega)
  refine leaves_cons (f := 138) (args := #[ptr w1.heap.size, ptr (w.heap.size + 1), ptr w.heap.size]) (by simp) (by simp [go_sem]) ?_
  refine (seeI1_catch w1.heap.size (w.heap.size + 1) w.heap.size w3 (hw3.cell 0) hx3 (h03.cell 0) hE3).mono ?_
  rintro e u' w4 ⟨rfl, rfl, hC⟩
  have hxs := hC.res.cell 0
  simp at hxs
  simp [Leaves, settle, results, Tryz.results93, go_sem, hxs]
  have hU : Upd w w4 (· = g) := by
    have hu4 := hC.upd
    refine ⟨(hu4.os.trans hu3.os).trans hb2.os, (hu4.tape.trans hu3.tape).trans hb2.tape, (hu4.output.trans hu3.output).trans hb2.output, Nat.le_trans hb2.size (Nat.le_trans hu3.size hu4.size), fun k hk hn => ?_⟩
    have h1 := hb2.block k hk
    have h2 := hu3.block k (Nat.lt_of_lt_of_le hk hb2.size) hn
    have h3 := hu4.block k (Nat.lt_of_lt_of_le hk (Nat.le_trans hb2.size hu3.size)) (by rintro (e | e) <;> omega)
    exact h3.trans (h2.trans h1)
  refine ⟨⟨h.ne, Nat.lt_of_lt_of_le h.old hU.size, A, c, hC.eye, HFC.out.2, ?_⟩, hU⟩
  rcases h.ne with hne | hnil
  · exact Kd.F_step HFC.out.1 (fun k hk hlt => hU.block k hlt (fun e => hne (hk ▸ e)))
  · rw [hnil]; exact F_zero A
end
end Go.Proofs.YtgmlenpcchhmbaaGreat.P
end
section
set_option linter.unusedVariables false
set_option linter.unusedSimpArgs false
namespace Go.Proofs.YtgmlenpcchhmbaaGreat.P
open Go.RowKit Go.Proofs.YtgmlenpcchhmbaaGreatW.PrintWords Go.Proofs.YtgmlenpcchhmbaaGreatW.PrintLast Go.Proofs.YtgmlenpcchhmbaaGreatW.PrintMore
abbrev Sight := List Int × Bool
def sInt (s : Sight) : Int × Sight := if s.2 = true ∨ s.1.length < 8 then (0, (s.1, true)) else (i64 (numOf s.1 8), (s.1.drop 8, false))
theorem sInt_bad {s : Sight} (h : s.2 = true ∨ s.1.length < 8) : sInt s = (0, (s.1, true)) := if_pos h
theorem sInt_ok {xs : List Int} (h : 8 ≤ xs.length) : sInt (xs, false) = (i64 (numOf xs 8), (xs.drop 8, false)) := if_neg (by simp; omega)
theorem bytesOk_drop {xs : List Int} (h : bytesOk xs) (n : Nat) : bytesOk (xs.drop n) := fun x hx => h x (List.mem_of_mem_drop hx)
theorem bytesOk_take {xs : List Int} (h : bytesOk xs) (n : Nat) : bytesOk (xs.take n) := fun x hx => h x (List.mem_of_mem_take hx)
theorem numOf_lt {xs : List Int} (h : bytesOk xs) (n : Nat) : numOf xs n < 256 ^ n := by
  unfold numOf
  refine Nat.lt_of_lt_of_le (leNum_lt _ (bytesOk_take h n)) (Nat.pow_le_pow_right (by decide) ?_)
  rw [List.length_take]; omega
theorem i64_wrap {n : Nat} (h : n < 18446744073709551616) : IntKind.i64.wrap (n : Int) = i64 n := by
  rw [Go.IntWalk.i64_left]
  unfold i64 wrap64
  split <;> omega
section
variable {w : World} {g ab be : Nat} {xs : List Int}
theorem int1_bad (h : EyeIs w g ab xs false) (he : w.cell? ⟨be, 0, none⟩ = some (ptr g)) (hl : xs.length < 8) : Calls Tryz.prog 94 #[ptr be] w fun e w' => e = .panicked sightP ∧ (∃ v0, Blk w' g 137 #[v0, .bool false]) ∧ Upd w w' (· = g) := by
  have hn := number_short h 8 hl
  obtain ⟨A, c, hB, _, _⟩ := h.ex
  have HN := Lib.hid hn; have HB := Lib.hid hB
  clear h hn hB
  go_enter Tryz.func94, Tryz.ntmps94
  go_wp2_with fail
  refine HN.out.mono ?_
  rintro e w1 ⟨rfl, rfl⟩
  go_wp2_with fail
  exact ⟨rfl, rfl, ⟨_, HB.out⟩, Upd.refl _ _⟩
theorem int1_ok (h : EyeIs w g ab xs false) (hx : bytesOk xs) (he : w.cell? ⟨be, 0, none⟩ = some (ptr g)) (hl : 8 ≤ xs.length) : Calls Tryz.prog 94 #[ptr be] w fun e w' => e = .returned (.int .i64 (i64 (numOf xs 8))) ∧ EyeIs w' g ab (xs.drop 8) false ∧ Upd w w' (· = g) := by
  have hn := number_ok h hx 8 hl (by omega)
  have hi := i64_wrap (n := numOf xs 8) (numOf_lt hx 8)
  generalize numOf xs 8 = m at *
  have HN := Lib.hid hn
  clear h hn hx
  go_enter Tryz.func94, Tryz.ntmps94
  go_wp2_with fail
  refine HN.out.mono ?_
  rintro e w1 ⟨rfl, hE, hu⟩
  go_wp2_with fail
  go_ret
  exact ⟨rfl, hE, hu⟩
theorem entersI : ∀ args w, (callFunc 94 args).run Tryz.prog w = .ok (.enter 94 args) w := enters_of Tryz.func94 (by kernel_rfl) rfl
theorem flInt_any (s : Sight) (h : EyeIs w g ab s.1 s.2) (hx : bytesOk s.1) : Calls Tryz.prog 49 #[ptr g] w fun e w' => e = .returned (.int .i64 (sInt s).1) ∧ EyeIs w' g ab (sInt s).2.1 (sInt s).2.2 ∧ Upd w w' (· = g) := by
  obtain ⟨xs, bl⟩ := s
  obtain ⟨w1, hw1⟩ : ∃ w1, w.alloc (.cells #[ptr g] 80) = w1 := ⟨_, rfl⟩
  have hb1 : Below w.heap.size w w1 := hw1 ▸ (Below.refl _ _).alloc (Nat.le_refl _) _
  have h0B : Blk w1 w.heap.size 80 #[ptr g] := hw1 ▸ Blk.new w 80 #[ptr g]
  have h0 : w1.cell? ⟨w.heap.size, 0, none⟩ = some (ptr g) := h0B.cell 0
  have h1 := h.below hb1
  have hlt := h.lt
  have hmf : ∀ (fn : Fn) (first cap : Array Value) (w : World), (Instr.makeFunc fn first cap).run Tryz.prog w = .ok (.func fn first cap) w := fun _ _ _ _ => rfl
  have hs : Calls Tryz.prog 93 #[ptr g, .func (.func 94) #[] #[ptr w.heap.size]] w1 fun e w' => e = .returned (.int .i64 (sInt (xs, bl)).1) ∧ EyeIs w' g ab (sInt (xs, bl)).2.1 (sInt (xs, bl)).2.2 ∧ Upd w1 w' (· = g) := by
    cases bl with
    | true =>
      rw [sInt_bad (.inl rfl)]
      exact (seeI_blind h1 _ _ _).mono fun e w' ⟨he, hb⟩ => ⟨he, h1.below hb, Upd.of_below hb _⟩
    | false =>
      by_cases hl : xs.length < 8
      · rw [sInt_bad (.inr hl)]
        exact seeI_bad h1 94 _ entersI fun W hE hb => int1_bad hE (pw_cell_below (hb) h0) hl
      · rw [sInt_ok (by omega)]
        exact seeI_ok h1 94 _ entersI _ fun W hE hb => int1_ok hE hx (pw_cell_below hb h0) (by omega)
  have HS := Lib.hid hs; have HB := Lib.hid hb1
  clear h h0B h1 hs hb1
  generalize sInt (xs, bl) = r at *
  go_enter Tryz.func49, Tryz.ntmps49
  go_wp2_with fail
  refine HS.out.mono ?_
  rintro e w2 ⟨rfl, hE, hu⟩
  go_wp2_with fail
  go_ret
  exact ⟨rfl, hE, (Upd.of_below HB.out _).trans hu⟩
theorem flDone_any (s : Sight) (h : EyeIs w g ab s.1 s.2) : Calls Tryz.prog 51 #[ptr g] w fun e w' => e = .returned (.int .i64 (if s.2 = true ∨ s.1.length ≠ 0 then 20 else 0)) ∧ w' = w := by
  obtain ⟨xs, bl⟩ := s
  obtain ⟨A, c, hB, _, _⟩ := h.ex
  have hc0 : w.cell? ⟨g, 0, none⟩ = some (.slice A xs.length c) := hB.cell 0
  have hc1 : w.cell? ⟨g, 1, none⟩ = some (.bool bl) := hB.cell 1
  clear h hB
  go_enter Tryz.func51, Tryz.ntmps51
  cases bl with
  | true =>
    rw [if_pos (.inl rfl)]
    go_wp2
    go_ret
    exact ⟨rfl, rfl⟩
  | false =>
    by_cases hl : xs.length = 0
    · rw [if_neg (by simp [hl])]
      have d1 : decide ((0 : Int) < (xs.length : Int)) = false := decide_eq_false (by omega)
      go_wp2
      go_ret
      exact ⟨rfl, rfl⟩
    · rw [if_pos (.inr hl)]
      have d1 : decide ((0 : Int) < (xs.length : Int)) = true := decide_eq_true (by omega)
      go_wp2
      go_ret
      exact ⟨rfl, rfl⟩
theorem flOpen_any (A : Option Addr) (c : Nat) (xs : List Int) (w : World) (hr : ReadsInt w .u8 A xs.length xs) (hb : xs.length * 1 ≤ 140737488355328) :
    Calls Tryz.prog 48 #[.slice A xs.length c] w fun e w' => ∃ g ab, e = .returned (ptr g) ∧ w.heap.size ≤ g ∧ w.heap.size ≤ ab ∧ EyeIs w' g ab xs false ∧ Below w.heap.size w w' := by
  have hcl := bclone_any A c xs w hr hb
  have HCL := Lib.hid hcl
  clear hr hb hcl
  go_enter Tryz.func48, Tryz.ntmps48
  go_wp2_with fail
  refine HCL.out.mono ?_
  rintro e w1 ⟨v, rfl, ho, hb1⟩
  have HO := Lib.hid (And.intro ho hb1)
  obtain ⟨A1, c1, rfl, _⟩ := own_reads ho
  clear ho hb1 HCL
  go_wp2_with fail
  go_ret
  obtain ⟨ho, hb1⟩ := HO.out
  obtain ⟨w2, hw2⟩ : ∃ w2, w1.alloc (.cells #[.slice A1 xs.length c1, .bool false] 137) = w2 := ⟨_, rfl⟩
  rw [hw2]
  have hb2 : Below w1.heap.size w1 w2 := hw2 ▸ (Below.refl _ _).alloc (Nat.le_refl _) _
  have hB2 : Blk w2 w1.heap.size 137 #[.slice A1 xs.length c1, .bool false] := hw2 ▸ Blk.new w1 137 _
  have hE : ∃ ab, w.heap.size ≤ ab ∧ EyeIs w2 w1.heap.size ab xs false := by
    obtain ⟨A0, c0, e0, hrd⟩ := own_reads ho
    injection e0 with e1 e2 e3
    subst e1 e3
    by_cases hx : xs = []
    · subst hx
      refine ⟨w1.heap.size, hb1.size, .inr rfl, hB2.lt, A1, c1, hB2, by simp, F_zero _⟩
    · have hcc : xs.length ≤ c1 := by
        obtain ⟨_, h⟩ := ho
        rcases h with ⟨e, hn⟩ | ⟨g', cap, cur, e, h1, h2, h3, _⟩
        · exact absurd (List.eq_nil_of_length_eq_zero hn) hx
        · injection e with _ _ e; omega
      obtain ⟨ad, hA, hcell⟩ := hrd.2.2 (by have := List.length_pos_iff.2 hx; omega)
      subst hA
      have hlt : ad.block < w1.heap.size := by
        have := hcell 0 (List.length_pos_iff.2 hx)
        exact World.block_lt_of_cell? w1 _ this
      refine ⟨ad.block, (ho.ge ad.block rfl).1, .inl (by omega), Nat.lt_of_lt_of_le hlt hb2.size, some ad, c1, hB2, hcc, ?_⟩
      intro W hW
      refine C_of_int ⟨hrd.1, hrd.2.1, fun hn => ⟨ad, rfl, fun j hj => ?_⟩⟩
      have hj' := (hrd.below hb2).2.2 hn
      obtain ⟨ad', e, h⟩ := hj'
      injection e with e
      subst e
      have hc := h j hj
      have hbl : (ad.add j).block = ad.block := by unfold Addr.add; split <;> rfl
      exact (World.cell?_of_block (w := w2) (hW _ hbl (World.block_lt_of_cell? w2 _ hc))).trans hc
  obtain ⟨ab, hab, hE⟩ := hE
  exact ⟨w1.heap.size, ab, rfl, hb1.size, hab, hE, hb1.trans (hb2.mono hb1.size)⟩
end
end Go.Proofs.YtgmlenpcchhmbaaGreat.P
end
