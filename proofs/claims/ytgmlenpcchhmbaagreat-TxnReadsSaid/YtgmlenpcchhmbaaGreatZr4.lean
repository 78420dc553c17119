/- what the claim's row stands on, part 4. -/
import Derived.Test.YtgmlenpcchhmbaaGreatZr2
import Derived.Test.YtgmlenpcchhmbaaGreatZr3
import Derived.Defers
import Derived.Recover
section
set_option linter.unusedVariables false
set_option linter.unusedSimpArgs false
namespace Go.Proofs.YtgmlenpcchhmbaaGreat.P
open Go.RowKit Go.Proofs.YtgmlenpcchhmbaaGreatW.PrintWords Go.Proofs.YtgmlenpcchhmbaaGreatW.PrintLast Go.Proofs.YtgmlenpcchhmbaaGreatW.PrintMore
attribute [local go_sem] max2_int min2_int max_two min_two max_three min_three max_four min_four   -- for this text's walks alone
attribute [local go_sem high] eqA61
def folkmootref08_Pairs.l0 : Nat → List (S61) → List (S61) → Int → Option (Bool)
 | 0, _, _, _ => none
 | k + 1, x0, x1, x5 => if x5 < (x0.length : Int) then (if 0 ≤ x5 then (if x5 < (x1.length : Int) then (if (!((((rd_T61 x0 x5).f0).toList) == (((rd_T61 x1 x5).f0).toList)) || (!(((rd_T61 x0 x5).f1) == ((rd_T61 x1 x5).f1)))) = true then (some false) else (folkmootref08_Pairs.l0 k x0 x1 (wrap64 (x5 + 1)))) else (none)) else (none)) else (some true)
def folkmootref08_Pairs.f (k : Nat) (l0 : List (S61)) (l1 : List (S61)) : Option (Bool) := if (l0.length : Int) = (l1.length : Int) then (folkmootref08_Pairs.l0 k l0 l1 0) else (some false)
set_option maxHeartbeats 8000000 in
set_option maxRecDepth 100000 in
theorem folkmootref08_Pairs.calls (k : Nat) (A0 : Option Addr) (c0 : Nat) (l0 : List (S61)) (A1 : Option Addr) (c1 : Nat) (l1 : List (S61)) (r : Bool) (w : World) (hr0 : Kd.C k61 w A0 l0.length l0) (hc0 : l0.length ≤ c0) (hr1 : Kd.C k61 w A1 l1.length l1) (hc1 : l1.length ≤ c1) (h : folkmootref08_Pairs.f k l0 l1 = some r) :
  Calls Tryz.prog 31 #[.slice A0 l0.length c0, .slice A1 l1.length c1] w fun e w' => e = .returned (.bool r) ∧ Drawn0 w w' := by
 have hu61 := Tryz.underlying61
 have HR0 := Aside0.mk hr0
 have HC0 := Aside0.mk hc0
 clear hr0 hc0
 have HR1 := Aside0.mk hr1
 have HC1 := Aside0.mk hc1
 clear hr1 hc1
 have H : (if (l0.length : Int) = (l1.length : Int) then (folkmootref08_Pairs.l0 k l0 l1 0) else (some false)) = some r := h
 clear h
 by_cases c3 : (l0.length : Int) = (l1.length : Int)
 ·rw [if_pos c3] at H
  have c3b0 : ((l0.length : Int) == (l1.length : Int)) = true := beq_iff_eq.mpr c3
  have c3b1 : ((l0.length : Int) != (l1.length : Int)) = false := bne_eq_false_iff_eq.mpr c3
  have c3b2 : (l0.length == l1.length) = true := by first | simpa using c3 | (simp at c3 ⊢; omega)
  clear c3
  have H' := Aside0.mk H
  clear H
  go_enter Tryz.func31, Tryz.ntmps31
  go_wp2
  repeat (go_quiet (fail); try go_wp2)
  go_loopg [5] k (fun kq v5 w' => ∃ (x5_1 : Int), v5 = .int .i64 x5_1 ∧ Aside0 (folkmootref08_Pairs.l0 kq l0 l1 x5_1 = some r) ∧ Aside0 (kq ≤ k) ∧ Drawn0 w w')
  case atStart => exact ⟨(0), (by first | rfl | (rw [bl_gt] <;> rfl) | (simp; done) | (simp [*]; done)), H', ⟨Nat.le_refl _⟩, by repeat (first | exact Drawn0.refl _ | apply Drawn0.step)⟩
  case round =>
   clear H'
   try clear c1
   try clear p2
   try clear c3
   try clear c3b0
   try clear c3b1
   try clear c3b2
   obtain ⟨x5_1, rfl, HA, HK1, ⟨m1, rfl⟩⟩ := hrel
   cases gk with
   | zero => exact absurd HA.out (by simp [folkmootref08_Pairs.l0])
   | succ k1 =>
    have H := HA.out
    clear HA
    simp only [folkmootref08_Pairs.l0] at H
    by_cases c4 : x5_1 < (l0.length : Int)
    ·rw [if_pos c4] at H
     have c4b0 : decide (x5_1 < (l0.length : Int)) = true := decide_eq_true c4
     clear c4
     by_cases c5 : 0 ≤ x5_1
     ·rw [if_pos c5] at H
      have c5b0 : decide (0 ≤ x5_1) = true := decide_eq_true c5
      clear c5
      by_cases c6 : x5_1 < (l1.length : Int)
      ·rw [if_pos c6] at H
       have c6b0 : decide (x5_1 < (l1.length : Int)) = true := decide_eq_true c6
       clear c6
       by_cases c7 : (!((((rd_T61 l0 x5_1).f0).toList) == (((rd_T61 l1 x5_1).f0).toList)) || (!(((rd_T61 l0 x5_1).f1) == ((rd_T61 l1 x5_1).f1)))) = true
       ·rw [if_pos c7] at H
        have c7b0 : (!((((rd_T61 l0 x5_1).f0).toList) == (((rd_T61 l1 x5_1).f0).toList)) || (!(((rd_T61 l0 x5_1).f1) == ((rd_T61 l1 x5_1).f1)))) = true := c7
        clear c7
        obtain rfl := Option.some.inj H
        have p122 : 0 ≤ (x5_1 : Int) := of_decide_eq_true (by first | (with_reducible assumption) | assumption)
        have q122 : x5_1 < (l0.length : Int) := of_decide_eq_true (by first | (with_reducible assumption) | assumption)
        obtain ⟨ad122, e122, hx122_0, hx122_1⟩ := at_T61 HR0.out x5_1 p122 q122
        cases e122
        replace p122 := eq_true p122
        replace q122 := eq_true q122
        have p123 : 0 ≤ (x5_1 : Int) := of_decide_eq_true (by first | (with_reducible assumption) | assumption)
        have q123 : x5_1 < (l1.length : Int) := of_decide_eq_true (by first | (with_reducible assumption) | assumption)
        obtain ⟨ad123, e123, hx123_0, hx123_1⟩ := at_T61 HR1.out x5_1 p123 q123
        cases e123
        replace p123 := eq_true p123
        replace q123 := eq_true q123
        go_wp2
        repeat (go_quiet (fail); try go_wp2)
        go_ret
        exact ⟨by first | rfl | (simp; done) | (simp [*]; done), by repeat (first | exact Drawn0.refl _ | apply Drawn0.step)⟩
       ·rw [if_neg c7] at H
        have c7b0 : (!((((rd_T61 l0 x5_1).f0).toList) == (((rd_T61 l1 x5_1).f0).toList)) || (!(((rd_T61 l0 x5_1).f1) == ((rd_T61 l1 x5_1).f1)))) = false := by simpa using c7
        clear c7
        have H' := Aside0.mk H
        clear H
        have p122 : 0 ≤ (x5_1 : Int) := of_decide_eq_true (by first | (with_reducible assumption) | assumption)
        have q122 : x5_1 < (l0.length : Int) := of_decide_eq_true (by first | (with_reducible assumption) | assumption)
        obtain ⟨ad122, e122, hx122_0, hx122_1⟩ := at_T61 HR0.out x5_1 p122 q122
        cases e122
        replace p122 := eq_true p122
        replace q122 := eq_true q122
        have p123 : 0 ≤ (x5_1 : Int) := of_decide_eq_true (by first | (with_reducible assumption) | assumption)
        have q123 : x5_1 < (l1.length : Int) := of_decide_eq_true (by first | (with_reducible assumption) | assumption)
        obtain ⟨ad123, e123, hx123_0, hx123_1⟩ := at_T61 HR1.out x5_1 p123 q123
        cases e123
        replace p123 := eq_true p123
        replace q123 := eq_true q123
        go_wp2
        repeat (go_quiet (fail); try go_wp2)
        go_roundg k1
        case measure => have := HK1.out; omega
        case rel => exact ⟨(wrap64 (x5_1 + 1)), (by first | rfl | (rw [bl_gt] <;> rfl) | (simp; done) | (simp [*]; done)), H', ⟨by have := HK1.out; omega⟩, by repeat (first | exact Drawn0.refl _ | apply Drawn0.step)⟩
      ·rw [if_neg c6] at H
       exact absurd H (by simp)
     ·rw [if_neg c5] at H
      exact absurd H (by simp)
    ·rw [if_neg c4] at H
     have c4b0 : decide (x5_1 < (l0.length : Int)) = false := decide_eq_false c4
     clear c4
     obtain rfl := Option.some.inj H
     go_wp2
     repeat (go_quiet (fail); try go_wp2)
     go_ret
     exact ⟨by first | rfl | (simp; done) | (simp [*]; done), by repeat (first | exact Drawn0.refl _ | apply Drawn0.step)⟩
 ·rw [if_neg c3] at H
  have c3b0 : ((l0.length : Int) == (l1.length : Int)) = false := beq_eq_false_iff_ne.mpr c3
  have c3b1 : ((l0.length : Int) != (l1.length : Int)) = true := bne_iff_ne.mpr c3
  have c3b2 : (l0.length == l1.length) = false := by first | simpa using c3 | (simp at c3 ⊢; omega)
  obtain rfl := Option.some.inj H
  go_enter Tryz.func31, Tryz.ntmps31
  go_wp2
  repeat (go_quiet (fail); try go_wp2)
  go_ret
  exact ⟨by first | rfl | (simp; done) | (simp [*]; done), by repeat (first | exact Drawn0.refl _ | apply Drawn0.step)⟩
end Go.Proofs.YtgmlenpcchhmbaaGreat.P
end
section
set_option linter.unusedVariables false
set_option linter.unusedSimpArgs false
namespace Go.Proofs.YtgmlenpcchhmbaaGreat.P
open Go.RowKit Go.Proofs.YtgmlenpcchhmbaaGreatW.PrintWords Go.Proofs.YtgmlenpcchhmbaaGreatW.PrintLast Go.Proofs.YtgmlenpcchhmbaaGreatW.PrintMore
attribute [local go_sem] max2_int min2_int max_two min_two max_three min_three max_four min_four   -- for this text's walks alone
mutual
def folkmootlaw08_small.j1 : Nat → List (S63) → List (S61) → Int → Option (Bool)
 | 0, _, _, _ => none
 | k + 1, x0, x1, x5 => folkmootlaw08_small.l1 k x0 x1 x5 0
def folkmootlaw08_small.l1 : Nat → List (S63) → List (S61) → Int → Int → Option (Bool)
 | 0, _, _, _, _ => none
 | k + 1, x0, x1, x5, x7 => if x7 < (x1.length : Int) then (if x7 ≤ 60 then (if 0 ≤ x7 then (folkmootlaw08_small.l1 k x0 x1 (wrap64 (x5 + (((rd_T61 x1 x7).f0).size : Int))) (wrap64 (x7 + 1))) else (none)) else (if (x0.length : Int) ≤ 60 then (if (x1.length : Int) ≤ 60 then (some (decide (x5 ≤ 6000))) else (some false)) else (some false))) else (if (x0.length : Int) ≤ 60 then (if (x1.length : Int) ≤ 60 then (some (decide (x5 ≤ 6000))) else (some false)) else (some false))
def folkmootlaw08_small.l0 : Nat → List (S63) → List (S61) → Int → Int → Option (Bool)
 | 0, _, _, _, _ => none
 | k + 1, x0, x1, x5, x6 => if x6 < (x0.length : Int) then (if x6 ≤ 60 then (if 0 ≤ x6 then (folkmootlaw08_small.l0 k x0 x1 (wrap64 ((wrap64 (x5 + (((rd_T63 x0 x6).f1).size : Int))) + (((rd_T63 x0 x6).f2).size : Int))) (wrap64 (x6 + 1))) else (none)) else (folkmootlaw08_small.j1 k x0 x1 x5)) else (folkmootlaw08_small.j1 k x0 x1 x5)
end
def folkmootlaw08_small.f (k : Nat) (l0 : List (S63)) (l1 : List (S61)) : Option (Bool) := folkmootlaw08_small.l0 k l0 l1 0 0
set_option maxHeartbeats 8000000 in
set_option maxRecDepth 100000 in
theorem folkmootlaw08_small.calls (k : Nat) (A0 : Option Addr) (c0 : Nat) (l0 : List (S63)) (A1 : Option Addr) (c1 : Nat) (l1 : List (S61)) (r : Bool) (w : World) (hr0 : Kd.C k63 w A0 l0.length l0) (hc0 : l0.length ≤ c0) (hr1 : Kd.C k61 w A1 l1.length l1) (hc1 : l1.length ≤ c1) (h : folkmootlaw08_small.f k l0 l1 = some r) :
  Calls Tryz.prog 13 #[.slice A0 l0.length c0, .slice A1 l1.length c1] w fun e w' => e = .returned (.bool r) ∧ Drawn0 w w' := by
 have HR0 := Aside0.mk hr0
 have HC0 := Aside0.mk hc0
 clear hr0 hc0
 have HR1 := Aside0.mk hr1
 have HC1 := Aside0.mk hc1
 clear hr1 hc1
 have H : (folkmootlaw08_small.l0 k l0 l1 0 0) = some r := h
 clear h
 have HC3 := Aside0.mk H
 clear H
 go_enter Tryz.func13, Tryz.ntmps13
 go_upto_block 0 with (fail)
 repeat (go_quiet (fail); go_upto_block 0 with (fail))
 go_cut [5] (fun v5 wc => ∃ (kq : Nat) (x5_2 : Int), v5 = .int .i64 x5_2 ∧ Aside0 (folkmootlaw08_small.j1 kq l0 l1 x5_2 = some r) ∧ Aside0 (kq ≤ k) ∧ Drawn0 w wc)
 case first =>
  have H := HC3.out
  clear HC3
  have H' := Aside0.mk H
  clear H
  go_wp2
  repeat (go_quiet (fail); try go_wp2)
  go_loopg [5, 6] k (fun kq v5 v6 w' => ∃ (x5_1 : Int) (x6_1 : Int), v5 = .int .i64 x5_1 ∧ v6 = .int .i64 x6_1 ∧ Aside0 (folkmootlaw08_small.l0 kq l0 l1 x5_1 x6_1 = some r) ∧ Aside0 (kq ≤ k) ∧ Drawn0 w w')
  case atStart => exact ⟨(0), (0), (by first | rfl | (rw [bl_gt] <;> rfl) | (simp; done) | (simp [*]; done)), (by first | rfl | (rw [bl_gt] <;> rfl) | (simp; done) | (simp [*]; done)), H', ⟨Nat.le_refl _⟩, by repeat (first | exact Drawn0.refl _ | apply Drawn0.step)⟩
  case round =>
   clear H'
   try clear c1
   try clear p2
   obtain ⟨x5_1, x6_1, rfl, rfl, HA, HK1, ⟨m1, rfl⟩⟩ := hrel
   cases gk with
   | zero => exact absurd HA.out (by simp [folkmootlaw08_small.l0])
   | succ k1 =>
    have H := HA.out
    clear HA
    simp only [folkmootlaw08_small.l0] at H
    by_cases c4 : x6_1 < (l0.length : Int)
    ·rw [if_pos c4] at H
     have c4b0 : decide (x6_1 < (l0.length : Int)) = true := decide_eq_true c4
     clear c4
     (first | rw [c4b0] | (simp only [i64_w, i32_w]; rw [c4b0]) | skip)
     by_cases c5 : x6_1 ≤ 60
     ·rw [if_pos c5] at H
      have c5b0 : decide (x6_1 ≤ 60) = true := decide_eq_true c5
      clear c5
      by_cases c6 : 0 ≤ x6_1
      ·rw [if_pos c6] at H
       have c6b0 : decide (0 ≤ x6_1) = true := decide_eq_true c6
       clear c6
       have H' := Aside0.mk H
       clear H
       have p111 : 0 ≤ (x6_1 : Int) := of_decide_eq_true (by first | (with_reducible assumption) | assumption)
       have q111 : x6_1 < (l0.length : Int) := of_decide_eq_true (by first | (with_reducible assumption) | assumption)
       obtain ⟨ad111, e111, hx111_0, hx111_1, hx111_2, hx111_3⟩ := at_T63 HR0.out x6_1 p111 q111
       cases e111
       replace p111 := eq_true p111
       replace q111 := eq_true q111
       have p112 : 0 ≤ (x6_1 : Int) := of_decide_eq_true (by first | (with_reducible assumption) | assumption)
       have q112 : x6_1 < (l0.length : Int) := of_decide_eq_true (by first | (with_reducible assumption) | assumption)
       obtain ⟨ad112, e112, hx112_0, hx112_1, hx112_2, hx112_3⟩ := at_T63 HR0.out x6_1 p112 q112
       obtain rfl : ad111 = ad112 := (by injection e112)
       replace p112 := eq_true p112
       replace q112 := eq_true q112
       go_wp2
       repeat (go_quiet (fail); try go_wp2)
       go_roundg k1
       case measure => have := HK1.out; omega
       case rel => exact ⟨(wrap64 ((wrap64 (x5_1 + (((rd_T63 l0 x6_1).f1).size : Int))) + (((rd_T63 l0 x6_1).f2).size : Int))), (wrap64 (x6_1 + 1)), (by first | rfl | (rw [bl_gt] <;> rfl) | (simp; done) | (simp [*]; done)), (by first | rfl | (rw [bl_gt] <;> rfl) | (simp; done) | (simp [*]; done)), H', ⟨by have := HK1.out; omega⟩, by repeat (first | exact Drawn0.refl _ | apply Drawn0.step)⟩
      ·rw [if_neg c6] at H
       exact absurd H (by simp)
     ·rw [if_neg c5] at H
      have c5b0 : decide (x6_1 ≤ 60) = false := decide_eq_false c5
      clear c5
      have H' := Aside0.mk H
      clear H
      go_wp2
      repeat (go_quiet (fail); try go_wp2)
      go_meet
      case rel => exact ⟨_, (x5_1), (by first | rfl | (rw [bl_gt] <;> rfl) | (simp; done) | (simp [*]; done)), H', ⟨by have := HK1.out; first | omega | exact Nat.le_refl _⟩, by repeat (first | exact Drawn0.refl _ | apply Drawn0.step)⟩
    ·rw [if_neg c4] at H
     have c4b0 : decide (x6_1 < (l0.length : Int)) = false := decide_eq_false c4
     clear c4
     (first | rw [c4b0] | (simp only [i64_w, i32_w]; rw [c4b0]) | skip)
     have H' := Aside0.mk H
     clear H
     go_wp2
     repeat (go_quiet (fail); try go_wp2)
     go_meet
     case rel => exact ⟨_, (x5_1), (by first | rfl | (rw [bl_gt] <;> rfl) | (simp; done) | (simp [*]; done)), H', ⟨by have := HK1.out; first | omega | exact Nat.le_refl _⟩, by repeat (first | exact Drawn0.refl _ | apply Drawn0.step)⟩
 case rest =>
  clear HC3
  try clear c1
  try clear p1
  try clear q1
  try clear hx1
  try clear p2
  try clear c4
  try clear c4b0
  try clear c5
  try clear c5b0
  try clear c6
  try clear c6b0
  try clear p6
  try clear hx111_0
  try clear hx111_1
  try clear hx111_2
  try clear hx111_3
  try clear hx112_0
  try clear hx112_1
  try clear hx112_2
  try clear hx112_3
  try clear p111
  try clear p112
  try clear p2
  try clear q111
  try clear q112
  obtain ⟨kq, x5_2, rfl, HA, HJ2, ⟨mc2, rfl⟩⟩ := hcut
  cases kq with
  | zero => exact absurd HA.out (by simp [folkmootlaw08_small.j1])
  | succ kj2 =>
   have H := HA.out
   clear HA
   simp only [folkmootlaw08_small.j1] at H
   have H' := Aside0.mk H
   clear H
   go_wp2
   repeat (go_quiet (fail); try go_wp2)
   go_loopg [5, 7] kj2 (fun kq v5 v7 w' => ∃ (x5_2 : Int) (x7_2 : Int), v5 = .int .i64 x5_2 ∧ v7 = .int .i64 x7_2 ∧ Aside0 (folkmootlaw08_small.l1 kq l0 l1 x5_2 x7_2 = some r) ∧ Aside0 (kq ≤ kj2) ∧ Drawn0 w w')
   case atStart => exact ⟨(x5_2), (0), (by first | rfl | (rw [bl_gt] <;> rfl) | (simp; done) | (simp [*]; done)), (by first | rfl | (rw [bl_gt] <;> rfl) | (simp; done) | (simp [*]; done)), H', ⟨Nat.le_refl _⟩, by repeat (first | exact Drawn0.refl _ | apply Drawn0.step)⟩
   case round =>
    clear H'
    try clear c1
    try clear p1
    try clear q1
    try clear hx1
    try clear c2
    try clear p2
    try clear c4
    try clear c4b0
    try clear c5
    try clear c5b0
    try clear c6
    try clear c6b0
    try clear p6
    try clear hx111_0
    try clear hx111_1
    try clear hx111_2
    try clear hx111_3
    try clear hx112_0
    try clear hx112_1
    try clear hx112_2
    try clear hx112_3
    try clear p1
    try clear p111
    try clear p112
    try clear p2
    try clear p6
    try clear q1
    try clear q111
    try clear q112
    obtain ⟨x5_2, x7_2, rfl, rfl, HA, HK2, ⟨m2, rfl⟩⟩ := hrel
    cases gk with
    | zero => exact absurd HA.out (by simp [folkmootlaw08_small.l1])
    | succ k2 =>
     have H := HA.out
     clear HA
     simp only [folkmootlaw08_small.l1] at H
     by_cases c7 : x7_2 < (l1.length : Int)
     ·rw [if_pos c7] at H
      have c7b0 : decide (x7_2 < (l1.length : Int)) = true := decide_eq_true c7
      clear c7
      by_cases c8 : x7_2 ≤ 60
      ·rw [if_pos c8] at H
       have c8b0 : decide (x7_2 ≤ 60) = true := decide_eq_true c8
       clear c8
       by_cases c9 : 0 ≤ x7_2
       ·rw [if_pos c9] at H
        have c9b0 : decide (0 ≤ x7_2) = true := decide_eq_true c9
        clear c9
        have H' := Aside0.mk H
        clear H
        have p113 : 0 ≤ (x7_2 : Int) := of_decide_eq_true (by first | (with_reducible assumption) | assumption)
        have q113 : x7_2 < (l1.length : Int) := of_decide_eq_true (by first | (with_reducible assumption) | assumption)
        obtain ⟨ad113, e113, hx113_0, hx113_1⟩ := at_T61 HR1.out x7_2 p113 q113
        cases e113
        replace p113 := eq_true p113
        replace q113 := eq_true q113
        go_wp2
        repeat (go_quiet (fail); try go_wp2)
        go_roundg k2
        case measure => have := HJ2.out; have := HK2.out; omega
        case rel => exact ⟨(wrap64 (x5_2 + (((rd_T61 l1 x7_2).f0).size : Int))), (wrap64 (x7_2 + 1)), (by first | rfl | (rw [bl_gt] <;> rfl) | (simp; done) | (simp [*]; done)), (by first | rfl | (rw [bl_gt] <;> rfl) | (simp; done) | (simp [*]; done)), H', ⟨by have := HJ2.out; have := HK2.out; omega⟩, by repeat (first | exact Drawn0.refl _ | apply Drawn0.step)⟩
       ·rw [if_neg c9] at H
        exact absurd H (by simp)
      ·rw [if_neg c8] at H
       have c8b0 : decide (x7_2 ≤ 60) = false := decide_eq_false c8
       clear c8
       by_cases c10 : (l0.length : Int) ≤ 60
       ·rw [if_pos c10] at H
        have c10b0 : decide ((l0.length : Int) ≤ 60) = true := decide_eq_true c10
        have c10b1 : decide (l0.length ≤ 60) = true := decide_eq_true (by omega)
        clear c10
        by_cases c11 : (l1.length : Int) ≤ 60
        ·rw [if_pos c11] at H
         have c11b0 : decide ((l1.length : Int) ≤ 60) = true := decide_eq_true c11
         have c11b1 : decide (l1.length ≤ 60) = true := decide_eq_true (by omega)
         clear c11
         obtain rfl := Option.some.inj H
         go_wp2
         repeat (go_quiet (fail); try go_wp2)
         go_ret
         exact ⟨by first | rfl | (simp; done) | (simp [*]; done), by repeat (first | exact Drawn0.refl _ | apply Drawn0.step)⟩
        ·rw [if_neg c11] at H
         have c11b0 : decide ((l1.length : Int) ≤ 60) = false := decide_eq_false c11
         have c11b1 : decide (l1.length ≤ 60) = false := decide_eq_false (by omega)
         clear c11
         obtain rfl := Option.some.inj H
         go_wp2
         repeat (go_quiet (fail); try go_wp2)
         go_ret
         exact ⟨by first | rfl | (simp; done) | (simp [*]; done), by repeat (first | exact Drawn0.refl _ | apply Drawn0.step)⟩
       ·rw [if_neg c10] at H
        have c10b0 : decide ((l0.length : Int) ≤ 60) = false := decide_eq_false c10
        have c10b1 : decide (l0.length ≤ 60) = false := decide_eq_false (by omega)
        clear c10
        obtain rfl := Option.some.inj H
        go_wp2
        repeat (go_quiet (fail); try go_wp2)
        go_ret
        exact ⟨by first | rfl | (simp; done) | (simp [*]; done), by repeat (first | exact Drawn0.refl _ | apply Drawn0.step)⟩
     ·rw [if_neg c7] at H
      have c7b0 : decide (x7_2 < (l1.length : Int)) = false := decide_eq_false c7
      clear c7
      by_cases c12 : (l0.length : Int) ≤ 60
      ·rw [if_pos c12] at H
       have c12b0 : decide ((l0.length : Int) ≤ 60) = true := decide_eq_true c12
       have c12b1 : decide (l0.length ≤ 60) = true := decide_eq_true (by omega)
       clear c12
       by_cases c13 : (l1.length : Int) ≤ 60
       ·rw [if_pos c13] at H
        have c13b0 : decide ((l1.length : Int) ≤ 60) = true := decide_eq_true c13
        have c13b1 : decide (l1.length ≤ 60) = true := decide_eq_true (by omega)
        clear c13
        obtain rfl := Option.some.inj H
        go_wp2
        repeat (go_quiet (fail); try go_wp2)
        go_ret
        exact ⟨by first | rfl | (simp; done) | (simp [*]; done), by repeat (first | exact Drawn0.refl _ | apply Drawn0.step)⟩
       ·rw [if_neg c13] at H
        have c13b0 : decide ((l1.length : Int) ≤ 60) = false := decide_eq_false c13
        have c13b1 : decide (l1.length ≤ 60) = false := decide_eq_false (by omega)
        clear c13
        obtain rfl := Option.some.inj H
        go_wp2
        repeat (go_quiet (fail); try go_wp2)
        go_ret
        exact ⟨by first | rfl | (simp; done) | (simp [*]; done), by repeat (first | exact Drawn0.refl _ | apply Drawn0.step)⟩
      ·rw [if_neg c12] at H
       have c12b0 : decide ((l0.length : Int) ≤ 60) = false := decide_eq_false c12
       have c12b1 : decide (l0.length ≤ 60) = false := decide_eq_false (by omega)
       clear c12
       obtain rfl := Option.some.inj H
       go_wp2
       repeat (go_quiet (fail); try go_wp2)
       go_ret
       exact ⟨by first | rfl | (simp; done) | (simp [*]; done), by repeat (first | exact Drawn0.refl _ | apply Drawn0.step)⟩
end Go.Proofs.YtgmlenpcchhmbaaGreat.P
end
section
set_option linter.unusedVariables false
set_option linter.unusedSimpArgs false
namespace Go.Proofs.YtgmlenpcchhmbaaGreat.P
open Go.RowKit Go.Proofs.YtgmlenpcchhmbaaGreatW.PrintWords Go.Proofs.YtgmlenpcchhmbaaGreatW.PrintLast
theorem small_end (l : List S63) (d : List S61) (n : Int) : ∃ b, (if (l.length : Int) ≤ 60 then (if (d.length : Int) ≤ 60 then (some (decide (n ≤ 6000))) else (some false)) else (some false)) = some b ∧ (b = true → l.length ≤ 60 ∧ d.length ≤ 60) := by
  by_cases h1 : (l.length : Int) ≤ 60
  · by_cases h2 : (d.length : Int) ≤ 60
    · exact ⟨_, by rw [if_pos h1, if_pos h2], fun _ => ⟨by omega, by omega⟩⟩
    · exact ⟨false, by rw [if_pos h1, if_neg h2], fun h => by cases h⟩
  · exact ⟨false, by rw [if_neg h1], fun h => by cases h⟩
theorem small_l1 (l : List S63) (d : List S61) : ∀ (m i : Nat) (n : Int), i + m = 61 → ∃ b, Ev (fun k => folkmootlaw08_small.l1 k l d n (i : Int)) b ∧ (b = true → l.length ≤ 60 ∧ d.length ≤ 60)
  | 0, i, n, h => by
    obtain ⟨b, e, hb⟩ := small_end l d n
    refine ⟨b, Ev.succ ?_, hb⟩
    simp only [folkmootlaw08_small.l1]
    exact Ev.cond (fun _ => Ev.no (by omega) (Ev.of _ fun _ => e)) (fun _ => Ev.of _ fun _ => e)
  | m + 1, i, n, h => by
    by_cases hl : (i : Int) < (d.length : Int)
    · obtain ⟨b, e, hb⟩ := small_l1 l d m (i + 1) (wrap64 (n + (((rd_T61 d (i : Int)).f0).size : Int))) (by omega)
      refine ⟨b, Ev.succ ?_, hb⟩
      simp only [folkmootlaw08_small.l1]
      rw [w64_succ (by omega)]
      exact Ev.yes hl (Ev.yes (by omega) (Ev.yes (by omega) e))
    · obtain ⟨b, e, hb⟩ := small_end l d n
      refine ⟨b, Ev.succ ?_, hb⟩
      simp only [folkmootlaw08_small.l1]
      exact Ev.no hl (Ev.of _ fun _ => e)
theorem small_j1 (l : List S63) (d : List S61) (n : Int) : ∃ b, Ev (fun k => folkmootlaw08_small.j1 k l d n) b ∧ (b = true → l.length ≤ 60 ∧ d.length ≤ 60) := by
  obtain ⟨b, e, hb⟩ := small_l1 l d 61 0 n rfl
  refine ⟨b, Ev.succ ?_, hb⟩
  simp only [folkmootlaw08_small.j1]
  exact e
theorem small_l0 (l : List S63) (d : List S61) : ∀ (m i : Nat) (n : Int), i + m = 61 → ∃ b, Ev (fun k => folkmootlaw08_small.l0 k l d n (i : Int)) b ∧ (b = true → l.length ≤ 60 ∧ d.length ≤ 60)
  | 0, i, n, h => by
    obtain ⟨b, e, hb⟩ := small_j1 l d n
    refine ⟨b, Ev.succ ?_, hb⟩
    simp only [folkmootlaw08_small.l0]
    exact Ev.cond (fun _ => Ev.no (by omega) e) (fun _ => e)
  | m + 1, i, n, h => by
    by_cases hl : (i : Int) < (l.length : Int)
    · obtain ⟨b, e, hb⟩ := small_l0 l d m (i + 1) (wrap64 ((wrap64 (n + (((rd_T63 l (i : Int)).f1).size : Int))) + (((rd_T63 l (i : Int)).f2).size : Int))) (by omega)
      refine ⟨b, Ev.succ ?_, hb⟩
      simp only [folkmootlaw08_small.l0]
      rw [w64_succ (by omega)]
      exact Ev.yes hl (Ev.yes (by omega) (Ev.yes (by omega) e))
    · obtain ⟨b, e, hb⟩ := small_j1 l d n
      refine ⟨b, Ev.succ ?_, hb⟩
      simp only [folkmootlaw08_small.l0]
      exact Ev.no hl e
theorem ev_small (l : List S63) (d : List S61) : ∃ b, Ev (fun k => folkmootlaw08_small.f k l d) b ∧ (b = true → l.length ≤ 60 ∧ d.length ≤ 60) := small_l0 l d 61 0 0 rfl
def pairT (p : S61) : Prop := 1 ≤ p.f0.size ∧ p.f0.size ≤ 16 ∧ rightN p.f1 = p.f1
theorem sortK_snoc {V : Type} {l : List (ByteArray × V)} {y x : ByteArray × V} (h : SortK (l ++ [y])) (hk : klt y.1 x.1 = true) : SortK (l ++ [y] ++ [x]) := by
  refine List.pairwise_append.2 ⟨h, List.pairwise_singleton _ _, fun a ha b hb => ?_⟩
  rw [List.mem_singleton] at hb; subst hb
  rcases List.mem_append.1 ha with ha | ha
  · exact klt_trans ((List.pairwise_append.1 h).2.2 a ha y (List.mem_singleton.2 rfl)) hk
  · rw [List.mem_singleton.1 ha]; exact hk
def dataT (d : List S61) : Prop := SortK (d.map toA) ∧ ∀ p ∈ d, pairT p
theorem rd_at {d : List S61} {i : Nat} (h : i < d.length) : rd_T61 d (i : Int) = d[i] := by
  unfold rd_T61
  rw [Int.toNat_natCast, List.getD_eq_getElem?_getD, List.getElem?_eq_getElem h]; rfl
theorem data_l0 (d : List S61) (hd : d.length ≤ 9223372036854775807) (hn : ∀ p ∈ d, 0 ≤ p.f1 ∧ p.f1 < 18446744073709551616) : ∀ (m i : Nat), i + m = d.length → dataT (d.take i) → ∃ b, Ev (fun k => folkmootref08_Data.l0 k d (i : Int)) b ∧ (b = true → dataT d)
  | 0, i, h, g => by
    refine ⟨true, Ev.succ ?_, fun _ => by rwa [List.take_of_length_le (by omega)] at g⟩
    simp only [folkmootref08_Data.l0]
    exact Ev.no (by omega) (Ev.some _)
  | m + 1, i, h, g => by
    have hi : i < d.length := by omega
    have hmem : d[i] ∈ d := List.getElem_mem hi
    have hf : ∀ {F : Nat → Option Bool}, Ev F false → ∃ b, Ev F b ∧ (b = true → dataT d) := fun e => ⟨false, e, fun h => by cases h⟩
    have hkey : ∃ b, folkmootref03_Key.f (rd_T61 d (i : Int)).f0 = some b ∧ (b = true → 1 ≤ (d[i]).f0.size ∧ (d[i]).f0.size ≤ 16) := by
      rw [rd_at hi]
      unfold folkmootref03_Key.f
      split
      · exact ⟨_, rfl, fun h => by have := of_decide_eq_true h; omega⟩
      · exact ⟨_, rfl, fun h => by cases h⟩
    obtain ⟨b1, e1, hb1⟩ := hkey
    have his : folkmootref07_Is.f (rd_T61 d (i : Int)).f1 = some (rightN (d[i]).f1 == (d[i]).f1) := by
      rw [rd_at hi]
      unfold folkmootref07_Is.f
      rw [rRight_f (hn _ hmem).1 (hn _ hmem).2]; rfl
    cases b1 with
    | false =>
      refine hf (Ev.succ ?_)
      simp only [folkmootref08_Data.l0]
      exact Ev.yes (by omega) (Ev.yes (by omega) (Ev.bind1 e1 (Ev.no (by decide) (Ev.some _))))
    | true =>
      cases h2 : (rightN (d[i]).f1 == (d[i]).f1) with
      | false =>
        rw [h2] at his
        refine hf (Ev.succ ?_)
        simp only [folkmootref08_Data.l0]
        exact Ev.yes (by omega) (Ev.yes (by omega) (Ev.bind1 e1 (Ev.yes rfl (Ev.bind1 his (Ev.no (by decide) (Ev.some _))))))
      | true =>
        rw [h2] at his
        have hp : pairT d[i] := ⟨(hb1 rfl).1, (hb1 rfl).2, beq_iff_eq.1 h2⟩
        have htake : d.take (i + 1) = d.take i ++ [d[i]] := (List.take_append_getElem hi).symm
        have hall : ∀ p ∈ d.take (i + 1), pairT p := fun p hp' => by
          rw [htake] at hp'
          rcases List.mem_append.1 hp' with h3 | h3
          · exact g.2 p h3
          · rw [List.mem_singleton.1 h3]; exact hp
        rcases i with _ | i
        · have g2 : dataT (d.take 1) := ⟨by rw [htake]; exact List.pairwise_singleton _ _, hall⟩
          obtain ⟨b, e, hb⟩ := data_l0 d hd hn m 1 (by omega) g2
          refine ⟨b, Ev.succ ?_, hb⟩
          simp only [folkmootref08_Data.l0]
          rw [w64_succ (by omega)]
          exact Ev.yes (by omega) (Ev.yes (by omega) (Ev.bind1 e1 (Ev.yes rfl (Ev.bind1 his (Ev.yes rfl (Ev.no (by decide) e))))))
        · have hw : wrap64 (((i + 1 : Nat) : Int) - 1) = (i : Int) := by unfold wrap64; omega
          have hs : wrap64 (((i + 1 : Nat) : Int) + 1) = ((i + 1 + 1 : Nat) : Int) := by unfold wrap64; omega
          cases h3 : klt (d[i]).f0 (d[i + 1]).f0 with
          | false =>
            refine hf (Ev.succ ?_)
            simp only [folkmootref08_Data.l0, hw]
            refine Ev.yes (by omega) (Ev.yes (by omega) (Ev.bind1 e1 (Ev.yes rfl (Ev.bind1 his (Ev.yes rfl (Ev.yes (by omega) (Ev.yes (by omega) (Ev.yes (by omega) (Ev.no ?_ (Ev.some _))))))))))
            rw [klt_list, rd_at hi, rd_at (by omega), h3]; decide
          | true =>
            have ht0 : d.take (i + 1) = d.take i ++ [d[i]] := (List.take_append_getElem (by omega)).symm
            have g2 : dataT (d.take (i + 1 + 1)) := ⟨by
              rw [htake, List.map_append, ht0, List.map_append]
              have := g.1
              rw [ht0, List.map_append] at this
              exact sortK_snoc this h3, hall⟩
            obtain ⟨b, e, hb⟩ := data_l0 d hd hn m (i + 1 + 1) (by omega) g2
            refine ⟨b, Ev.succ ?_, hb⟩
            simp only [folkmootref08_Data.l0, hw, hs]
            refine Ev.yes (by omega) (Ev.yes (by omega) (Ev.bind1 e1 (Ev.yes rfl (Ev.bind1 his (Ev.yes rfl (Ev.yes (by omega) (Ev.yes (by omega) (Ev.yes (by omega) (Ev.yes ?_ e)))))))))
            rw [klt_list, rd_at hi, rd_at (by omega), h3]
theorem ev_data (d : List S61) (hd : d.length ≤ 9223372036854775807) (hn : ∀ p ∈ d, 0 ≤ p.f1 ∧ p.f1 < 18446744073709551616) : ∃ b, Ev (fun k => folkmootref08_Data.f k d) b ∧ (b = true → dataT d) :=
  data_l0 d hd hn d.length 0 (by omega) ⟨.nil, fun p hp => by simp at hp⟩
theorem pairs_l0 (d : List S61) (hd : d.length ≤ 9223372036854775807) : ∀ (m i : Nat), i + m = d.length → Ev (fun k => folkmootref08_Pairs.l0 k d d (i : Int)) true
  | 0, i, h => by
    refine Ev.succ ?_
    simp only [folkmootref08_Pairs.l0]
    exact Ev.no (by omega) (Ev.some _)
  | m + 1, i, h => by
    refine Ev.succ ?_
    simp only [folkmootref08_Pairs.l0]
    rw [w64_succ (by omega)]
    exact Ev.yes (by omega) (Ev.yes (by omega) (Ev.yes (by omega) (Ev.no (by simp) (pairs_l0 d hd m (i + 1) (by omega)))))
theorem ev_pairs (d : List S61) (hd : d.length ≤ 9223372036854775807) : Ev (fun k => folkmootref08_Pairs.f k d d) true := by
  unfold folkmootref08_Pairs.f
  exact Ev.yes rfl (pairs_l0 d hd d.length 0 (by omega))
end Go.Proofs.YtgmlenpcchhmbaaGreat.P
end
section
set_option linter.unusedVariables false
set_option linter.unusedSimpArgs false
namespace Go.Proofs.YtgmlenpcchhmbaaGreat.P
open Go.RowKit Go.Shelf Go.Proofs.YtgmlenpcchhmbaaGreatW.PrintWords Go.Proofs.YtgmlenpcchhmbaaGreatW.PrintLast Go.Proofs.YtgmlenpcchhmbaaGreatW.PrintMore
set_option maxHeartbeats 1000000 in
theorem idxPr_any (g : Nat) (fst lb : Array Value) (p : S61 → Bool) (eg : ∀ args w, (callFunc g args).run Tryz.prog w = .ok (.enter g args) w) (base blk cap : Nat) (xs : List (S61)) (w : World)
    (hown : RowPr w base (.slice (some ⟨blk, 0, none⟩) xs.length cap) xs) (hm : xs.length ≤ cap ∧ cap ≤ 9223372036854775807)
    (hp : ∀ (W : World) (s : S61), s ∈ xs → Below w.heap.size w W → Calls Tryz.prog g (fst ++ #[.agg #[.string s.f0, .int .u64 s.f1]] ++ lb) W fun e w' => e = .returned (.bool (p s)) ∧ Below W.heap.size W w') :
    Calls Tryz.prog 125 #[.slice (some ⟨blk, 0, none⟩) xs.length cap, .func (.func g) fst lb] w fun e w' => e = .returned (.int .i64 (idxP p xs)) ∧ Below w.heap.size w w' := by
  obtain ⟨hm1, hm2⟩ := hm
  have HR := Lib.hid hown; clear hown
  have HP := Lib.hid hp; clear hp
  go_enter Tryz.func125, Tryz.ntmps125
  go_wp2
  go_loopw [5, 8] (fun _ i wr => ∃ k : Nat, i = .int .i64 k ∧ k ≤ xs.length ∧ Below w.heap.size w wr ∧ RowKit.Hid (∀ j (hj : j < xs.length), j < k → p xs[j] = false)) (fun _ i _ => xs.length - (intOf i).toNat)
  case atStart => exact ⟨0, rfl, Nat.zero_le _, Below.refl _ _, Lib.hid (fun j _ h => absurd h (Nat.not_lt_zero _))⟩
  case round =>
    obtain ⟨k, rfl, hk, hB, HN⟩ := hrel
    by_cases hlt : k < xs.length
    · obtain ⟨x0, x1, _, _⟩ := RowPr.at_ (pw_own_below HR.out hB) k xs[k] (List.getElem?_eq_getElem hlt)
      have hc := HP.out wr xs[k] (List.getElem_mem hlt) hB
      generalize hu : xs[k] = u at *
      have HU := Lib.hid hu; clear hu
      cases hq : p u with
      | true =>
        rw [hq] at hc
        have HQ := Lib.hid hq; clear hq
        go_wp2_with (go_at_fn g; refine hc.mono ?_; rintro e w' ⟨rfl, hb⟩)
        go_ret
        refine ⟨?_, hB.trans (hb.mono hB.size)⟩
        rw [idxP_hit hlt HN.out (by rw [HU.out]; exact HQ.out)]
        rfl
      | false =>
        rw [hq] at hc
        have HQ := Lib.hid hq; clear hq
        go_wp2_with (go_at_fn g; refine hc.mono ?_; rintro e w' ⟨rfl, hb⟩)
        go_roundw
        case rel => exact ⟨k + 1, by go_num, by omega, hB.trans (hb.mono hB.size), Lib.hid (fun j hj h => by
          by_cases e : j = k
          · subst e; rw [HU.out]; exact HQ.out
          · exact HN.out j hj (by omega))⟩
        case measure => simp [intOf]; omega
    · obtain rfl : k = xs.length := by omega
      go_wp2
      go_ret
      refine ⟨?_, hB⟩
      rw [idxP_none (fun j hj => HN.out j hj (by omega))]
      rfl
set_option maxHeartbeats 4000000 in
set_option maxRecDepth 100000 in
theorem delPr_any (g : Nat) (fst lb : Array Value) (p : S61 → Bool) (eg : ∀ args w, (callFunc g args).run Tryz.prog w = .ok (.enter g args) w) (base blk cap : Nat) (xs : List (S61)) (w : World)
    (hown : RowPr w base (.slice (some ⟨blk, 0, none⟩) xs.length cap) xs)
    (hp : ∀ (W : World) (s : S61), s ∈ xs → Upd w W (· = blk) → Calls Tryz.prog g (fst ++ #[.agg #[.string s.f0, .int .u64 s.f1]] ++ lb) W fun e w' => e = .returned (.bool (p s)) ∧ Below W.heap.size W w') :
    Calls Tryz.prog 82 #[.slice (some ⟨blk, 0, none⟩) xs.length cap, .func (.func g) fst lb] w fun e w' =>
      e = .returned (.slice (some ⟨blk, 0, none⟩) (xs.filter fun x => !p x).length cap) ∧ RowPr w' base (.slice (some ⟨blk, 0, none⟩) (xs.filter fun x => !p x).length cap) (xs.filter fun x => !p x) ∧ Upd w w' (· = blk) := by
  have hcap : xs.length ≤ cap ∧ cap ≤ 9223372036854775807 := by
    rcases hown.2 with ⟨h, _⟩ | ⟨g', cap', cur, h, _, _, h1, h2, _⟩
    · cases h
    · injection h with _ _ h
      subst h
      exact ⟨h1, by simpa [maxLen] using h2⟩
  have hidx := idxPr_any g fst lb p eg base blk cap xs w hown hcap (fun W x hx hb => hp W x hx (Upd.of_below hb _))
  obtain ⟨hcap1, hcap2⟩ := hcap
  have HO := Lib.hid hown
  have HP := Lib.hid hp; clear hp
  by_cases hall : ∀ j (hj : j < xs.length), p xs[j] = false
  · rw [idxP_none hall] at hidx
    have hf : (xs.filter fun x => !p x) = xs := List.filter_eq_self.2 (fun x hx => by
      obtain ⟨j, hj, rfl⟩ := List.getElem_of_mem hx
      simp [hall j hj])
    rw [hf]
    clear hf hall hown
    go_enter Tryz.func82, Tryz.ntmps82
    go_wp2_with (go_at_call 125; refine hidx.mono ?_; rintro e w' ⟨rfl, hb⟩)
    go_ret
    exact ⟨rfl, pw_own_below HO.out hb, Upd.of_below hb _⟩
  · obtain ⟨k, hk, ht, hlow⟩ : ∃ k, ∃ hk : k < xs.length, p xs[k] = true ∧ ∀ j (hj : j < xs.length), j < k → p xs[j] = false := by
      cases hf : xs.findIdx? p with
      | none =>
        rw [List.findIdx?_eq_none_iff] at hf
        exact absurd (fun j hj => hf _ (List.getElem_mem hj)) hall
      | some k =>
        rw [List.findIdx?_eq_some_iff_getElem] at hf
        obtain ⟨hk, ht, h⟩ := hf
        exact ⟨k, hk, ht, fun j _ hj => by simpa using h j hj⟩
    rw [idxP_hit hk hlow ht] at hidx
    have HI := Lib.hid (DelInv.start hk hlow ht)
    clear hall hlow ht hown
    have hne : ((k : Int) == -1) = false := beq_eq_false_iff_ne.2 (by omega)
    go_enter Tryz.func82, Tryz.ntmps82
    go_wp2_with (go_at_call 125; refine hidx.mono ?_; rintro e w' ⟨rfl, hb⟩)
    go_loopw [5, 6, 7] (fun si sj _ wr => ∃ (i j : Nat) (ys : List (S61)), si = .int .i64 i ∧ sj = .int .i64 j ∧ i < j ∧ j ≤ xs.length ∧ RowKit.Hid (DelInv p xs ys i j) ∧ RowKit.Hid (RowPr wr base (.slice (some ⟨blk, 0, none⟩) xs.length cap) ys ∧ Upd w wr (· = blk))) (fun _ j _ _ => xs.length - (intOf j).toNat)
    case atStart => exact ⟨k, k + 1, xs, rfl, by go_num, by omega, by omega, HI, Lib.hid ⟨pw_own_below HO.out hb, Upd.of_below hb _⟩⟩
    case round =>
      obtain ⟨i, j, ys, rfl, rfl, hij, hj, HD, HS⟩ := hrel
      have hyl := HD.out.len
      by_cases hlt : j < xs.length
      · have hget := HD.out.get hlt
        obtain ⟨x0, x1, _, _⟩ := RowPr.at_ HS.out.1 j xs[j] (by rw [List.getElem?_eq_getElem (by omega), hget])
        obtain ⟨z', hz'⟩ : ∃ z', ys[i]? = some z' := ⟨_, List.getElem?_eq_getElem (by omega)⟩
        obtain ⟨c0, c1, q0, q1⟩ := RowPr.at_ HS.out.1 i z' hz'
        have hblk : blk < wr.heap.size := (World.ownsRow.lt HS.out.1 blk rfl).2
        have hc := fun W (h : Below wr.heap.size wr W) => HP.out W xs[j] (List.getElem_mem hlt) (HS.out.2.then_below h)
        have hx : RowKit.Hid (∀ q, p xs[j] = q → DelInv p xs (if q then ys else ys.set i xs[j]) (if q then i else i + 1) (j + 1)) := Lib.hid (fun q hq => by
          cases q with
          | true => exact HD.out.skip hlt hq
          | false => exact HD.out.keep hlt hq)
        clear hget hyl hz'
        generalize xs[j] = s at *
        obtain ⟨q, hq⟩ : ∃ q, p s = q := ⟨_, rfl⟩
        rw [hq] at hc
        have HC := Lib.hid hc; clear hc
        have HQ := Lib.hid hq; clear hq
        cases q with
        | true =>
          have HSK := Lib.hid (hx.out true HQ.out)
          go_wp2_with (go_at_fn g; refine (HC.out _ ((Below.refl _ _).alloc (Nat.le_refl _) _)).mono ?_; rintro e w2 ⟨rfl, hb2⟩)
          go_roundw
          case rel =>
            have hbw : Below wr.heap.size wr w2 := ((Below.refl _ _).alloc (Nat.le_refl _) _).trans (hb2.mono (by simp))
            exact ⟨i, j + 1, ys, rfl, by go_num, by omega, by omega, HSK, Lib.hid ⟨pw_own_below HS.out.1 hbw, HS.out.2.then_below hbw⟩⟩
          case measure => simp [intOf]; omega
        | false =>
          have HSK := Lib.hid (hx.out false HQ.out)
          have hcells := fun w2 (hb2 : Below (wr.alloc (.cells #[.string s.f0, .int .u64 s.f1] 61)).heap.size (wr.alloc (.cells #[.string s.f0, .int .u64 s.f1] 61)) w2) => (show Below wr.heap.size wr w2 ∧ w2.cell? ⟨wr.heap.size, 0, none⟩ = some (.string s.f0) ∧ w2.cell? ⟨wr.heap.size, 1, none⟩ = some (.int .u64 s.f1) from by
            have hn := Blk.new wr 61 #[.string s.f0, .int .u64 s.f1]
            exact ⟨((Below.refl _ _).alloc (Nat.le_refl _) _).trans (hb2.mono (by simp)), (hn.below hb2 (by simp)).cell 0, (hn.below hb2 (by simp)).cell 1⟩)
          have HCE := Lib.hid hcells
          clear hcells
          go_wp2_with (go_at_fn g; refine (HC.out _ ((Below.refl _ _).alloc (Nat.le_refl _) _)).mono ?_; rintro e w2 ⟨rfl, hb2⟩; obtain ⟨hbw, n0, n1⟩ := HCE.out w2 hb2; have c0' := pw_cell_below hbw c0; have c1' := pw_cell_below hbw c1; have q0' := (hbw.frozen (p := ⟨blk, i * 2, none⟩) hblk).trans q0; have q1' := (hbw.frozen (p := ⟨blk, i * 2 + 1, none⟩) hblk).trans q1)
          go_roundw
          case rel => exact ⟨i + 1, j + 1, ys.set i s, by go_num, by go_num, by omega, by omega, HSK, Lib.hid ⟨RowPr.store (pw_own_below HS.out.1 hbw) i s, ((HS.out.2.then_below hbw).setCell (.inl rfl) _).setCell (.inl rfl) _⟩⟩
          case measure => simp [intOf]; omega
      · obtain rfl : j = xs.length := by omega
        have hsz := HD.out.size
        have hdn := Lib.hid HD.out.done
        obtain ⟨vs, hcl⟩ : ∃ vs, ∀ ty, (Builtin.clear_ #[39] ty #[.slice (some ⟨blk, i * 2, none⟩) (xs.length - i) (cap - i)]).run Tryz.prog wr = .ok (.tuple #[]) (wr.setCells blk (i * 2) vs) := ⟨_, fun ty =>
          run_clear2 wr _ _ ty _ (.string ⟨#[]⟩) (.int .u64 0) Tryz.underlying39 Tryz.zeroValue61 rfl rfl rfl blk (i * 2) _ _ (by omega) (fun t ht => by
            have h := World.ownsRow.cellAt (n := xs.length) (by have h := HS.out.1; unfold RowPr at h; rw [hyl] at h; exact h) (i * 2 + t) (by omega)
            rw [h, List.getElem?_eq_getElem (by rw [enc2_len, List.length_map]; omega)]; rfl) (fun t ht => World.ownsRow.frozenAt (n := xs.length) (by have h := HS.out.1; unfold RowPr at h; rw [hyl] at h; exact h) _)⟩
        have HSZ := Lib.hid hsz
        clear hsz
        go_wp2
        go_ret
        obtain ⟨zs, hz, ht⟩ := own_setCells vs (i * 2) wr _ (by have h := HS.out.1; unfold RowPr at h; rw [hyl] at h; exact h)
        have h3 := own_take hz (m := i) (by omega)
        rw [ht, enc2_take, ← List.map_take, hdn.out] at h3
        rw [HSZ.out]
        refine ⟨rfl, ?_, HS.out.2.setCells (.inl rfl) vs (i * 2)⟩
        unfold RowPr
        rw [HSZ.out]
        exact h3
theorem delPr_nil (g : Nat) (fst lb : Array Value) (eg : ∀ args w, (callFunc g args).run Tryz.prog w = .ok (.enter g args) w) (w : World) :
    Calls Tryz.prog 82 #[.slice none 0 0, .func (.func g) fst lb] w fun e w' => e = .returned (.slice none 0 0) ∧ Below w.heap.size w w' := by
  have hidx : Calls Tryz.prog 125 #[.slice none 0 0, .func (.func g) fst lb] w fun e w' => e = .returned (.int .i64 (-1)) ∧ Below w.heap.size w w' := by
    go_enter Tryz.func125, Tryz.ntmps125
    go_wp2
    refine wp_loop_rounds 1 ?_
    rw [rounds_succ]
    go_wp2
    go_ret
    exact ⟨rfl, Below.refl _ _⟩
  go_enter Tryz.func82, Tryz.ntmps82
  go_wp2_with (go_at_call 125; refine hidx.mono ?_; rintro e w' ⟨rfl, hb⟩)
  go_ret
  exact ⟨rfl, hb⟩
theorem delPr_own (g : Nat) (fst lb : Array Value) (p : S61 → Bool) (eg : ∀ args w, (callFunc g args).run Tryz.prog w = .ok (.enter g args) w) (base : Nat) (v : Value) (xs : List (S61)) (w w0 : World)
    (hown : RowPr w base v xs) (hb : Below base w0 w) (hbs : base ≤ w.heap.size)
    (hp : ∀ (W : World) (s : S61), s ∈ xs → Below base w0 W → Calls Tryz.prog g (fst ++ #[.agg #[.string s.f0, .int .u64 s.f1]] ++ lb) W fun e w' => e = .returned (.bool (p s)) ∧ Below W.heap.size W w') :
    Calls Tryz.prog 82 #[v, .func (.func g) fst lb] w fun e w' => ∃ v', e = .returned v' ∧ RowPr w' base v' (xs.filter fun x => !p x) ∧ Below base w0 w' ∧ Upd w w' (fun k => v.ownBlock = some k) ∧ v'.ownBlock = v.ownBlock := by
  have hg := hown
  rcases hg.2 with ⟨rfl, h0⟩ | ⟨blk, cap, cur, rfl, hbb, hgb, _⟩
  · obtain rfl : xs = [] := List.eq_nil_of_length_eq_zero h0
    exact (delPr_nil g fst lb eg w).mono fun e w' ⟨he, h⟩ => ⟨_, he, own_nil _ _ _ _, hb.trans (h.mono hbs), Upd.of_below h _, rfl⟩
  · have hU : ∀ W, Upd w W (· = blk) → Below base w0 W := fun W h => hb.trans (h.below hbs (fun k hk e => by omega))
    exact (delPr_any g fst lb p eg base blk cap xs w hown (fun W x hx h => hp W x hx (hU W h))).mono fun e w' ⟨he, ho, h⟩ => ⟨_, he, ho, hU w' h, h.mono fun k _ e => by simp [Value.ownBlock, e], rfl⟩
end Go.Proofs.YtgmlenpcchhmbaaGreat.P
end
section
set_option linter.unusedVariables false
set_option linter.unusedSimpArgs false
namespace Go.Proofs.YtgmlenpcchhmbaaGreat.P
open Go.RowKit Go.Proofs.YtgmlenpcchhmbaaGreatW.PrintWords Go.Proofs.YtgmlenpcchhmbaaGreatW.PrintLast Go.Proofs.YtgmlenpcchhmbaaGreatW.PrintMore
theorem C_blkI {W : World} {b : Nat} {t : TypeId} (xs : List Int) (h : Blk W b t (xs.map (Value.int .i64)).toArray) (hm : xs.length ≤ 1000) : Kd.C (Kd.int .i64) W (some ⟨b, 0, none⟩) xs.length xs := by
  refine ⟨rfl, by omega, fun _ => ⟨_, rfl, fun j p hj => ⟨[.int .i64 p], rfl, rfl, fun i u hu => ?_⟩⟩⟩
  rcases i with _ | i
  · simp only [List.getElem?_cons_zero, Option.some.injEq] at hu
    subst hu
    have := h.cell j
    rw [show (⟨b, 0, none⟩ : Addr).add (j * (Kd.int .i64).sz + 0) = ⟨b, j, none⟩ by rw [show (Kd.int .i64).sz = 1 from rfl, Nat.mul_one, Nat.add_zero, add_plain]]
    rw [this]
    simp [hj]
  · simp at hu
theorem C_blkS {W : World} {b : Nat} {t : TypeId} (xs : List ByteArray) (h : Blk W b t (xs.map Value.string).toArray) (hm : xs.length ≤ 1000) : Kd.C Kd.string W (some ⟨b, 0, none⟩) xs.length xs := by
  refine ⟨rfl, by omega, fun _ => ⟨_, rfl, fun j p hj => ⟨[.string p], rfl, rfl, fun i u hu => ?_⟩⟩⟩
  rcases i with _ | i
  · simp only [List.getElem?_cons_zero, Option.some.injEq] at hu
    subst hu
    have := h.cell j
    rw [show (⟨b, 0, none⟩ : Addr).add (j * Kd.string.sz + 0) = ⟨b, j, none⟩ by rw [show Kd.string.sz = 1 from rfl, Nat.mul_one, Nat.add_zero, add_plain]]
    rw [this]
    simp [hj]
  · simp at hu
theorem RowB.lower {w : World} {b b' : Nat} {v : Value} {xs : List Int} (h : RowB w b v xs) (hb : b' ≤ b) : RowB w b' v xs :=
  ⟨h.1, h.2.imp id fun ⟨g, cap, cur, h1, h2, h3⟩ => ⟨g, cap, cur, h1, Nat.le_trans hb h2, h3⟩⟩
theorem C_atO {w : World} {A : Option Addr} {n : Nat} {xs : List S63} (h : Kd.C k63 w A n xs) (k : Nat) (hk : k < xs.length) : ∃ ad, A = some ad ∧ w.cell? (ad.add (k * 4)) = some (.int .i64 xs[k].f0) ∧ w.cell? ⟨(ad.add (k * 4)).block, (ad.add (k * 4)).off + 1, none⟩ = some (.string xs[k].f1) ∧ w.cell? ⟨(ad.add (k * 4)).block, (ad.add (k * 4)).off + 2, none⟩ = some (.string xs[k].f2) ∧ w.cell? ⟨(ad.add (k * 4)).block, (ad.add (k * 4)).off + 3, none⟩ = some (.int .u64 xs[k].f3) := by
  obtain ⟨ad, hA, x0, x1, x2, x3⟩ := at_T63 h (k : Int) (by omega) (by have := h.1; omega)
  have er : rd_T63 xs (k : Int) = xs[k] := by
    unfold rd_T63
    rw [Int.toNat_natCast, List.getD_eq_getElem?_getD, List.getElem?_eq_getElem hk]
    rfl
  rw [er, Int.toNat_natCast] at x0 x1 x2 x3
  exact ⟨ad, hA, x0, x1, x2, x3⟩
end Go.Proofs.YtgmlenpcchhmbaaGreat.P
end
section
set_option linter.unusedVariables false
set_option linter.unusedSimpArgs false
namespace Go.Proofs.YtgmlenpcchhmbaaGreat.P
open Go.RowKit Go.Proofs.YtgmlenpcchhmbaaGreatW.PrintWords Go.Proofs.YtgmlenpcchhmbaaGreatW.PrintLast Go.Proofs.YtgmlenpcchhmbaaGreatW.PrintMore
structure EyeIs (w : World) (g ab : Nat) (xs : List Int) (bl : Bool) : Prop where
  ne : ab ≠ g ∨ xs = []
  old : ab < w.heap.size
  ex : ∃ A c, Blk w g 137 #[.slice A xs.length c, .bool bl] ∧ xs.length ≤ c ∧ Kd.F (Kd.int .u8) w (· = ab) A xs.length xs
theorem F_zero {w : World} {ok : Nat → Prop} (A : Option Addr) : Kd.F (Kd.int .u8) w ok A 0 [] := fun _ _ => ⟨rfl, by decide, fun h => absurd h (by decide)⟩
theorem rep23 : Array.replicate 23 undef = #[undef, undef, undef, undef, undef, undef, undef, undef, undef, undef, undef, undef, undef, undef, undef, undef, undef, undef, undef, undef, undef, undef, undef] := rfl
theorem sight_assert (w : World) : (Instr.typeAssert (.iface 170 (.agg #[])) 20 170 true).run Tryz.prog w = .ok (.tuple #[.agg #[], .bool true]) w := by kernel_rfl
structure Caught (w w' : World) (g bx : Nat) (was : Value) (z : Value) (tX : TypeId) : Prop where
  upd : Upd w w' (fun k => k = g ∨ k = bx)
  eye : Blk w' g 137 #[was, .bool true]
  res : Blk w' bx tX #[z]
section
variable {w w' : World} {g ab : Nat} {xs : List Int} {bl : Bool}
theorem EyeIs.upd {S : Nat → Prop} (h : EyeIs w g ab xs bl) (hu : Upd w w' S) (hg : ¬ S g) (ha : ¬ S ab) : EyeIs w' g ab xs bl := by
  obtain ⟨A, c, hB, hc, hF⟩ := h.ex
  exact ⟨h.ne, Nat.lt_of_lt_of_le h.old hu.size, A, c, hB.upd hu hg, hc, Kd.F_step hF (fun k hk hlt => hu.block k hlt (hk ▸ ha))⟩
theorem EyeIs.below (h : EyeIs w g ab xs bl) (hb : Below w.heap.size w w') : EyeIs w' g ab xs bl := h.upd (Upd.of_below hb (fun _ => False)) (fun h => h) (fun h => h)
theorem EyeIs.lt (h : EyeIs w g ab xs bl) : g < w.heap.size := by obtain ⟨A, c, hB, _⟩ := h.ex; exact hB.lt
def sightP : List PanicEntry := [{ v := .iface 170 (.agg #[]), recovered := false }]
theorem must_true (w : World) : Calls Tryz.prog 98 #[.bool true] w fun e w' => e = .returned (.tuple #[]) ∧ w' = w := by
  go_enter Tryz.func98, Tryz.ntmps98
  go_wp2
  (try simp only [Exit.inBlock, Exit.then]); refine bodyPost_end (results_none rfl _ _ _) rfl ?_
  exact ⟨rfl, rfl⟩
theorem must_false (w : World) : Calls Tryz.prog 98 #[.bool false] w fun e w' => e = .panicked sightP ∧ w' = w := by
  go_enter Tryz.func98, Tryz.ntmps98
  go_wp2
  exact ⟨rfl, rfl, rfl⟩
theorem C_of_int {W : World} {A : Option Addr} {n : Nat} {xs : List Int} (h : ReadsInt W .u8 A n xs) : Kd.C (Kd.int .u8) W A n xs := Kd.C_of_reads (d := (0 : Int)) (readsInt_of.1 h)
theorem reads_F {A : Option Addr} {n : Nat} {ys : List Int} {ok : Nat → Prop} (h : Kd.F (Kd.int .u8) w ok A n ys) : ReadsInt w .u8 A n ys := readsInt_of.2 (Kd.reads_of_C (d := (0 : Int)) (Kd.F_now h))
theorem F_reads {A A' : Option Addr} {n n' : Nat} {ys ys' : List Int} {ok : Nat → Prop} (h : Kd.F (Kd.int .u8) w ok A n ys) (hi : ∀ W, ReadsInt W .u8 A n ys → ReadsInt W .u8 A' n' ys') : Kd.F (Kd.int .u8) w ok A' n' ys' :=
  Kd.F_imp h (fun W hC => C_of_int (hi W (readsInt_of.2 (Kd.reads_of_C (d := (0 : Int)) hC))))
theorem take_done {A : Option Addr} {n c n2 c2 : Nat} (hB : Blk w g 137 #[.slice A xs.length c, .bool bl]) (hne : ab ≠ g ∨ xs = []) (hold : ab < w.heap.size) (hF : Kd.F (Kd.int .u8) w (· = ab) A xs.length xs) (hn : n ≤ xs.length) (hc : xs.length ≤ c) (h2 : n2 = xs.length - n) (hc2 : c2 = c - n) {A2 : Option Addr} (hA2 : A2 = if c = n then A else A.map (·.add n)) :
    Kd.F (Kd.int .u8) (w.setCell ⟨g, 0, none⟩ (.slice A2 n2 c2)) (· = ab) A n (xs.take n) ∧ EyeIs (w.setCell ⟨g, 0, none⟩ (.slice A2 n2 c2)) g ab (xs.drop n) bl ∧ Upd w (w.setCell ⟨g, 0, none⟩ (.slice A2 n2 c2)) (· = g) := by
  have hu : Upd w (w.setCell ⟨g, 0, none⟩ (.slice A2 n2 c2)) (· = g) := (Upd.refl w (· = g)).setCell (p := ⟨g, 0, none⟩) (.inl rfl) _
  have hF' : Kd.F (Kd.int .u8) (w.setCell ⟨g, 0, none⟩ (.slice A2 n2 c2)) (· = ab) A xs.length xs := by
    rcases hne with hne | rfl
    · exact Kd.F_step hF (fun k hk hlt => hu.block k hlt (fun e => hne (hk ▸ e)))
    · exact F_zero A
  have hl : n2 = (xs.drop n).length := by rw [List.length_drop]; exact h2
  refine ⟨F_reads hF' (fun W h => h.take_ n hn), ⟨hne.imp id (fun h => by rw [h, List.drop_nil]), Nat.lt_of_lt_of_le hold hu.size, A2, c2, ?_, by rw [← hl]; omega, ?_⟩, hu⟩
  · have := hB.set_ 0 (.slice A2 n2 c2)
    rw [hl] at this ⊢
    exact this
  · rw [← hl, hA2, h2]
    rw [hA2, h2] at hF'
    exact F_reads hF' (fun W h => h.drop_ n hn hc)
theorem take_short (h : EyeIs w g ab xs bl) (n : Int) (hn : (xs.length : Int) < n) : Calls Tryz.prog 99 #[ptr g, .int .i64 n] w fun e w' => e = .panicked sightP ∧ w' = w := by
  obtain ⟨A, c, hB, hc, hF⟩ := h.ex
  have hc0 : w.cell? ⟨g, 0, none⟩ = some (.slice A xs.length c) := hB.cell 0
  have d1 : decide (n ≤ (xs.length : Int)) = false := decide_eq_false (by omega)
  clear h hB hF
  go_enter Tryz.func99, Tryz.ntmps99
  go_wp2_with fail
  refine (must_false w).mono ?_
  rintro e w1 ⟨rfl, rfl⟩
  go_wp2_with fail
  exact ⟨rfl, rfl, rfl⟩
theorem take_ok (h : EyeIs w g ab xs bl) (n : Nat) (hn : n ≤ xs.length) : Calls Tryz.prog 99 #[ptr g, .int .i64 (n : Int)] w fun e w' => ∃ A1 c1, e = .returned (.slice A1 n c1) ∧ n ≤ c1 ∧ Kd.F (Kd.int .u8) w' (· = ab) A1 n (xs.take n) ∧ EyeIs w' g ab (xs.drop n) bl ∧ Upd w w' (· = g) := by
  obtain ⟨A, c, hB, hc, hF⟩ := h.ex
  have hne := h.ne; have hold := h.old
  have hm := (reads_F hF).2.1
  have hc0 : w.cell? ⟨g, 0, none⟩ = some (.slice A xs.length c) := hB.cell 0
  have hfz := hB.frozen 0
  have d1 : decide ((n : Int) ≤ (xs.length : Int)) = true := decide_eq_true (by omega)
  have hnc : n ≤ c := by omega
  have hu : ∀ v : Value, Upd w (w.setCell ⟨g, 0, none⟩ v) (· = g) := fun v => (Upd.refl w (· = g)).setCell (p := ⟨g, 0, none⟩) (.inl rfl) v
  have HB := Lib.hid hB; have HF := Lib.hid hF; have HU := Lib.hid hu; have HNE := Lib.hid hne; have HC := Lib.hid hc; have HOL := Lib.hid hold
  clear h hB hF hu hne hold
  go_enter Tryz.func99, Tryz.ntmps99
  go_wp2_with fail
  refine (must_true w).mono ?_
  rintro e w1 ⟨rfl, rfl⟩
  by_cases hcn : c = n
  · have hD := take_done (n := n) (n2 := 0) (c2 := 0) HB.out HNE.out HOL.out HF.out hn HC.out (by omega) (by omega) (A2 := A) (by rw [if_pos hcn])
    have HD := Lib.hid hD; clear hD
    subst hcn
    go_wp2
    go_ret
    exact ⟨A, c, rfl, Nat.le_refl _, HD.out⟩
  · have hD := take_done (n := n) (n2 := xs.length - n) (c2 := c - n) HB.out HNE.out HOL.out HF.out hn HC.out rfl rfl (A2 := A.map (·.add n)) (by rw [if_neg hcn])
    have HD := Lib.hid hD; clear hD
    go_wp2
    go_ret
    exact ⟨A, c, rfl, hnc, HD.out⟩
def numOf (xs : List Int) (many : Nat) : Nat := leNum (xs.take many)
theorem number_short (h : EyeIs w g ab xs bl) (n : Nat) (hn : xs.length < n) : Calls Tryz.prog 95 #[ptr g, .int .i64 (n : Int)] w fun e w' => e = .panicked sightP ∧ w' = w := by
  have ht := take_short h (n : Int) (by omega)
  have HT := Lib.hid ht
  clear h ht
  go_enter Tryz.func95, Tryz.ntmps95
  go_wp2_with fail
  refine HT.out.mono ?_
  rintro e w1 ⟨rfl, rfl⟩
  go_wp2_with fail
  exact ⟨rfl, rfl, rfl⟩
def NumA (w1 : World) (ys : List Int) (nv kv : Value) (wr : World) : Prop := ∃ k : Nat, kv = .int .i64 k ∧ k ≤ ys.length ∧ nv = .int .u64 (leNum (ys.take k) : Nat) ∧ wr = w1
theorem number_ok (h : EyeIs w g ab xs bl) (hx : bytesOk xs) (n : Nat) (hn : n ≤ xs.length) (h8 : n ≤ 8) : Calls Tryz.prog 95 #[ptr g, .int .i64 (n : Int)] w fun e w' => e = .returned (.int .u64 (numOf xs n : Nat)) ∧ EyeIs w' g ab (xs.drop n) bl ∧ Upd w w' (· = g) := by
  have ht := take_ok h n hn
  have HT := Lib.hid ht
  clear h ht
  go_enter Tryz.func95, Tryz.ntmps95
  go_wp2_with fail
  refine HT.out.mono ?_
  rintro e w1 ⟨A1, c1, rfl, hc1, hF1, hE1, hu1⟩
  have HR := Lib.hid (reads_F hF1)
  have HE := Lib.hid (And.intro hE1 hu1)
  have hyl : (xs.take n).length = n := by rw [List.length_take]; omega
  have hyb : bytesOk (xs.take n) := fun x hx' => hx x (List.mem_of_mem_take hx')
  obtain ⟨ys, hys⟩ : ∃ ys, xs.take n = ys := ⟨_, rfl⟩
  rw [hys] at HR hyl hyb
  have HYB := Lib.hid hyb
  have HYS := Lib.hid (show numOf xs n = leNum ys by unfold numOf; rw [hys])
  clear hF1 hE1 hu1 hx hys hyb HT
  subst hyl
  go_wp2
  go_loopw [4, 5, 6, 11] (fun nv _ _ kv wr => NumA w1 ys nv kv wr) (fun _ _ _ k _ => ys.length - (intOf k).toNat)
  case atStart => exact ⟨0, rfl, Nat.zero_le _, rfl, rfl⟩
  case round =>
    obtain ⟨k, rfl, hk, rfl, hw⟩ := hrel
    replace hw := hw.symm
    subst hw
    by_cases hlt : k < ys.length
    · obtain ⟨ad, hA, hcell⟩ := HR.out.at_ (k : Int) (by omega) (by omega)
      subst hA
      rw [rd_nat ys hlt] at hcell
      simp only [Int.toNat_natCast] at hcell
      have hb := HYB.out ys[k] (List.getElem_mem hlt)
      obtain ⟨b, hbe⟩ : ∃ b : Nat, ys[k] = b := ⟨ys[k].toNat, by omega⟩
      have hsn := leNum_snoc (ys.take k) ys[k]
      rw [← List.take_succ_eq_append_getElem hlt, List.length_take, Nat.min_eq_left (by omega), hbe, Int.toNat_natCast] at hsn
      have hlt2 := leNum_lt (ys.take k) (fun x hx => HYB.out x (List.mem_of_mem_take hx))
      rw [List.length_take, Nat.min_eq_left (by omega)] at hlt2
      have hj := or_join (k := k) (acc := leNum (ys.take k)) (b := b) (by omega) hlt2 (by omega)
      rw [hbe] at hcell
      have HJ := Lib.hid hj; have HSN := Lib.hid hsn
      clear hb hbe hsn hlt2 hj
      go_wp2
      go_roundw
      case rel => exact ⟨k + 1, by go_num, by omega, by rw [HSN.out, HJ.out], rfl⟩
      case measure => simp [intOf]; omega
    · obtain rfl : k = ys.length := by omega
      rw [List.take_length]
      go_wp2
      go_ret
      refine ⟨?_, HE.out⟩
      rw [HYS.out]
      rfl
end
end Go.Proofs.YtgmlenpcchhmbaaGreat.P
end
section
set_option linter.unusedVariables false
set_option linter.unusedSimpArgs false
namespace Go.Proofs.YtgmlenpcchhmbaaGreat.P
open Go.RowKit Go.Proofs.YtgmlenpcchhmbaaGreatW.PrintWords Go.Proofs.YtgmlenpcchhmbaaGreatW.PrintLast Go.Proofs.YtgmlenpcchhmbaaGreatW.PrintMore
section
variable {w : World} {g ab : Nat} {xs xs' : List Int} {A : Option Addr} {n c : Nat} {x : Int} {v0 : Value} {older : List PanicEntry}
theorem seeI_blind (h : EyeIs w g ab xs true) (f : Fn) (fi ca : Array Value) : Calls Tryz.prog 93 #[ptr g, .func f fi ca] w fun e w' => e = .returned (.int .i64 0) ∧ Below w.heap.size w w' := by
  obtain ⟨A, c, hB, hc, hF⟩ := h.ex
  have hc1 : w.cell? ⟨g, 1, none⟩ = some (.bool true) := hB.cell 1
  obtain ⟨w1, hw1⟩ : ∃ w1, (w.alloc (.cells #[ptr g] 80)).alloc (.cells #[.int .i64 0] 2) = w1 := ⟨_, rfl⟩
  have hb1 : Below w.heap.size w w1 := hw1 ▸ ((Below.refl _ _).alloc (Nat.le_refl _) _).alloc (by simp) _
  have h0 : w1.cell? ⟨w.heap.size, 0, none⟩ = some (ptr g) := hw1 ▸ ((Blk.new w 80 #[ptr g]).alloc _).cell 0
  have hx : Blk w1 (w.heap.size + 1) 2 #[.int .i64 0] := by
    have := Blk.new (w.alloc (.cells #[ptr g] 80)) 2 #[.int .i64 0]
    rw [hw1] at this
    simpa using this
  have hx0 : w1.cell? ⟨w.heap.size + 1, 0, none⟩ = some (.int .i64 0) := hx.cell 0
  have hxz := hx.frozen 0
  have hc1' := pw_cell_below hb1 hc1
  have HX := Lib.hid hx
  clear h hB hF hx
  go_enter_defers Tryz.func93, Tryz.ntmps93
  go_wp2
  have hxs : (w1.setCell ⟨w.heap.size + 1, 0, none⟩ (.int .i64 0)).cell? ⟨w.heap.size + 1, 0, none⟩ = some (.int .i64 0) := (HX.out.set_ 0 (.int .i64 0)).cell 0
  simp [bodyPostD, Leaves, results, Tryz.results93, go_sem, hxs]
  exact hb1.setCell (p := ⟨w.heap.size + 1, 0, none⟩) (Nat.le_succ _) _
theorem seeI1_idle (bw bx be : Nat) (w : World) : CallsD Tryz.prog 138 #[ptr bw, ptr bx, ptr be] .returning w fun e u' w' => e = .returned (.tuple #[]) ∧ u' = .returning ∧ w' = w := by
  refine callsD_of_wpS Tryz.func138 rfl fun c₀ cs hu => ?_
  apply wpS_seq
  apply wpS_region
  simp [wpOpsS, go_sem, recoverD, hu, Tryz.ntmps138, Exit.thenS]
  apply wpS_seq
  apply wpS_region
  simp [wpOpsS, go_sem, Exit.thenS]
  refine wpS_cond (t := false) (by simp [Act.eval, Array.replicate]) ?_
  simp only [Bool.false_eq_true, if_false]
  refine wpS_of_wp (wp_skip ?_)
  cases c₀
  simp_all [bodyPostS, results, Tryz.results138]
set_option maxRecDepth 100000 in
theorem seeI1_catch (bw bx be : Nat) (w : World) (hw : w.cell? ⟨bw, 0, none⟩ = some (.slice A n c)) (hx : Blk w bx 2 #[.int .i64 x]) (he : w.cell? ⟨be, 0, none⟩ = some (ptr g)) (hg : Blk w g 137 #[v0, .bool false]) :
    CallsD Tryz.prog 138 #[ptr bw, ptr bx, ptr be] (.panicking ({ v := .iface 170 (.agg #[]), recovered := false } :: older)) w fun e u' w' => e = .returned (.tuple #[]) ∧ u' = .panicking ({ v := .iface 170 (.agg #[]), recovered := true } :: older) ∧ Caught w w' g bx (.slice A n c) (.int .i64 0) 2 := by
  have hgx : g ≠ bx := hg.ne_ hx (by decide)
  refine callsD_of_wpS Tryz.func138 rfl fun c₀ cs hu => ?_
  apply wpS_seq
  apply wpS_region
  simp [wpOpsS, go_sem, recoverD, hu, Tryz.ntmps138, Exit.thenS, rep23]
  apply wpS_seq
  apply wpS_region
  simp [wpOpsS, go_sem, Exit.thenS]
  refine wpS_cond (t := true) (by simp [Act.eval, Array.replicate]) ?_
  simp only [if_true]
  refine wpS_of_wp ?_
  obtain ⟨w1, hw1⟩ : ∃ w1, w.alloc (.cells #[] 170) = w1 := ⟨_, rfl⟩
  have hb1 : Below w.heap.size w w1 := hw1 ▸ (Below.refl _ _).alloc (Nat.le_refl _) _
  have hw' := pw_cell_below hb1 hw
  have he' := pw_cell_below hb1 he
  have hx1 := hx.below hb1 hx.lt
  have hg1 := hg.below hb1 hg.lt
  obtain ⟨w2, hw2⟩ : ∃ w2, w1.setCell ⟨bx, 0, none⟩ (.int .i64 0) = w2 := ⟨_, rfl⟩
  have hu2 : Upd w1 w2 (· = bx) := hw2 ▸ (Upd.refl w1 (· = bx)).setCell (p := ⟨bx, 0, none⟩) (.inl rfl) _
  have hx2 : Blk w2 bx 2 #[.int .i64 0] := hw2 ▸ hx1.set_ 0 (.int .i64 0)
  have hg2 := hg1.upd hu2 hgx
  obtain ⟨w3, hw3⟩ : ∃ w3, w2.setCell ⟨g, 0, none⟩ (.slice A n c) = w3 := ⟨_, rfl⟩
  have hu3 : Upd w2 w3 (· = g) := hw3 ▸ (Upd.refl w2 (· = g)).setCell (p := ⟨g, 0, none⟩) (.inl rfl) _
  have hg3 : Blk w3 g 137 #[.slice A n c, .bool false] := hw3 ▸ hg2.set_ 0 (.slice A n c)
  obtain ⟨w4, hw4⟩ : ∃ w4, w3.setCell ⟨g, 1, none⟩ (.bool true) = w4 := ⟨_, rfl⟩
  have hu4 : Upd w3 w4 (· = g) := hw4 ▸ (Upd.refl w3 (· = g)).setCell (p := ⟨g, 1, none⟩) (.inl rfl) _
  have hg4 : Blk w4 g 137 #[.slice A n c, .bool true] := hw4 ▸ hg3.set_ 1 (.bool true)
  have hx4 := (hx2.upd hu3 hgx.symm).upd hu4 hgx.symm
  have hC : Caught w w4 g bx (.slice A n c) (.int .i64 0) 2 := ⟨(((Upd.of_below hb1 _).trans (hu2.mono fun _ _ h => .inr h)).trans (hu3.mono fun _ _ h => .inl h)).trans (hu4.mono fun _ _ h => .inl h), hg4, hx4⟩
  have HC := Lib.hid hC
  have hxc : w1.cell? ⟨bx, 0, none⟩ = some (.int .i64 x) := hx1.cell 0
  have hxz := hx1.frozen 0
  have hgc : w2.cell? ⟨g, 0, none⟩ = some v0 := hg2.cell 0
  have hgz := hg2.frozen 0
  have hgc3 : w3.cell? ⟨g, 1, none⟩ = some (.bool false) := hg3.cell 1
  have hgz3 := hg3.frozen 1
  have HU := Lib.hid hu
  clear hu hx hg hb1 hw he hx1 hg1 hu2 hx2 hg2 hu3 hg3 hu4 hg4 hx4 hC hgx
  have hta := sight_assert
  go_wp2_with fail
  have hu := HU.out
  cases c₀
  simp_all [bodyPostS, results, Tryz.results138]
  exact HC.out
set_option maxRecDepth 100000 in
theorem seeI_ok (h : EyeIs w g ab xs false) (gf : Nat) (caps : Array Value) (eg : ∀ args w, (callFunc gf args).run Tryz.prog w = .ok (.enter gf args) w) (v : Int)
    (hf : ∀ W, EyeIs W g ab xs false → Below w.heap.size w W → Calls Tryz.prog gf caps W fun e w' => e = .returned (.int .i64 v) ∧ EyeIs w' g ab xs' false ∧ Upd W w' (· = g)) :
    Calls Tryz.prog 93 #[ptr g, .func (.func gf) #[] caps] w fun e w' => e = .returned (.int .i64 v) ∧ EyeIs w' g ab xs' false ∧ Upd w w' (· = g) := by
  obtain ⟨A, c, hB, hc, hF⟩ := h.ex
  obtain ⟨w1, hw1⟩ : ∃ w1, (w.alloc (.cells #[ptr g] 80)).alloc (.cells #[.int .i64 0] 2) = w1 := ⟨_, rfl⟩
  have hb1 : Below w.heap.size w w1 := hw1 ▸ ((Below.refl _ _).alloc (Nat.le_refl _) _).alloc (by simp) _
  have h0 : w1.cell? ⟨w.heap.size, 0, none⟩ = some (ptr g) := hw1 ▸ ((Blk.new w 80 #[ptr g]).alloc _).cell 0
  have hx : Blk w1 (w.heap.size + 1) 2 #[.int .i64 0] := by
    have := Blk.new (w.alloc (.cells #[ptr g] 80)) 2 #[.int .i64 0]
    rw [hw1] at this
    simpa using this
  have hB1 := hB.below hb1 hB.lt
  have hc0 : w1.cell? ⟨g, 0, none⟩ = some (.slice A xs.length c) := hB1.cell 0
  have hc1 : w1.cell? ⟨g, 1, none⟩ = some (.bool false) := hB1.cell 1
  obtain ⟨w2, hw2⟩ : ∃ w2, w1.alloc (.cells #[.slice A xs.length c] 23) = w2 := ⟨_, rfl⟩
  have hb2 : Below w.heap.size w w2 := hw2 ▸ hb1.alloc hb1.size _
  have hx2 : Blk w2 (w.heap.size + 1) 2 #[.int .i64 0] := hw2 ▸ hx.alloc _
  have hcl := hf w2 (h.below hb2) hb2
  have hlt := h.lt
  have HCL := Lib.hid hcl; have HX := Lib.hid (And.intro hx2 (And.intro hb2 (And.intro h.old hlt)))
  have hmf : ∀ (fn : Fn) (first cap : Array Value) (w : World), (Instr.makeFunc fn first cap).run Tryz.prog w = .ok (.func fn first cap) w := fun _ _ _ _ => rfl
  clear hB hF hf hx hB1 hcl hx2 hb2 hlt h
  go_enter_defers Tryz.func93, Tryz.ntmps93
  go_wp2_with fail
  refine HCL.out.mono ?_
  rintro e w3 ⟨rfl, hE3, hu3⟩
  have hX3 := HX.out.1.upd hu3 (fun e => by have := HX.out.2.2.2; omega)
  have hx3c : w3.cell? ⟨w.heap.size + 1, 0, none⟩ = some (.int .i64 0) := hX3.cell 0
  have hx3z := hX3.frozen 0
  obtain ⟨w4, hw4⟩ : ∃ w4, w3.setCell ⟨w.heap.size + 1, 0, none⟩ (.int .i64 v) = w4 := ⟨_, rfl⟩
  have hX4 : Blk w4 (w.heap.size + 1) 2 #[.int .i64 v] := hw4 ▸ hX3.set_ 0 (.int .i64 v)
  have hu4 : Upd w3 w4 (· = w.heap.size + 1) := hw4 ▸ (Upd.refl w3 (· = w.heap.size + 1)).setCell (p := ⟨w.heap.size + 1, 0, none⟩) (.inl rfl) _
  have HE := Lib.hid (And.intro hE3 (And.intro hu3 (And.intro hX4 hu4)))
  clear hE3 hu3 hX3 hX4 hu4 HCL
  go_wp2_with fail
  refine leaves_cons (f := 138) (args := #[ptr w1.heap.size, ptr (w.heap.size + 1), ptr w.heap.size]) (by simp) (by simp [go_sem]) ?_
  refine (seeI1_idle _ _ _ _).mono ?_
  rintro e u' w'' ⟨rfl, rfl, rfl⟩
  obtain ⟨hE3, hu3, hX4, hu4⟩ := HE.out
  obtain ⟨_, hb2, hold, hlt⟩ := HX.out
  have hxs := hX4.cell 0
  simp at hxs
  have hE4 := hE3.upd hu4 (fun e => by omega) (fun e => by omega)
  simp [Leaves, settle, results, Tryz.results93, go_sem, hxs]
  refine ⟨hE4, ?_⟩
  have hU : Upd w3 w'' (fun k => k = w.heap.size + 1) := hu4
  refine ⟨(hu4.os.trans hu3.os).trans hb2.os, (hu4.tape.trans hu3.tape).trans hb2.tape, (hu4.output.trans hu3.output).trans hb2.output, Nat.le_trans hb2.size (Nat.le_trans hu3.size hu4.size), fun k hk hn => ?_⟩
  have h1 := hb2.block k hk
  have h2 := hu3.block k (Nat.lt_of_lt_of_le hk hb2.size) hn
  have h3 := hu4.block k (Nat.lt_of_lt_of_le hk (Nat.le_trans hb2.size hu3.size)) (by omega)
  exact h3.trans (h2.trans h1)
set_option maxRecDepth 100000 in
theorem seeI_bad (h : EyeIs w g ab xs false) (gf : Nat) (caps : Array Value) (eg : ∀ args w, (callFunc gf args).run Tryz.prog w = .ok (.enter gf args) w)
    (hf : ∀ W, EyeIs W g ab xs false → Below w.heap.size w W → Calls Tryz.prog gf caps W fun e w' => e = .panicked sightP ∧ (∃ v0, Blk w' g 137 #[v0, .bool false]) ∧ Upd W w' (· = g)) :
    Calls Tryz.prog 93 #[ptr g, .func (.func gf) #[] caps] w fun e w' => e = .returned (.int .i64 0) ∧ EyeIs w' g ab xs true ∧ Upd w w' (· = g) := by
  obtain ⟨A, c, hB, hc, hF⟩ := h.ex
  obtain ⟨w1, hw1⟩ : ∃ w1, (w.alloc (.cells #[ptr g] 80)).alloc (.cells #[.int .i64 0] 2) = w1 := ⟨_, rfl⟩
  have hb1 : Below w.heap.size w w1 := hw1 ▸ ((Below.refl _ _).alloc (Nat.le_refl _) _).alloc (by simp) _
  have h0B : Blk w1 w.heap.size 80 #[ptr g] := hw1 ▸ ((Blk.new w 80 #[ptr g]).alloc _)
  have h0 : w1.cell? ⟨w.heap.size, 0, none⟩ = some (ptr g) := h0B.cell 0
  have hx : Blk w1 (w.heap.size + 1) 2 #[.int .i64 0] := by
    have := Blk.new (w.alloc (.cells #[ptr g] 80)) 2 #[.int .i64 0]
    rw [hw1] at this
    simpa using this
  have hs1 : w1.heap.size = w.heap.size + 2 := by rw [← hw1]; simp
  have hB1 := hB.below hb1 hB.lt
  have hc0 : w1.cell? ⟨g, 0, none⟩ = some (.slice A xs.length c) := hB1.cell 0
  have hc1 : w1.cell? ⟨g, 1, none⟩ = some (.bool false) := hB1.cell 1
  obtain ⟨w2, hw2⟩ : ∃ w2, w1.alloc (.cells #[.slice A xs.length c] 23) = w2 := ⟨_, rfl⟩
  have hb2 : Below w.heap.size w w2 := hw2 ▸ hb1.alloc hb1.size _
  have hx2 : Blk w2 (w.heap.size + 1) 2 #[.int .i64 0] := hw2 ▸ hx.alloc _
  have h02 : Blk w2 w.heap.size 80 #[ptr g] := hw2 ▸ h0B.alloc _
  have hw22 : Blk w2 w1.heap.size 23 #[.slice A xs.length c] := hw2 ▸ Blk.new w1 23 _
  have hcl := hf w2 (h.below hb2) hb2
  have hlt := h.lt
  have HCL := Lib.hid hcl; have HX := Lib.hid (And.intro hx2 (And.intro hb2 (And.intro h (And.intro hlt (And.intro h02 (And.intro hw22 hs1))))))
  have hmf : ∀ (fn : Fn) (first cap : Array Value) (w : World), (Instr.makeFunc fn first cap).run Tryz.prog w = .ok (.func fn first cap) w := fun _ _ _ _ => rfl
  have HFC := Lib.hid (And.intro hF hc)
  clear hB hF hf hx hB1 hcl hx2 hb2 hlt h h0B h02 hw22 hs1 hc
  go_enter_defers Tryz.func93, Tryz.ntmps93
  go_wp2_with fail
  refine HCL.out.mono ?_
  rintro e w3 ⟨rfl, ⟨v0, hE3⟩, hu3⟩
  have HE := Lib.hid (And.intro hE3 hu3)
  clear hE3 hu3 HCL
  go_wp2_with fail
  obtain ⟨hE3, hu3⟩ := HE.out
  obtain ⟨hx2, hb2, h, hlt, h02, hw22, hs1⟩ := HX.out
  have hx3 := hx2.upd hu3 (fun e => by omega)
  have h03 := h02.upd hu3 (fun e => by omega)
  have hw3 := hw22.upd hu3 (fun e => by omega)
  refine leaves_cons (f := 138) (args := #[ptr w1.heap.size, ptr (w.heap.size + 1), ptr w.heap.size]) (by simp) (by simp [go_sem]) ?_
  refine (seeI1_catch w1.heap.size (w.heap.size + 1) w.heap.size w3 (hw3.cell 0) hx3 (h03.cell 0) hE3).mono ?_
  rintro e u' w4 ⟨rfl, rfl, hC⟩
  have hxs := hC.res.cell 0
  simp at hxs
  simp [Leaves, settle, results, Tryz.results93, go_sem, hxs]
  have hU : Upd w w4 (· = g) := by
    have hu4 := hC.upd
    refine ⟨(hu4.os.trans hu3.os).trans hb2.os, (hu4.tape.trans hu3.tape).trans hb2.tape, (hu4.output.trans hu3.output).trans hb2.output, Nat.le_trans hb2.size (Nat.le_trans hu3.size hu4.size), fun k hk hn => ?_⟩
    have h1 := hb2.block k hk
    have h2 := hu3.block k (Nat.lt_of_lt_of_le hk hb2.size) hn
    have h3 := hu4.block k (Nat.lt_of_lt_of_le hk (Nat.le_trans hb2.size hu3.size)) (by rintro (e | e) <;> omega)
    exact h3.trans (h2.trans h1)
  refine ⟨⟨h.ne, Nat.lt_of_lt_of_le h.old hU.size, A, c, hC.eye, HFC.out.2, ?_⟩, hU⟩
  rcases h.ne with hne | hnil
  · exact Kd.F_step HFC.out.1 (fun k hk hlt => hU.block k hlt (fun e => hne (hk ▸ e)))
  · rw [hnil]; exact F_zero A
end
end Go.Proofs.YtgmlenpcchhmbaaGreat.P
end
section
set_option linter.unusedVariables false
set_option linter.unusedSimpArgs false
namespace Go.Proofs.YtgmlenpcchhmbaaGreat.P
open Go.RowKit Go.Proofs.YtgmlenpcchhmbaaGreatW.PrintWords Go.Proofs.YtgmlenpcchhmbaaGreatW.PrintLast Go.Proofs.YtgmlenpcchhmbaaGreatW.PrintMore
abbrev Sight := List Int × Bool
def sInt (s : Sight) : Int × Sight := if s.2 = true ∨ s.1.length < 8 then (0, (s.1, true)) else (i64 (numOf s.1 8), (s.1.drop 8, false))
theorem sInt_bad {s : Sight} (h : s.2 = true ∨ s.1.length < 8) : sInt s = (0, (s.1, true)) := if_pos h
theorem sInt_ok {xs : List Int} (h : 8 ≤ xs.length) : sInt (xs, false) = (i64 (numOf xs 8), (xs.drop 8, false)) := if_neg (by simp; omega)
theorem bytesOk_drop {xs : List Int} (h : bytesOk xs) (n : Nat) : bytesOk (xs.drop n) := fun x hx => h x (List.mem_of_mem_drop hx)
theorem bytesOk_take {xs : List Int} (h : bytesOk xs) (n : Nat) : bytesOk (xs.take n) := fun x hx => h x (List.mem_of_mem_take hx)
theorem numOf_lt {xs : List Int} (h : bytesOk xs) (n : Nat) : numOf xs n < 256 ^ n := by
  unfold numOf
  refine Nat.lt_of_lt_of_le (leNum_lt _ (bytesOk_take h n)) (Nat.pow_le_pow_right (by decide) ?_)
  rw [List.length_take]; omega
theorem i64_wrap {n : Nat} (h : n < 18446744073709551616) : IntKind.i64.wrap (n : Int) = i64 n := by
  rw [Go.IntWalk.i64_left]
  unfold i64 wrap64
  split <;> omega
section
variable {w : World} {g ab be : Nat} {xs : List Int}
theorem int1_bad (h : EyeIs w g ab xs false) (he : w.cell? ⟨be, 0, none⟩ = some (ptr g)) (hl : xs.length < 8) : Calls Tryz.prog 94 #[ptr be] w fun e w' => e = .panicked sightP ∧ (∃ v0, Blk w' g 137 #[v0, .bool false]) ∧ Upd w w' (· = g) := by
  have hn := number_short h 8 hl
  obtain ⟨A, c, hB, _, _⟩ := h.ex
  have HN := Lib.hid hn; have HB := Lib.hid hB
  clear h hn hB
  go_enter Tryz.func94, Tryz.ntmps94
  go_wp2_with fail
  refine HN.out.mono ?_
  rintro e w1 ⟨rfl, rfl⟩
  go_wp2_with fail
  exact ⟨rfl, rfl, ⟨_, HB.out⟩, Upd.refl _ _⟩
theorem int1_ok (h : EyeIs w g ab xs false) (hx : bytesOk xs) (he : w.cell? ⟨be, 0, none⟩ = some (ptr g)) (hl : 8 ≤ xs.length) : Calls Tryz.prog 94 #[ptr be] w fun e w' => e = .returned (.int .i64 (i64 (numOf xs 8))) ∧ EyeIs w' g ab (xs.drop 8) false ∧ Upd w w' (· = g) := by
  have hn := number_ok h hx 8 hl (by omega)
  have hi := i64_wrap (n := numOf xs 8) (numOf_lt hx 8)
  generalize numOf xs 8 = m at *
  have HN := Lib.hid hn
  clear h hn hx
  go_enter Tryz.func94, Tryz.ntmps94
  go_wp2_with fail
  refine HN.out.mono ?_
  rintro e w1 ⟨rfl, hE, hu⟩
  go_wp2_with fail
  go_ret
  exact ⟨rfl, hE, hu⟩
theorem entersI : ∀ args w, (callFunc 94 args).run Tryz.prog w = .ok (.enter 94 args) w := enters_of Tryz.func94 (by kernel_rfl) rfl
theorem flInt_any (s : Sight) (h : EyeIs w g ab s.1 s.2) (hx : bytesOk s.1) : Calls Tryz.prog 49 #[ptr g] w fun e w' => e = .returned (.int .i64 (sInt s).1) ∧ EyeIs w' g ab (sInt s).2.1 (sInt s).2.2 ∧ Upd w w' (· = g) := by
  obtain ⟨xs, bl⟩ := s
  obtain ⟨w1, hw1⟩ : ∃ w1, w.alloc (.cells #[ptr g] 80) = w1 := ⟨_, rfl⟩
  have hb1 : Below w.heap.size w w1 := hw1 ▸ (Below.refl _ _).alloc (Nat.le_refl _) _
  have h0B : Blk w1 w.heap.size 80 #[ptr g] := hw1 ▸ Blk.new w 80 #[ptr g]
  have h0 : w1.cell? ⟨w.heap.size, 0, none⟩ = some (ptr g) := h0B.cell 0
  have h1 := h.below hb1
  have hlt := h.lt
  have hmf : ∀ (fn : Fn) (first cap : Array Value) (w : World), (Instr.makeFunc fn first cap).run Tryz.prog w = .ok (.func fn first cap) w := fun _ _ _ _ => rfl
  have hs : Calls Tryz.prog 93 #[ptr g, .func (.func 94) #[] #[ptr w.heap.size]] w1 fun e w' => e = .returned (.int .i64 (sInt (xs, bl)).1) ∧ EyeIs w' g ab (sInt (xs, bl)).2.1 (sInt (xs, bl)).2.2 ∧ Upd w1 w' (· = g) := by
    cases bl with
    | true =>
      rw [sInt_bad (.inl rfl)]
      exact (seeI_blind h1 _ _ _).mono fun e w' ⟨he, hb⟩ => ⟨he, h1.below hb, Upd.of_below hb _⟩
    | false =>
      by_cases hl : xs.length < 8
      · rw [sInt_bad (.inr hl)]
        exact seeI_bad h1 94 _ entersI fun W hE hb => int1_bad hE (pw_cell_below (hb) h0) hl
      · rw [sInt_ok (by omega)]
        exact seeI_ok h1 94 _ entersI _ fun W hE hb => int1_ok hE hx (pw_cell_below hb h0) (by omega)
  have HS := Lib.hid hs; have HB := Lib.hid hb1
  clear h h0B h1 hs hb1
  generalize sInt (xs, bl) = r at *
  go_enter Tryz.func49, Tryz.ntmps49
  go_wp2_with fail
  refine HS.out.mono ?_
  rintro e w2 ⟨rfl, hE, hu⟩
  go_wp2_with fail
  go_ret
  exact ⟨rfl, hE, (Upd.of_below HB.out _).trans hu⟩
theorem flDone_any (s : Sight) (h : EyeIs w g ab s.1 s.2) : Calls Tryz.prog 51 #[ptr g] w fun e w' => e = .returned (.int .i64 (if s.2 = true ∨ s.1.length ≠ 0 then 20 else 0)) ∧ w' = w := by
  obtain ⟨xs, bl⟩ := s
  obtain ⟨A, c, hB, _, _⟩ := h.ex
  have hc0 : w.cell? ⟨g, 0, none⟩ = some (.slice A xs.length c) := hB.cell 0
  have hc1 : w.cell? ⟨g, 1, none⟩ = some (.bool bl) := hB.cell 1
  clear h hB
  go_enter Tryz.func51, Tryz.ntmps51
  cases bl with
  | true =>
    rw [if_pos (.inl rfl)]
    go_wp2
    go_ret
    exact ⟨rfl, rfl⟩
  | false =>
    by_cases hl : xs.length = 0
    · rw [if_neg (by simp [hl])]
      have d1 : decide ((0 : Int) < (xs.length : Int)) = false := decide_eq_false (by omega)
      go_wp2
      go_ret
      exact ⟨rfl, rfl⟩
    · rw [if_pos (.inr hl)]
      have d1 : decide ((0 : Int) < (xs.length : Int)) = true := decide_eq_true (by omega)
      go_wp2
      go_ret
      exact ⟨rfl, rfl⟩
theorem flOpen_any (A : Option Addr) (c : Nat) (xs : List Int) (w : World) (hr : ReadsInt w .u8 A xs.length xs) (hb : xs.length * 1 ≤ 140737488355328) :
    Calls Tryz.prog 48 #[.slice A xs.length c] w fun e w' => ∃ g ab, e = .returned (ptr g) ∧ w.heap.size ≤ g ∧ w.heap.size ≤ ab ∧ EyeIs w' g ab xs false ∧ Below w.heap.size w w' := by
  have hcl := bclone_any A c xs w hr hb
  have HCL := Lib.hid hcl
  clear hr hb hcl
  go_enter Tryz.func48, Tryz.ntmps48
  go_wp2_with fail
  refine HCL.out.mono ?_
  rintro e w1 ⟨v, rfl, ho, hb1⟩
  have HO := Lib.hid (And.intro ho hb1)
  obtain ⟨A1, c1, rfl, _⟩ := own_reads ho
  clear ho hb1 HCL
  go_wp2_with fail
  go_ret
  obtain ⟨ho, hb1⟩ := HO.out
  obtain ⟨w2, hw2⟩ : ∃ w2, w1.alloc (.cells #[.slice A1 xs.length c1, .bool false] 137) = w2 := ⟨_, rfl⟩
  rw [hw2]
  have hb2 : Below w1.heap.size w1 w2 := hw2 ▸ (Below.refl _ _).alloc (Nat.le_refl _) _
  have hB2 : Blk w2 w1.heap.size 137 #[.slice A1 xs.length c1, .bool false] := hw2 ▸ Blk.new w1 137 _
  have hE : ∃ ab, w.heap.size ≤ ab ∧ EyeIs w2 w1.heap.size ab xs false := by
    obtain ⟨A0, c0, e0, hrd⟩ := own_reads ho
    injection e0 with e1 e2 e3
    subst e1 e3
    by_cases hx : xs = []
    · subst hx
      refine ⟨w1.heap.size, hb1.size, .inr rfl, hB2.lt, A1, c1, hB2, by simp, F_zero _⟩
    · have hcc : xs.length ≤ c1 := by
        obtain ⟨_, h⟩ := ho
        rcases h with ⟨e, hn⟩ | ⟨g', cap, cur, e, h1, h2, h3, _⟩
        · exact absurd (List.eq_nil_of_length_eq_zero hn) hx
        · injection e with _ _ e; omega
      obtain ⟨ad, hA, hcell⟩ := hrd.2.2 (by have := List.length_pos_iff.2 hx; omega)
      subst hA
      have hlt : ad.block < w1.heap.size := by
        have := hcell 0 (List.length_pos_iff.2 hx)
        exact World.block_lt_of_cell? w1 _ this
      refine ⟨ad.block, (ho.ge ad.block rfl).1, .inl (by omega), Nat.lt_of_lt_of_le hlt hb2.size, some ad, c1, hB2, hcc, ?_⟩
      intro W hW
      refine C_of_int ⟨hrd.1, hrd.2.1, fun hn => ⟨ad, rfl, fun j hj => ?_⟩⟩
      have hj' := (hrd.below hb2).2.2 hn
      obtain ⟨ad', e, h⟩ := hj'
      injection e with e
      subst e
      have hc := h j hj
      have hbl : (ad.add j).block = ad.block := by unfold Addr.add; split <;> rfl
      exact (World.cell?_of_block (w := w2) (hW _ hbl (World.block_lt_of_cell? w2 _ hc))).trans hc
  obtain ⟨ab, hab, hE⟩ := hE
  exact ⟨w1.heap.size, ab, rfl, hb1.size, hab, hE, hb1.trans (hb2.mono hb1.size)⟩
end
end Go.Proofs.YtgmlenpcchhmbaaGreat.P
end
section
set_option linter.unusedVariables false
set_option linter.unusedSimpArgs false
namespace Go.Proofs.YtgmlenpcchhmbaaGreat.P
open Go.RowKit Go.Proofs.YtgmlenpcchhmbaaGreatW.PrintWords Go.Proofs.YtgmlenpcchhmbaaGreatW.PrintLast Go.Proofs.YtgmlenpcchhmbaaGreatW.PrintMore
section
variable {w : World} {g ab : Nat} {xs xs' : List Int} {A : Option Addr} {n c : Nat} {x : ByteArray} {v0 : Value} {older : List PanicEntry}
theorem seeT_blind (h : EyeIs w g ab xs true) (f : Fn) (fi ca : Array Value) : Calls Tryz.prog 96 #[ptr g, .func f fi ca] w fun e w' => e = .returned (.string ⟨#[]⟩) ∧ Below w.heap.size w w' := by
  obtain ⟨A, c, hB, hc, hF⟩ := h.ex
  have hc1 : w.cell? ⟨g, 1, none⟩ = some (.bool true) := hB.cell 1
  obtain ⟨w1, hw1⟩ : ∃ w1, (w.alloc (.cells #[ptr g] 80)).alloc (.cells #[.string ⟨#[]⟩] 9) = w1 := ⟨_, rfl⟩
  have hb1 : Below w.heap.size w w1 := hw1 ▸ ((Below.refl _ _).alloc (Nat.le_refl _) _).alloc (by simp) _
  have h0 : w1.cell? ⟨w.heap.size, 0, none⟩ = some (ptr g) := hw1 ▸ ((Blk.new w 80 #[ptr g]).alloc _).cell 0
  have hx : Blk w1 (w.heap.size + 1) 9 #[.string ⟨#[]⟩] := by
    have := Blk.new (w.alloc (.cells #[ptr g] 80)) 9 #[.string ⟨#[]⟩]
    rw [hw1] at this
    simpa using this
  have hx0 : w1.cell? ⟨w.heap.size + 1, 0, none⟩ = some (.string ⟨#[]⟩) := hx.cell 0
  have hxz := hx.frozen 0
  have hc1' := pw_cell_below hb1 hc1
  have HX := Lib.hid hx
  clear h hB hF hx
  go_enter_defers Tryz.func96, Tryz.ntmps96
  go_wp2
  have hxs : (w1.setCell ⟨w.heap.size + 1, 0, none⟩ (.string ⟨#[]⟩)).cell? ⟨w.heap.size + 1, 0, none⟩ = some (.string ⟨#[]⟩) := (HX.out.set_ 0 (.string ⟨#[]⟩)).cell 0
  simp [bodyPostD, Leaves, results, Tryz.results96, go_sem, hxs]
  exact hb1.setCell (p := ⟨w.heap.size + 1, 0, none⟩) (Nat.le_succ _) _
theorem seeT1_idle (bw bx be : Nat) (w : World) : CallsD Tryz.prog 139 #[ptr bw, ptr bx, ptr be] .returning w fun e u' w' => e = .returned (.tuple #[]) ∧ u' = .returning ∧ w' = w := by
  refine callsD_of_wpS Tryz.func139 rfl fun c₀ cs hu => ?_
  apply wpS_seq
  apply wpS_region
  simp [wpOpsS, go_sem, recoverD, hu, Tryz.ntmps139, Exit.thenS]
  apply wpS_seq
  apply wpS_region
  simp [wpOpsS, go_sem, Exit.thenS]
  refine wpS_cond (t := false) (by simp [Act.eval, Array.replicate]) ?_
  simp only [Bool.false_eq_true, if_false]
  refine wpS_of_wp (wp_skip ?_)
  cases c₀
  simp_all [bodyPostS, results, Tryz.results139]
set_option maxRecDepth 100000 in
theorem seeT1_catch (bw bx be : Nat) (w : World) (hw : w.cell? ⟨bw, 0, none⟩ = some (.slice A n c)) (hx : Blk w bx 9 #[.string x]) (he : w.cell? ⟨be, 0, none⟩ = some (ptr g)) (hg : Blk w g 137 #[v0, .bool false]) :
    CallsD Tryz.prog 139 #[ptr bw, ptr bx, ptr be] (.panicking ({ v := .iface 170 (.agg #[]), recovered := false } :: older)) w fun e u' w' => e = .returned (.tuple #[]) ∧ u' = .panicking ({ v := .iface 170 (.agg #[]), recovered := true } :: older) ∧ Caught w w' g bx (.slice A n c) (.string ⟨#[]⟩) 9 := by
  have hgx : g ≠ bx := hg.ne_ hx (by decide)
  refine callsD_of_wpS Tryz.func139 rfl fun c₀ cs hu => ?_
  apply wpS_seq
  apply wpS_region
  simp [wpOpsS, go_sem, recoverD, hu, Tryz.ntmps139, Exit.thenS, rep23]
  apply wpS_seq
  apply wpS_region
  simp [wpOpsS, go_sem, Exit.thenS]
  refine wpS_cond (t := true) (by simp [Act.eval, Array.replicate]) ?_
  simp only [if_true]
  refine wpS_of_wp ?_
  obtain ⟨w1, hw1⟩ : ∃ w1, w.alloc (.cells #[] 170) = w1 := ⟨_, rfl⟩
  have hb1 : Below w.heap.size w w1 := hw1 ▸ (Below.refl _ _).alloc (Nat.le_refl _) _
  have hw' := pw_cell_below hb1 hw
  have he' := pw_cell_below hb1 he
  have hx1 := hx.below hb1 hx.lt
  have hg1 := hg.below hb1 hg.lt
  obtain ⟨w2, hw2⟩ : ∃ w2, w1.setCell ⟨bx, 0, none⟩ (.string ⟨#[]⟩) = w2 := ⟨_, rfl⟩
  have hu2 : Upd w1 w2 (· = bx) := hw2 ▸ (Upd.refl w1 (· = bx)).setCell (p := ⟨bx, 0, none⟩) (.inl rfl) _
  have hx2 : Blk w2 bx 9 #[.string ⟨#[]⟩] := hw2 ▸ hx1.set_ 0 (.string ⟨#[]⟩)
  have hg2 := hg1.upd hu2 hgx
  obtain ⟨w3, hw3⟩ : ∃ w3, w2.setCell ⟨g, 0, none⟩ (.slice A n c) = w3 := ⟨_, rfl⟩
  have hu3 : Upd w2 w3 (· = g) := hw3 ▸ (Upd.refl w2 (· = g)).setCell (p := ⟨g, 0, none⟩) (.inl rfl) _
  have hg3 : Blk w3 g 137 #[.slice A n c, .bool false] := hw3 ▸ hg2.set_ 0 (.slice A n c)
  obtain ⟨w4, hw4⟩ : ∃ w4, w3.setCell ⟨g, 1, none⟩ (.bool true) = w4 := ⟨_, rfl⟩
  have hu4 : Upd w3 w4 (· = g) := hw4 ▸ (Upd.refl w3 (· = g)).setCell (p := ⟨g, 1, none⟩) (.inl rfl) _
  have hg4 : Blk w4 g 137 #[.slice A n c, .bool true] := hw4 ▸ hg3.set_ 1 (.bool true)
  have hx4 := (hx2.upd hu3 hgx.symm).upd hu4 hgx.symm
  have hC : Caught w w4 g bx (.slice A n c) (.string ⟨#[]⟩) 9 := ⟨(((Upd.of_below hb1 _).trans (hu2.mono fun _ _ h => .inr h)).trans (hu3.mono fun _ _ h => .inl h)).trans (hu4.mono fun _ _ h => .inl h), hg4, hx4⟩
  have HC := Lib.hid hC
  have hxc : w1.cell? ⟨bx, 0, none⟩ = some (.string x) := hx1.cell 0
  have hxz := hx1.frozen 0
  have hgc : w2.cell? ⟨g, 0, none⟩ = some v0 := hg2.cell 0
  have hgz := hg2.frozen 0
  have hgc3 : w3.cell? ⟨g, 1, none⟩ = some (.bool false) := hg3.cell 1
  have hgz3 := hg3.frozen 1
  have HU := Lib.hid hu
  clear hu hx hg hb1 hw he hx1 hg1 hu2 hx2 hg2 hu3 hg3 hu4 hg4 hx4 hC hgx
  have hta := sight_assert
  go_wp2_with fail
  have hu := HU.out
  cases c₀
  simp_all [bodyPostS, results, Tryz.results139]
  exact HC.out
set_option maxRecDepth 100000 in
theorem seeT_ok (h : EyeIs w g ab xs false) (gf : Nat) (caps : Array Value) (eg : ∀ args w, (callFunc gf args).run Tryz.prog w = .ok (.enter gf args) w) (v : ByteArray)
    (hf : ∀ W, EyeIs W g ab xs false → Below w.heap.size w W → Calls Tryz.prog gf caps W fun e w' => e = .returned (.string v) ∧ EyeIs w' g ab xs' false ∧ Upd W w' (· = g)) :
    Calls Tryz.prog 96 #[ptr g, .func (.func gf) #[] caps] w fun e w' => e = .returned (.string v) ∧ EyeIs w' g ab xs' false ∧ Upd w w' (· = g) := by
  obtain ⟨A, c, hB, hc, hF⟩ := h.ex
  obtain ⟨w1, hw1⟩ : ∃ w1, (w.alloc (.cells #[ptr g] 80)).alloc (.cells #[.string ⟨#[]⟩] 9) = w1 := ⟨_, rfl⟩
  have hb1 : Below w.heap.size w w1 := hw1 ▸ ((Below.refl _ _).alloc (Nat.le_refl _) _).alloc (by simp) _
  have h0 : w1.cell? ⟨w.heap.size, 0, none⟩ = some (ptr g) := hw1 ▸ ((Blk.new w 80 #[ptr g]).alloc _).cell 0
  have hx : Blk w1 (w.heap.size + 1) 9 #[.string ⟨#[]⟩] := by
    have := Blk.new (w.alloc (.cells #[ptr g] 80)) 9 #[.string ⟨#[]⟩]
    rw [hw1] at this
    simpa using this
  have hB1 := hB.below hb1 hB.lt
  have hc0 : w1.cell? ⟨g, 0, none⟩ = some (.slice A xs.length c) := hB1.cell 0
  have hc1 : w1.cell? ⟨g, 1, none⟩ = some (.bool false) := hB1.cell 1
  obtain ⟨w2, hw2⟩ : ∃ w2, w1.alloc (.cells #[.slice A xs.length c] 23) = w2 := ⟨_, rfl⟩
  have hb2 : Below w.heap.size w w2 := hw2 ▸ hb1.alloc hb1.size _
  have hx2 : Blk w2 (w.heap.size + 1) 9 #[.string ⟨#[]⟩] := hw2 ▸ hx.alloc _
  have hcl := hf w2 (h.below hb2) hb2
  have hlt := h.lt
  have HCL := Lib.hid hcl; have HX := Lib.hid (And.intro hx2 (And.intro hb2 (And.intro h.old hlt)))
  have hmf : ∀ (fn : Fn) (first cap : Array Value) (w : World), (Instr.makeFunc fn first cap).run Tryz.prog w = .ok (.func fn first cap) w := fun _ _ _ _ => rfl
  clear hB hF hf hx hB1 hcl hx2 hb2 hlt h
  go_enter_defers Tryz.func96, Tryz.ntmps96
  go_wp2_with fail
  refine HCL.out.mono ?_
  rintro e w3 ⟨rfl, hE3, hu3⟩
  have hX3 := HX.out.1.upd hu3 (fun e => by have := HX.out.2.2.2; omega)
  have hx3c : w3.cell? ⟨w.heap.size + 1, 0, none⟩ = some (.string ⟨#[]⟩) := hX3.cell 0
  have hx3z := hX3.frozen 0
  obtain ⟨w4, hw4⟩ : ∃ w4, w3.setCell ⟨w.heap.size + 1, 0, none⟩ (.string v) = w4 := ⟨_, rfl⟩
  have hX4 : Blk w4 (w.heap.size + 1) 9 #[.string v] := hw4 ▸ hX3.set_ 0 (.string v)
  have hu4 : Upd w3 w4 (· = w.heap.size + 1) := hw4 ▸ (Upd.refl w3 (· = w.heap.size + 1)).setCell (p := ⟨w.heap.size + 1, 0, none⟩) (.inl rfl) _
  have HE := Lib.hid (And.intro hE3 (And.intro hu3 (And.intro hX4 hu4)))
  clear hE3 hu3 hX3 hX4 hu4 HCL
  go_wp2_with fail
  refine leaves_cons (f := 139) (args := #[ptr w1.heap.size, ptr (w.heap.size + 1), ptr w.heap.size]) (by simp) (by simp [go_sem]) ?_
  refine (seeT1_idle _ _ _ _).mono ?_
  rintro e u' w'' ⟨rfl, rfl, rfl⟩
  obtain ⟨hE3, hu3, hX4, hu4⟩ := HE.out
  obtain ⟨_, hb2, hold, hlt⟩ := HX.out
  have hxs := hX4.cell 0
  simp at hxs
  have hE4 := hE3.upd hu4 (fun e => by omega) (fun e => by omega)
  simp [Leaves, settle, results, Tryz.results96, go_sem, hxs]
  refine ⟨hE4, ?_⟩
  have hU : Upd w3 w'' (fun k => k = w.heap.size + 1) := hu4
  refine ⟨(hu4.os.trans hu3.os).trans hb2.os, (hu4.tape.trans hu3.tape).trans hb2.tape, (hu4.output.trans hu3.output).trans hb2.output, Nat.le_trans hb2.size (Nat.le_trans hu3.size hu4.size), fun k hk hn => ?_⟩
  have h1 := hb2.block k hk
  have h2 := hu3.block k (Nat.lt_of_lt_of_le hk hb2.size) hn
  have h3 := hu4.block k (Nat.lt_of_lt_of_le hk (Nat.le_trans hb2.size hu3.size)) (by omega)
  exact h3.trans (h2.trans h1)
set_option maxRecDepth 100000 in
theorem seeT_bad (h : EyeIs w g ab xs false) (gf : Nat) (caps : Array Value) (eg : ∀ args w, (callFunc gf args).run Tryz.prog w = .ok (.enter gf args) w)
    (hf : ∀ W, EyeIs W g ab xs false → Below w.heap.size w W → Calls Tryz.prog gf caps W fun e w' => e = .panicked sightP ∧ (∃ v0, Blk w' g 137 #[v0, .bool false]) ∧ Upd W w' (· = g)) :
    Calls Tryz.prog 96 #[ptr g, .func (.func gf) #[] caps] w fun e w' => e = .returned (.string ⟨#[]⟩) ∧ EyeIs w' g ab xs true ∧ Upd w w' (· = g) := by
  obtain ⟨A, c, hB, hc, hF⟩ := h.ex
  obtain ⟨w1, hw1⟩ : ∃ w1, (w.alloc (.cells #[ptr g] 80)).alloc (.cells #[.string ⟨#[]⟩] 9) = w1 := ⟨_, rfl⟩
  have hb1 : Below w.heap.size w w1 := hw1 ▸ ((Below.refl _ _).alloc (Nat.le_refl _) _).alloc (by simp) _
  have h0B : Blk w1 w.heap.size 80 #[ptr g] := hw1 ▸ ((Blk.new w 80 #[ptr g]).alloc _)
  have h0 : w1.cell? ⟨w.heap.size, 0, none⟩ = some (ptr g) := h0B.cell 0
  have hx : Blk w1 (w.heap.size + 1) 9 #[.string ⟨#[]⟩] := by
    have := Blk.new (w.alloc (.cells #[ptr g] 80)) 9 #[.string ⟨#[]⟩]
    rw [hw1] at this
    simpa using this
  have hs1 : w1.heap.size = w.heap.size + 2 := by rw [← hw1]; simp
  have hB1 := hB.below hb1 hB.lt
  have hc0 : w1.cell? ⟨g, 0, none⟩ = some (.slice A xs.length c) := hB1.cell 0
  have hc1 : w1.cell? ⟨g, 1, none⟩ = some (.bool false) := hB1.cell 1
  obtain ⟨w2, hw2⟩ : ∃ w2, w1.alloc (.cells #[.slice A xs.length c] 23) = w2 := ⟨_, rfl⟩
  have hb2 : Below w.heap.size w w2 := hw2 ▸ hb1.alloc hb1.size _
  have hx2 : Blk w2 (w.heap.size + 1) 9 #[.string ⟨#[]⟩] := hw2 ▸ hx.alloc _
  have h02 : Blk w2 w.heap.size 80 #[ptr g] := hw2 ▸ h0B.alloc _
  have hw22 : Blk w2 w1.heap.size 23 #[.slice A xs.length c] := hw2 ▸ Blk.new w1 23 _
  have hcl := hf w2 (h.below hb2) hb2
  have hlt := h.lt
  have HCL := Lib.hid hcl; have HX := Lib.hid (And.intro hx2 (And.intro hb2 (And.intro h (And.intro hlt (And.intro h02 (And.intro hw22 hs1))))))
  have hmf : ∀ (fn : Fn) (first cap : Array Value) (w : World), (Instr.makeFunc fn first cap).run Tryz.prog w = .ok (.func fn first cap) w := fun _ _ _ _ => rfl
  have HFC := Lib.hid (And.intro hF hc)
  clear hB hF hf hx hB1 hcl hx2 hb2 hlt h h0B h02 hw22 hs1 hc
  go_enter_defers Tryz.func96, Tryz.ntmps96
  go_wp2_with fail
  refine HCL.out.mono ?_
  rintro e w3 ⟨rfl, ⟨v0, hE3⟩, hu3⟩
  have HE := Lib.hid (And.intro hE3 hu3)
  clear hE3 hu3 HCL
  go_wp2_with fail
  obtain ⟨hE3, hu3⟩ := HE.out
  obtain ⟨hx2, hb2, h, hlt, h02, hw22, hs1⟩ := HX.out
  have hx3 := hx2.upd hu3 (fun e => by omega)
  have h03 := h02.upd hu3 (fun e => by omega)
  have hw3 := hw22.upd hu3 (fun e => by omega)
  refine leaves_cons (f := 139) (args := #[ptr w1.heap.size, ptr (w.heap.size + 1), ptr w.heap.size]) (by simp) (by simp [go_sem]) ?_
  refine (seeT1_catch w1.heap.size (w.heap.size + 1) w.heap.size w3 (hw3.cell 0) hx3 (h03.cell 0) hE3).mono ?_
  rintro e u' w4 ⟨rfl, rfl, hC⟩
  have hxs := hC.res.cell 0
  simp at hxs
  simp [Leaves, settle, results, Tryz.results96, go_sem, hxs]
  have hU : Upd w w4 (· = g) := by
    have hu4 := hC.upd
    refine ⟨(hu4.os.trans hu3.os).trans hb2.os, (hu4.tape.trans hu3.tape).trans hb2.tape, (hu4.output.trans hu3.output).trans hb2.output, Nat.le_trans hb2.size (Nat.le_trans hu3.size hu4.size), fun k hk hn => ?_⟩
    have h1 := hb2.block k hk
    have h2 := hu3.block k (Nat.lt_of_lt_of_le hk hb2.size) hn
    have h3 := hu4.block k (Nat.lt_of_lt_of_le hk (Nat.le_trans hb2.size hu3.size)) (by rintro (e | e) <;> omega)
    exact h3.trans (h2.trans h1)
  refine ⟨⟨h.ne, Nat.lt_of_lt_of_le h.old hU.size, A, c, hC.eye, HFC.out.2, ?_⟩, hU⟩
  rcases h.ne with hne | hnil
  · exact Kd.F_step HFC.out.1 (fun k hk hlt => hU.block k hlt (fun e => hne (hk ▸ e)))
  · rw [hnil]; exact F_zero A
end
end Go.Proofs.YtgmlenpcchhmbaaGreat.P
end
section
set_option linter.unusedVariables false
set_option linter.unusedSimpArgs false
namespace Go.Proofs.YtgmlenpcchhmbaaGreat.P
open Go.RowKit Go.Proofs.YtgmlenpcchhmbaaGreatW.PrintWords Go.Proofs.YtgmlenpcchhmbaaGreatW.PrintLast Go.Proofs.YtgmlenpcchhmbaaGreatW.PrintMore
def textAt (xs : List Int) : Bool := decide (4 ≤ xs.length) && decide (numOf xs 4 ≤ 1048576) && decide (numOf xs 4 ≤ xs.length - 4)
def sText (s : Sight) : ByteArray × Sight := if s.2 = true ∨ textAt s.1 = false then (⟨#[]⟩, (s.1, true)) else (strOfNums ((s.1.drop 4).take (numOf s.1 4)), ((s.1.drop 4).drop (numOf s.1 4), false))
theorem sText_bad {s : Sight} (h : s.2 = true ∨ textAt s.1 = false) : sText s = (⟨#[]⟩, (s.1, true)) := if_pos h
theorem sText_ok {xs : List Int} (h : textAt xs = true) : sText (xs, false) = (strOfNums ((xs.drop 4).take (numOf xs 4)), ((xs.drop 4).drop (numOf xs 4), false)) := if_neg (by simp [h])
section
variable {w : World} {g ab be : Nat} {xs : List Int}
theorem text1_bad (h : EyeIs w g ab xs false) (hx : bytesOk xs) (he : w.cell? ⟨be, 0, none⟩ = some (ptr g)) (hbg : be ≠ g) (hl : textAt xs = false) : Calls Tryz.prog 97 #[ptr be] w fun e w' => e = .panicked sightP ∧ (∃ v0, Blk w' g 137 #[v0, .bool false]) ∧ Upd w w' (· = g) := by
  by_cases h4 : 4 ≤ xs.length
  · have hn := number_ok h hx 4 h4 (by omega)
    have hm := numOf_lt hx 4
    have hm4 : (256 : Nat) ^ 4 = 4294967296 := by decide
    unfold textAt at hl
    rw [decide_eq_true h4, Bool.true_and] at hl
    obtain ⟨m, hme⟩ : ∃ m, numOf xs 4 = m := ⟨_, rfl⟩
    rw [hme] at hn hm hl
    have HN := Lib.hid hn
    clear h hn hx hme
    by_cases h1 : m ≤ 1048576
    · have h2 : xs.length - 4 < m := by
        rw [decide_eq_true h1, Bool.true_and] at hl
        have := of_decide_eq_false hl
        omega
      have d1 : decide ((m : Int) ≤ 1048576) = true := decide_eq_true (by omega)
      go_enter Tryz.func97, Tryz.ntmps97
      go_wp2_with fail
      refine HN.out.mono ?_
      rintro e w1 ⟨rfl, hE, hu⟩
      have he1 : w1.cell? ⟨be, 0, none⟩ = some (ptr g) := (World.cell?_of_block (w := w) (hu.block be (World.block_lt_of_cell? w ⟨be, 0, none⟩ he) hbg)).trans he
      have HT := Lib.hid (take_short hE (m : Int) (by rw [List.length_drop]; omega))
      obtain ⟨A, c, hB, _, _⟩ := hE.ex
      have HB := Lib.hid hB; have HU := Lib.hid hu
      clear hE hu HN hB
      go_wp2_with fail
      refine (must_true w1).mono ?_
      rintro e w2 ⟨rfl, rfl⟩
      go_wp2_with fail
      refine HT.out.mono ?_
      rintro e w3 ⟨rfl, rfl⟩
      go_wp2_with fail
      exact ⟨rfl, rfl, ⟨_, HB.out⟩, HU.out⟩
    · have d1 : decide ((m : Int) ≤ 1048576) = false := decide_eq_false (by omega)
      go_enter Tryz.func97, Tryz.ntmps97
      go_wp2_with fail
      refine HN.out.mono ?_
      rintro e w1 ⟨rfl, hE, hu⟩
      obtain ⟨A, c, hB, _, _⟩ := hE.ex
      have HB := Lib.hid hB; have HU := Lib.hid hu
      clear hE hu HN hB
      go_wp2_with fail
      refine (must_false w1).mono ?_
      rintro e w2 ⟨rfl, rfl⟩
      go_wp2_with fail
      exact ⟨rfl, rfl, ⟨_, HB.out⟩, HU.out⟩
  · have hn := number_short h 4 (by omega)
    obtain ⟨A, c, hB, _, _⟩ := h.ex
    have HN := Lib.hid hn; have HB := Lib.hid hB
    clear h hn hB
    go_enter Tryz.func97, Tryz.ntmps97
    go_wp2_with fail
    refine HN.out.mono ?_
    rintro e w1 ⟨rfl, rfl⟩
    go_wp2_with fail
    exact ⟨rfl, rfl, ⟨_, HB.out⟩, Upd.refl _ _⟩
theorem text1_ok (h : EyeIs w g ab xs false) (hx : bytesOk xs) (he : w.cell? ⟨be, 0, none⟩ = some (ptr g)) (hbg : be ≠ g) (hl : textAt xs = true) : Calls Tryz.prog 97 #[ptr be] w fun e w' => e = .returned (.string (strOfNums ((xs.drop 4).take (numOf xs 4)))) ∧ EyeIs w' g ab ((xs.drop 4).drop (numOf xs 4)) false ∧ Upd w w' (· = g) := by
  unfold textAt at hl
  simp only [Bool.and_eq_true, decide_eq_true_eq] at hl
  obtain ⟨⟨h4, h1⟩, h2⟩ := hl
  have hn := number_ok h hx 4 h4 (by omega)
  generalize numOf xs 4 = m at *
  have HN := Lib.hid hn
  clear h hn hx
  have d1 : decide ((m : Int) ≤ 1048576) = true := decide_eq_true (by omega)
  go_enter Tryz.func97, Tryz.ntmps97
  go_wp2_with fail
  refine HN.out.mono ?_
  rintro e w1 ⟨rfl, hE, hu⟩
  have he1 : w1.cell? ⟨be, 0, none⟩ = some (ptr g) := (World.cell?_of_block (w := w) (hu.block be (World.block_lt_of_cell? w ⟨be, 0, none⟩ he) hbg)).trans he
  have HT := Lib.hid (take_ok hE m (by rw [List.length_drop]; omega))
  have HU := Lib.hid hu
  clear hE hu HN
  go_wp2_with fail
  refine (must_true w1).mono ?_
  rintro e w2 ⟨rfl, rfl⟩
  go_wp2_with fail
  refine HT.out.mono ?_
  rintro e w3 ⟨A1, c1, rfl, hc1, hF, hE3, hu3⟩
  have hst := Kd.C_string (P := Tryz.prog) (src := 23) (dst := 9) (c := c1) Tryz.underlying23 Tryz.underlying5 Tryz.underlying9 (Kd.F_now hF)
  have HE := Lib.hid (And.intro hE3 hu3)
  clear hF hE3 hu3 HT
  go_wp2_with fail
  go_ret
  exact ⟨rfl, HE.out.1, HU.out.trans HE.out.2⟩
theorem entersT : ∀ args w, (callFunc 97 args).run Tryz.prog w = .ok (.enter 97 args) w := enters_of Tryz.func97 (by kernel_rfl) rfl
theorem flText_any (s : Sight) (h : EyeIs w g ab s.1 s.2) (hx : bytesOk s.1) : Calls Tryz.prog 50 #[ptr g] w fun e w' => e = .returned (.string (sText s).1) ∧ EyeIs w' g ab (sText s).2.1 (sText s).2.2 ∧ Upd w w' (· = g) := by
  obtain ⟨xs, bl⟩ := s
  obtain ⟨w1, hw1⟩ : ∃ w1, w.alloc (.cells #[ptr g] 80) = w1 := ⟨_, rfl⟩
  have hb1 : Below w.heap.size w w1 := hw1 ▸ (Below.refl _ _).alloc (Nat.le_refl _) _
  have h0B : Blk w1 w.heap.size 80 #[ptr g] := hw1 ▸ Blk.new w 80 #[ptr g]
  have h0 : w1.cell? ⟨w.heap.size, 0, none⟩ = some (ptr g) := h0B.cell 0
  have h1 := h.below hb1
  have hlt := h.lt
  have hne : w.heap.size ≠ g := by omega
  have hmf : ∀ (fn : Fn) (first cap : Array Value) (w : World), (Instr.makeFunc fn first cap).run Tryz.prog w = .ok (.func fn first cap) w := fun _ _ _ _ => rfl
  have hs : Calls Tryz.prog 96 #[ptr g, .func (.func 97) #[] #[ptr w.heap.size]] w1 fun e w' => e = .returned (.string (sText (xs, bl)).1) ∧ EyeIs w' g ab (sText (xs, bl)).2.1 (sText (xs, bl)).2.2 ∧ Upd w1 w' (· = g) := by
    cases bl with
    | true =>
      rw [sText_bad (.inl rfl)]
      exact (seeT_blind h1 _ _ _).mono fun e w' ⟨he, hb⟩ => ⟨he, h1.below hb, Upd.of_below hb _⟩
    | false =>
      cases hl : textAt xs with
      | false =>
        rw [sText_bad (.inr hl)]
        exact seeT_bad h1 97 _ entersT fun W hE hb => text1_bad hE hx (pw_cell_below hb h0) hne hl
      | true =>
        rw [sText_ok hl]
        exact seeT_ok h1 97 _ entersT _ fun W hE hb => text1_ok hE hx (pw_cell_below hb h0) hne hl
  have HS := Lib.hid hs; have HB := Lib.hid hb1
  clear h h0B h1 hs hb1 hne
  generalize sText (xs, bl) = r at *
  go_enter Tryz.func50, Tryz.ntmps50
  go_wp2_with fail
  refine HS.out.mono ?_
  rintro e w2 ⟨rfl, hE, hu⟩
  go_wp2_with fail
  go_ret
  exact ⟨rfl, hE, (Upd.of_below HB.out _).trans hu⟩
end
end Go.Proofs.YtgmlenpcchhmbaaGreat.P
end
section
set_option linter.unusedVariables false
set_option linter.unusedSimpArgs false
namespace Go.Proofs.YtgmlenpcchhmbaaGreat.P
open Go.RowKit Go.Shelf Go.Proofs.YtgmlenpcchhmbaaGreatW.PrintWords Go.Proofs.YtgmlenpcchhmbaaGreatW.PrintLast Go.Proofs.YtgmlenpcchhmbaaGreatW.PrintMore
def laidO (o : S63) : List Int := laidI o.f0 ++ laidTs [o.f1, o.f2] ++ laidI (wrap64 o.f3)
def laidOs (l : List S63) : List Int := (l.map laidO).flatten
theorem laidO_len (o : S63) : (laidO o).length ≤ 2097200 := by
  have := laidTs_len [o.f1, o.f2] 2
  unfold laidO
  rw [List.length_append, List.length_append, laidI_len, laidI_len]
  simp only [List.take_succ_cons, List.take_zero, List.length_cons, List.length_nil] at this
  omega
theorem laidOs_len (l : List S63) : (laidOs l).length ≤ 2097200 * l.length := by
  induction l with
  | nil => simp [laidOs]
  | cons x l ih => unfold laidOs at ih ⊢; rw [List.map_cons, List.flatten_cons, List.length_append, List.length_cons]; have := laidO_len x; omega
theorem laidOs_snoc (l : List S63) {k : Nat} (hk : k < l.length) : laidOs (l.take (k + 1)) = laidOs (l.take k) ++ laidO l[k] := by
  unfold laidOs
  rw [List.take_succ_eq_append_getElem hk, List.map_append, List.flatten_append]; simp
def laidOps (l : List S63) : List Int := laidI (l.length : Int) ++ laidOs l
set_option maxHeartbeats 2000000 in
set_option maxRecDepth 100000 in
theorem txput_any (A : Option Addr) (c : Nat) (ds : List S63) (w : World) (hr : Kd.C k63 w A ds.length ds) (hn : ds.length ≤ 1000) (hs : ∀ o ∈ ds, o.f1.size ≤ 140737488355328 ∧ o.f2.size ≤ 140737488355328) :
    Calls Tryz.prog 22 #[.slice A ds.length c] w fun e w' => ∃ v, e = .returned v ∧ RowB w' w.heap.size v (laidOps ds) ∧ Below w.heap.size w w' := by
  obtain ⟨w1, hw1⟩ : ∃ w1, w.alloc (.cells #[.slice none 0 0] 95) = w1 := ⟨_, rfl⟩
  have hb1 : Below w.heap.size w w1 := hw1 ▸ (Below.refl _ _).alloc (Nat.le_refl _) _
  have hP1 : PenIs w1 w.heap.size w.heap.size [] := hw1 ▸ PenIs.new w
  have hs1 : w.heap.size < w1.heap.size := hP1.lt
  obtain ⟨w2, hw2⟩ : ∃ w2, w1.alloc (.cells #[.int .i64 (ds.length : Int)] 2) = w2 := ⟨_, rfl⟩
  have hb2 : Below w1.heap.size w1 w2 := hw2 ▸ (Below.refl _ _).alloc (Nat.le_refl _) _
  have hlit : Blk w2 w1.heap.size 2 #[.int .i64 (ds.length : Int)] := hw2 ▸ Blk.new w1 2 _
  have hin := pnInt_any (some ⟨w1.heap.size, 0, none⟩) 1 [(ds.length : Int)] w2 (hP1.below hb2) (fun W hW => C_blkI [(ds.length : Int)] (hW.k _ _ _ (by decide) (by decide) hlit) (by simp)) (by simp)
  have HIN := Lib.hid hin
  have HX := Lib.hid (And.intro (hb1.trans (hb2.mono (Nat.le_of_lt hs1))) (And.intro hr (And.intro hs hs1)))
  clear hin hlit hb1 hb2 hP1 hs1 hr hs
  go_enter Tryz.func22, Tryz.ntmps22
  go_wp2_with fail
  refine HIN.out.mono ?_
  rintro e w3 ⟨rfl, hP3, hB3⟩
  have HN := Lib.hid (And.intro hP3 hB3)
  clear hP3 hB3
  go_wp2
  go_loopw [5, 15] (fun _ kv wr => ∃ k : Nat, kv = .int .i64 (k : Int) ∧ k ≤ ds.length ∧ RowKit.Hid (PenIs wr w.heap.size w.heap.size (laidI (ds.length : Int) ++ laidOs (ds.take k)) ∧ Below w.heap.size w wr)) (fun _ k _ => ds.length - (intOf k).toNat)
  case atStart => exact ⟨0, rfl, Nat.zero_le _, Lib.hid ⟨by simpa [laidOs, laidIs] using HN.out.1, HX.out.1.trans HN.out.2.b⟩⟩
  case round =>
    obtain ⟨k, rfl, hk, HP⟩ := hrel
    by_cases hlt : k < ds.length
    · obtain ⟨ad, hA, d0, d1, d2, d3⟩ := C_atO (Kd.C_below HX.out.2.1 HP.out.2) k hlt
      subst hA
      have hsn := laidOs_snoc ds hlt
      have hss := HX.out.2.2.1 ds[k] (List.getElem_mem hlt)
      have hlX : (laidI (ds.length : Int) ++ laidOs (ds.take k)).length ≤ 8 + 2097200 * 1000 := by
        rw [List.length_append, laidI_len]; have := laidOs_len (ds.take k); rw [List.length_take] at this; omega
      generalize ds[k] = x at *
      obtain ⟨x0, x1, x2, x3⟩ := x
      simp only at hss d0 d1 d2 d3
      obtain ⟨wb, hwb⟩ : ∃ wb, wr.alloc (.cells #[.int .i64 x0, .string x1, .string x2, .int .u64 x3] 63) = wb := ⟨_, rfl⟩
      have hBb : Below wr.heap.size wr wb := hwb ▸ (Below.refl _ _).alloc (Nat.le_refl _) _
      have hT : Blk wb wr.heap.size 63 #[.int .i64 x0, .string x1, .string x2, .int .u64 x3] := hwb ▸ Blk.new wr 63 _
      obtain ⟨wc, hwc⟩ : ∃ wc, wb.alloc (.cells #[.int .i64 x0] 2) = wc := ⟨_, rfl⟩
      have hBc : Below wb.heap.size wb wc := hwc ▸ (Below.refl _ _).alloc (Nat.le_refl _) _
      have hlit : Blk wc wb.heap.size 2 #[.int .i64 x0] := hwc ▸ Blk.new wb 2 _
      have hTc := hT.below hBc hT.lt
      have hbc : Below wr.heap.size wr wc := hBb.trans (hBc.mono hBb.size)
      have hge : w.heap.size ≤ wr.heap.size := HP.out.2.size
      have hin := pnInt_any (some ⟨wb.heap.size, 0, none⟩) 1 [x0] wc (HP.out.1.below hbc) (fun W hW => C_blkI [x0] (hW.k _ _ _ (by decide) (by decide) hlit) (by simp)) (by simp only [List.length_cons, List.length_nil]; omega)
      have hc00 : wb.cell? ⟨wr.heap.size, 0, none⟩ = some (.int .i64 x0) := hT.cell 0
      have HIN := Lib.hid hin
      have HD := Lib.hid (And.intro hsn (And.intro hss (And.intro hTc (And.intro (KB.of_below hbc hge) hlX))))
      clear hin hsn hss hT hTc hBb hBc hbc hlit hge hlX
      go_wp2_with fail
      refine HIN.out.mono ?_
      rintro e w5 ⟨rfl, hP5, hB5⟩
      have hT5 := hB5.k _ _ _ (by decide) (by decide) HD.out.2.2.1
      have hc51 : w5.cell? ⟨wr.heap.size, 1, none⟩ = some (.string x1) := hT5.cell 1
      have hc52 : w5.cell? ⟨wr.heap.size, 2, none⟩ = some (.string x2) := hT5.cell 2
      have hk5 : KB w.heap.size wr w5 := HD.out.2.2.2.1.trans hB5
      have hge5 : w.heap.size ≤ w5.heap.size := Nat.le_trans HP.out.2.size hk5.b.size
      obtain ⟨wd, hwd⟩ : ∃ wd, w5.alloc (.cells #[.string x1, .string x2] 9) = wd := ⟨_, rfl⟩
      have hBd : Below w5.heap.size w5 wd := hwd ▸ (Below.refl _ _).alloc (Nat.le_refl _) _
      have hlit : Blk wd w5.heap.size 9 #[.string x1, .string x2] := hwd ▸ Blk.new w5 9 _
      have hst := pnText_any (some ⟨w5.heap.size, 0, none⟩) 2 [x1, x2] wd (hP5.below hBd) (fun W hW => C_blkS [x1, x2] (hW.k _ _ _ (by decide) (by decide) hlit) (by simp)) (fun s hs => by simp only [List.mem_cons, List.not_mem_nil, or_false] at hs; rcases hs with rfl | rfl; exact HD.out.2.1.1; exact HD.out.2.1.2) (by have := HD.out.2.2.2.2; simp only [laidIs, List.map_cons, List.map_nil, List.flatten_cons, List.flatten_nil, List.append_nil, List.length_append, laidI_len, List.length_cons, List.length_nil] at *; omega)
      have HST := Lib.hid (And.intro hst (And.intro (hk5.trans (KB.of_below hBd hge5)) (hT5.below hBd hT5.lt)))
      clear hst hP5 hB5 hT5 hBd hlit hk5 hge5 hc00
      go_wp2_with fail
      refine HST.out.1.mono ?_
      rintro e w6 ⟨rfl, hP6, hB6⟩
      have hT6 := hB6.k _ _ _ (by decide) (by decide) HST.out.2.2
      have hc63 : w6.cell? ⟨wr.heap.size, 3, none⟩ = some (.int .u64 x3) := hT6.cell 3
      have hk6 : KB w.heap.size wr w6 := HST.out.2.1.trans hB6
      have hge6 : w.heap.size ≤ w6.heap.size := Nat.le_trans HP.out.2.size hk6.b.size
      obtain ⟨we, hwe⟩ : ∃ we, w6.alloc (.cells #[.int .i64 (wrap64 x3)] 2) = we := ⟨_, rfl⟩
      have hBe : Below w6.heap.size w6 we := hwe ▸ (Below.refl _ _).alloc (Nat.le_refl _) _
      have hlit : Blk we w6.heap.size 2 #[.int .i64 (wrap64 x3)] := hwe ▸ Blk.new w6 2 _
      have hin := pnInt_any (some ⟨w6.heap.size, 0, none⟩) 1 [wrap64 x3] we (hP6.below hBe) (fun W hW => C_blkI [wrap64 x3] (hW.k _ _ _ (by decide) (by decide) hlit) (by simp)) (by have := HD.out.2.2.2.2; have := laidTs_len [x1, x2] 2; simp only [List.take_succ_cons, List.take_zero, laidIs, List.map_cons, List.map_nil, List.flatten_cons, List.flatten_nil, List.append_nil, List.length_append, laidI_len, List.length_cons, List.length_nil] at *; omega)
      have HIN := Lib.hid (And.intro hin (hk6.trans (KB.of_below hBe hge6)))
      clear hin hP6 hB6 hT6 hBe hlit hk6 hge6 hc51 hc52
      go_wp2_with fail
      refine HIN.out.1.mono ?_
      rintro e w7 ⟨rfl, hP7, hB7⟩
      have HN7 := Lib.hid (And.intro hP7 (HP.out.2.trans (HIN.out.2.trans hB7).b))
      clear hP7 hB7
      go_wp2_with fail
      go_roundw
      case rel => exact ⟨k + 1, by go_num, by omega, Lib.hid ⟨by rw [HD.out.1]; simpa [laidIs, laidO, List.append_assoc] using HN7.out.1, HN7.out.2⟩⟩
      case measure => simp [intOf]; omega
    · obtain rfl : k = ds.length := by omega
      have hP := HP.out
      rw [List.take_length] at hP
      have hle := laidOs_len ds
      obtain ⟨Z, hZ⟩ : ∃ Z, laidOps ds = Z := ⟨_, rfl⟩
      rw [show laidI (ds.length : Int) ++ laidOs ds = Z from hZ] at hP
      have hbt := pnBytes_any wr hP.1 (by rw [← hZ]; unfold laidOps; rw [List.length_append, laidI_len]; omega)
      have HZ := Lib.hid hZ
      clear hZ hle
      have HBT := Lib.hid (And.intro hbt hP)
      clear hbt hP
      go_wp2_with fail
      refine HBT.out.1.mono ?_
      rintro e w4 ⟨v4, rfl, ho4, hb4⟩
      have HO := Lib.hid (And.intro ho4 hb4)
      obtain ⟨A5, c5, rfl⟩ := own_slice ho4
      clear ho4 hb4
      go_wp2
      go_ret
      exact ⟨_, rfl, by rw [HZ.out]; exact RowB.lower HO.out.1 HBT.out.2.2.size, HBT.out.2.2.trans (HO.out.2.mono HBT.out.2.2.size)⟩
def putOk (d : List S63) : Prop := d.length ≤ 1000 ∧ ∀ o ∈ d, o.f1.size ≤ 140737488355328 ∧ o.f2.size ≤ 140737488355328
instance (d : List S63) : Decidable (putOk d) := inferInstanceAs (Decidable (_ ∧ _))
def txn_Put.f (d : List S63) : Option (List Int) := if putOk d then some (laidOps d) else none
theorem txn_Put.calls (A0 : Option Addr) (c0 : Nat) (l0 : List S63) (r : List Int) (w : World) (hr0 : Kd.C k63 w A0 l0.length l0) (_hc0 : l0.length ≤ c0) (h : txn_Put.f l0 = some r) :
    Calls Tryz.prog 22 #[.slice A0 l0.length c0] w fun e w' => ∃ v0_ : Value, e = .returned (v0_) ∧ Kd.R (Kd.int .u8) 5 w' w.heap.size (fun _ => True) v0_ r ∧ Below w.heap.size w w' := by
  unfold txn_Put.f at h
  split at h
  · rename_i hc
    injection h with h
    subst h
    exact (txput_any A0 c0 l0 w hr0 hc.1 hc.2).mono fun e w' ⟨v, he, ho, hb⟩ => ⟨v, he, Kd.R_of_own ho (fun _ _ => trivial), hb⟩
  · cases h
end Go.Proofs.YtgmlenpcchhmbaaGreat.P
end
section
set_option linter.unusedVariables false
set_option linter.unusedSimpArgs false
namespace Go.Proofs.YtgmlenpcchhmbaaGreat.P
open Go.RowKit Go.Proofs.YtgmlenpcchhmbaaGreatW.PrintWords Go.Proofs.YtgmlenpcchhmbaaGreatW.PrintLast Go.Proofs.YtgmlenpcchhmbaaGreatW.PrintMore
attribute [local go_sem] max2_int min2_int max_two min_two max_three min_three max_four min_four   -- for this text's walks alone
def slices_Equal_byte_byte.l0 : Nat → List Int → List Int → Int → Int → Option (Bool)
 | 0, _, _, _, _ => none
 | k + 1, x0, x1, x12, x13 => if x13 < x12 then (if 0 ≤ x13 then (if x13 < (x0.length : Int) then (if x13 < (x1.length : Int) then (if (rd x0 x13) = (rd x1 x13) then (slices_Equal_byte_byte.l0 k x0 x1 x12 (wrap64 (x13 + 1))) else (some false)) else (none)) else (none)) else (none)) else (some true)
def slices_Equal_byte_byte.f (k : Nat) (l0 : List Int) (l1 : List Int) : Option (Bool) := if (l0.length : Int) = (l1.length : Int) then (slices_Equal_byte_byte.l0 k l0 l1 (l0.length : Int) 0) else (some false)
set_option maxHeartbeats 8000000 in
set_option maxRecDepth 100000 in
theorem slices_Equal_byte_byte.calls (k : Nat) (A0 : Option Addr) (c0 : Nat) (l0 : List Int) (A1 : Option Addr) (c1 : Nat) (l1 : List Int) (r : Bool) (w : World) (hr0 : Kd.C (Kd.int .u8) w A0 l0.length l0) (hc0 : l0.length ≤ c0) (hr1 : Kd.C (Kd.int .u8) w A1 l1.length l1) (hc1 : l1.length ≤ c1) (h : slices_Equal_byte_byte.f k l0 l1 = some r) :
  Calls Tryz.prog 52 #[.slice A0 l0.length c0, .slice A1 l1.length c1] w fun e w' => e = .returned (.bool r) ∧ Drawn0 w w' := by
 have HR0 := Aside0.mk hr0
 have HC0 := Aside0.mk hc0
 clear hr0 hc0
 have HR1 := Aside0.mk hr1
 have HC1 := Aside0.mk hc1
 clear hr1 hc1
 have H : (if (l0.length : Int) = (l1.length : Int) then (slices_Equal_byte_byte.l0 k l0 l1 (l0.length : Int) 0) else (some false)) = some r := h
 clear h
 by_cases c3 : (l0.length : Int) = (l1.length : Int)
 ·rw [if_pos c3] at H
  have c3b0 : ((l0.length : Int) == (l1.length : Int)) = true := beq_iff_eq.mpr c3
  have c3b1 : ((l0.length : Int) != (l1.length : Int)) = false := bne_eq_false_iff_eq.mpr c3
  have c3b2 : (l0.length == l1.length) = true := by first | simpa using c3 | (simp at c3 ⊢; omega)
  clear c3
  have H' := Aside0.mk H
  clear H
  go_enter Tryz.func52, Tryz.ntmps52
  go_wp2
  repeat (go_quiet (fail); try go_wp2)
  go_loopg [13] k (fun kq v13 w' => ∃ (x13_1 : Int), v13 = .int .i64 x13_1 ∧ Aside0 (slices_Equal_byte_byte.l0 kq l0 l1 (l0.length : Int) x13_1 = some r) ∧ Aside0 (kq ≤ k) ∧ Drawn0 w w')
  case atStart => exact ⟨(0), (by first | rfl | (rw [bl_gt] <;> rfl) | (simp; done) | (simp [*]; done)), H', ⟨Nat.le_refl _⟩, by repeat (first | exact Drawn0.refl _ | apply Drawn0.step)⟩
  case round =>
   clear H'
   try clear c1
   try clear p2
   try clear c3
   try clear c3b0
   try clear c3b1
   try clear c3b2
   obtain ⟨x13_1, rfl, HA, HK1, ⟨m1, rfl⟩⟩ := hrel
   cases gk with
   | zero => exact absurd HA.out (by simp [slices_Equal_byte_byte.l0])
   | succ k1 =>
    have H := HA.out
    clear HA
    simp only [slices_Equal_byte_byte.l0] at H
    by_cases c4 : x13_1 < (l0.length : Int)
    ·rw [if_pos c4] at H
     have c4b0 : decide (x13_1 < (l0.length : Int)) = true := decide_eq_true c4
     clear c4
     by_cases c5 : 0 ≤ x13_1
     ·rw [if_pos c5] at H
      have c5b0 : decide (0 ≤ x13_1) = true := decide_eq_true c5
      clear c5
      by_cases c6 : x13_1 < (l0.length : Int)
      ·rw [if_pos c6] at H
       have c6b0 : decide (x13_1 < (l0.length : Int)) = true := decide_eq_true c6
       clear c6
       by_cases c7 : x13_1 < (l1.length : Int)
       ·rw [if_pos c7] at H
        have c7b0 : decide (x13_1 < (l1.length : Int)) = true := decide_eq_true c7
        clear c7
        by_cases c8 : (rd l0 x13_1) = (rd l1 x13_1)
        ·rw [if_pos c8] at H
         have c8b0 : ((rd l0 x13_1) == (rd l1 x13_1)) = true := beq_iff_eq.mpr c8
         have c8b1 : ((rd l0 x13_1) != (rd l1 x13_1)) = false := bne_eq_false_iff_eq.mpr c8
         clear c8
         have H' := Aside0.mk H
         clear H
         have p109 : 0 ≤ (x13_1 : Int) := of_decide_eq_true (by first | (with_reducible assumption) | assumption)
         have q109 : x13_1 < (l0.length : Int) := of_decide_eq_true (by first | (with_reducible assumption) | assumption)
         obtain ⟨ad109, e109, hx109_0⟩ := Kd.at_int HR0.out x13_1 p109 q109
         cases e109
         replace p109 := eq_true p109
         replace q109 := eq_true q109
         have p110 : 0 ≤ (x13_1 : Int) := of_decide_eq_true (by first | (with_reducible assumption) | assumption)
         have q110 : x13_1 < (l1.length : Int) := of_decide_eq_true (by first | (with_reducible assumption) | assumption)
         obtain ⟨ad110, e110, hx110_0⟩ := Kd.at_int HR1.out x13_1 p110 q110
         cases e110
         replace p110 := eq_true p110
         replace q110 := eq_true q110
         go_wp2
         repeat (go_quiet (fail); try go_wp2)
         go_roundg k1
         case measure => have := HK1.out; omega
         case rel => exact ⟨(wrap64 (x13_1 + 1)), (by first | rfl | (rw [bl_gt] <;> rfl) | (simp; done) | (simp [*]; done)), H', ⟨by have := HK1.out; omega⟩, by repeat (first | exact Drawn0.refl _ | apply Drawn0.step)⟩
        ·rw [if_neg c8] at H
         have c8b0 : ((rd l0 x13_1) == (rd l1 x13_1)) = false := beq_eq_false_iff_ne.mpr c8
         have c8b1 : ((rd l0 x13_1) != (rd l1 x13_1)) = true := bne_iff_ne.mpr c8
         obtain rfl := Option.some.inj H
         have p109 : 0 ≤ (x13_1 : Int) := of_decide_eq_true (by first | (with_reducible assumption) | assumption)
         have q109 : x13_1 < (l0.length : Int) := of_decide_eq_true (by first | (with_reducible assumption) | assumption)
         obtain ⟨ad109, e109, hx109_0⟩ := Kd.at_int HR0.out x13_1 p109 q109
         cases e109
         replace p109 := eq_true p109
         replace q109 := eq_true q109
         have p110 : 0 ≤ (x13_1 : Int) := of_decide_eq_true (by first | (with_reducible assumption) | assumption)
         have q110 : x13_1 < (l1.length : Int) := of_decide_eq_true (by first | (with_reducible assumption) | assumption)
         obtain ⟨ad110, e110, hx110_0⟩ := Kd.at_int HR1.out x13_1 p110 q110
         cases e110
         replace p110 := eq_true p110
         replace q110 := eq_true q110
         go_wp2
         repeat (go_quiet (fail); try go_wp2)
         go_ret
         exact ⟨by first | rfl | (simp; done) | (simp [*]; done), by repeat (first | exact Drawn0.refl _ | apply Drawn0.step)⟩
       ·rw [if_neg c7] at H
        exact absurd H (by simp)
      ·rw [if_neg c6] at H
       exact absurd H (by simp)
     ·rw [if_neg c5] at H
      exact absurd H (by simp)
    ·rw [if_neg c4] at H
     have c4b0 : decide (x13_1 < (l0.length : Int)) = false := decide_eq_false c4
     clear c4
     obtain rfl := Option.some.inj H
     go_wp2
     repeat (go_quiet (fail); try go_wp2)
     go_ret
     exact ⟨by first | rfl | (simp; done) | (simp [*]; done), by repeat (first | exact Drawn0.refl _ | apply Drawn0.step)⟩
 ·rw [if_neg c3] at H
  have c3b0 : ((l0.length : Int) == (l1.length : Int)) = false := beq_eq_false_iff_ne.mpr c3
  have c3b1 : ((l0.length : Int) != (l1.length : Int)) = true := bne_iff_ne.mpr c3
  have c3b2 : (l0.length == l1.length) = false := by first | simpa using c3 | (simp at c3 ⊢; omega)
  obtain rfl := Option.some.inj H
  go_enter Tryz.func52, Tryz.ntmps52
  go_wp2
  repeat (go_quiet (fail); try go_wp2)
  go_ret
  exact ⟨by first | rfl | (simp; done) | (simp [*]; done), by repeat (first | exact Drawn0.refl _ | apply Drawn0.step)⟩
end Go.Proofs.YtgmlenpcchhmbaaGreat.P
end
section
set_option linter.unusedVariables false
set_option linter.unusedSimpArgs false
namespace Go.Proofs.YtgmlenpcchhmbaaGreat.P
open Go.RowKit Go.Proofs.YtgmlenpcchhmbaaGreatW.PrintWords Go.Proofs.YtgmlenpcchhmbaaGreatW.PrintLast Go.Proofs.YtgmlenpcchhmbaaGreatW.PrintMore
def u64c (x : Int) : Int := IntKind.u64.wrap x
def sOp (s : Sight) : S63 × Sight := (⟨(sInt s).1, (sText (sInt s).2).1, (sText (sText (sInt s).2).2).1, u64c (sInt (sText (sText (sInt s).2).2).2).1⟩, (sInt (sText (sText (sInt s).2).2).2).2)
def txLoop : Nat → Int → Sight → List S63 × Sight
  | 0, _, s => ([], s)
  | k + 1, n, s => if 0 < n then ((sOp s).1 :: (txLoop k (n - 1) (sOp s).2).1, (txLoop k (n - 1) (sOp s).2).2) else ([], s)
theorem sInt_le (s : Sight) : (sInt s).2.1.length ≤ s.1.length := by unfold sInt; split <;> simp
theorem sInt_bytes {s : Sight} (h : bytesOk s.1) : bytesOk (sInt s).2.1 := by unfold sInt; split; exact h; exact bytesOk_drop h _
theorem sText_le (s : Sight) : (sText s).2.1.length ≤ s.1.length := by
  unfold sText; split
  · exact Nat.le_refl _
  · simp only [List.length_drop]; omega
theorem sText_bytes {s : Sight} (h : bytesOk s.1) : bytesOk (sText s).2.1 := by unfold sText; split; exact h; exact bytesOk_drop (bytesOk_drop h _) _
theorem sText_size (s : Sight) : (sText s).1.size ≤ 1048576 := by
  unfold sText; split
  · simp [ByteArray.size]
  · rename_i h
    have : numOf s.1 4 ≤ 1048576 := by
      have h2 := (not_or.1 h).2
      unfold textAt at h2
      simp at h2
      omega
    have e : (strOfNums ((s.1.drop 4).take (numOf s.1 4))).size = ((s.1.drop 4).take (numOf s.1 4)).length := by
      rw [← data_length, strOfNums_data, List.length_map]
    rw [e, List.length_take]; omega
theorem sOp_le (s : Sight) : (sOp s).2.1.length ≤ s.1.length := Nat.le_trans (sInt_le _) (Nat.le_trans (sText_le _) (Nat.le_trans (sText_le _) (sInt_le _)))
theorem sOp_bytes {s : Sight} (h : bytesOk s.1) : bytesOk (sOp s).2.1 := sInt_bytes (sText_bytes (sText_bytes (sInt_bytes h)))
theorem i64_bnd (n : Nat) (h : n < 18446744073709551616) : -9223372036854775808 ≤ i64 n ∧ i64 n < 9223372036854775808 := by unfold i64; split <;> omega
theorem sInt_bnd {s : Sight} (h : bytesOk s.1) : -9223372036854775808 ≤ (sInt s).1 ∧ (sInt s).1 < 9223372036854775808 := by
  unfold sInt; split
  · simp
  · exact i64_bnd _ (by have := numOf_lt h 8; omega)
theorem wrap64_nat' (i : Nat) (h : i < 9223372036854775807) : wrap64 ((i : Int) + 1) = ((i + 1 : Nat) : Int) := by unfold wrap64; omega
theorem eqB (a b : List Int) (hl : a.length = b.length) (hm : a.length < 9223372036854775807) : ∀ (m i k : Nat), i + m = a.length → m < k → slices_Equal_byte_byte.l0 k a b (a.length : Int) (i : Int) = some (decide (a.drop i = b.drop i))
  | m, i, 0, _, h => by omega
  | 0, i, k + 1, h, _ => by
    have e1 : a.drop i = [] := List.drop_eq_nil_of_le (by omega)
    have e2 : b.drop i = [] := List.drop_eq_nil_of_le (by omega)
    rw [slices_Equal_byte_byte.l0, if_neg (by omega), e1, e2]
    simp
  | m + 1, i, k + 1, h, hk => by
    have hi : i < a.length := by omega
    have hj : i < b.length := by omega
    rw [slices_Equal_byte_byte.l0, if_pos (by omega), if_pos (by omega), if_pos (by omega), if_pos (by omega), rd_nat a hi, rd_nat b hj, wrap64_nat' i (by omega), eqB a b hl hm m (i + 1) k (by omega) (by omega), List.drop_eq_getElem_cons hi, List.drop_eq_getElem_cons hj]
    by_cases he : a[i] = b[i]
    · rw [if_pos he, he]
      simp only [List.cons.injEq, true_and]
    · rw [if_neg he, decide_eq_false (fun h => he (List.cons.inj h).1)]
theorem eqBf (a b : List Int) (hm : a.length < 9223372036854775807) : slices_Equal_byte_byte.f (a.length + 1) a b = some (decide (a = b)) := by
  unfold slices_Equal_byte_byte.f
  by_cases hl : a.length = b.length
  · rw [if_pos (by omega), show (0 : Int) = ((0 : Nat) : Int) from rfl, eqB a b hl hm a.length 0 _ (by omega) (by omega)]
    simp
  · rw [if_neg (by omega)]
    have : a ≠ b := fun h => hl (by rw [h])
    simp [this]
def lenV : Value → Nat
  | .slice _ n _ => n
  | _ => 0
def txAll (b : List Int) : List S63 × Sight := txLoop 9 (sInt (b, false)).1 (sInt (b, false)).2
def okDone (s : Sight) : Bool := decide (¬ (s.2 = true ∨ s.1.length ≠ 0))
theorem txLoop_bytes : ∀ (k : Nat) (n : Int) (s : Sight), (txLoop k n s).1.length ≤ k
  | 0, n, s => by simp [txLoop]
  | k + 1, n, s => by
    unfold txLoop
    split
    · have := txLoop_bytes k (n - 1) (sOp s).2
      simp only [List.length_cons]; omega
    · simp
theorem txLoop_size : ∀ (k : Nat) (n : Int) (s : Sight), ∀ o ∈ (txLoop k n s).1, o.f1.size ≤ 140737488355328 ∧ o.f2.size ≤ 140737488355328
  | 0, n, s => by simp [txLoop]
  | k + 1, n, s => by
    intro o ho
    unfold txLoop at ho
    split at ho
    · rcases List.mem_cons.1 ho with rfl | ho
      · exact ⟨Nat.le_trans (sText_size _) (by omega), Nat.le_trans (sText_size _) (by omega)⟩
      · exact txLoop_size k _ _ o ho
    · simp at ho
set_option maxHeartbeats 4000000 in
set_option maxRecDepth 100000 in
theorem txparse_any (A : Option Addr) (c : Nat) (b : List Int) (w : World) (hr : Kd.C (Kd.int .u8) w A b.length b) (hc : b.length ≤ c) (hb : bytesOk b) (hl : b.length ≤ 1099511627776) :
    Calls Tryz.prog 15 #[.slice A b.length c] w fun e w' => ∃ v, e = .returned (.tuple #[v, .int .i64 (if okDone (txAll b).2 = true ∧ checkT (txAll b).1 = 0 ∧ laidOps (txAll b).1 = b then 0 else 80)]) ∧ Kd.R k63 63 w' w.heap.size (fun _ => True) v (if okDone (txAll b).2 = true ∧ checkT (txAll b).1 = 0 ∧ laidOps (txAll b).1 = b then (txAll b).1 else []) ∧ Below w.heap.size w w' := by
  have hop := flOpen_any A c b w (readsInt_of.2 (Kd.reads_of_C (d := (0 : Int)) hr)) (by omega)
  have HOP := Lib.hid hop
  have HX := Lib.hid (And.intro hr (And.intro hc (And.intro hb hl)))
  have HDL := Lib.hid (And.intro (txLoop_bytes 9 (sInt (b, false)).1 (sInt (b, false)).2) (txLoop_size 9 (sInt (b, false)).1 (sInt (b, false)).2))
  clear hop hr hc hb hl
  generalize hP : txAll b = PA at *
  rw [show txLoop 9 (sInt (b, false)).1 (sInt (b, false)).2 = PA from hP] at HDL
  have HPA := Lib.hid hP
  clear hP
  generalize her : (if okDone PA.2 = true ∧ checkT PA.1 = 0 ∧ laidOps PA.1 = b then (0 : Int) else 80) = er at *
  generalize hrr : (if okDone PA.2 = true ∧ checkT PA.1 = 0 ∧ laidOps PA.1 = b then PA.1 else []) = rr at *
  have HER := Lib.hid (And.intro her hrr)
  clear her hrr
  go_enter Tryz.func15, Tryz.ntmps15
  go_wp2_with fail
  refine HOP.out.mono ?_
  rintro e w1 ⟨g, ab, rfl, hg, hab, hE1, hb1⟩
  have hI := flInt_any (b, false) hE1 HX.out.2.2.1
  have HE := Lib.hid (And.intro hg (And.intro hab (And.intro hb1 hI)))
  clear hg hab hE1 hb1 hI
  go_wp2_with fail
  refine HE.out.2.2.2.mono ?_
  rintro e w2 ⟨rfl, hE2, hu2⟩
  have hb2 : Below w.heap.size w w2 := HE.out.2.2.1.trans (hu2.below HE.out.2.2.1.size (fun q hq e => by have := HE.out.1; omega))
  have hn0 := sInt_bnd (s := (b, false)) HX.out.2.2.1
  have hpa : txLoop 9 (sInt (b, false)).1 (sInt (b, false)).2 = PA := HPA.out
  have HS0 := Lib.hid (And.intro hE2 (And.intro hb2 (And.intro (sInt_bytes (s := (b, false)) HX.out.2.2.1) (And.intro (sInt_le (b, false)) hpa))))
  clear hE2 hu2 hb2 hpa
  generalize sInt (b, false) = s0 at *
  obtain ⟨n0, s0⟩ := s0
  simp only at hn0
  go_wp2
  go_loopw [2, 5, 6] (fun so sn _ wr => ∃ (ds : List S63) (A' : Option Addr) (c' : Nat) (n : Int) (s : Sight), so = .slice A' ds.length c' ∧ sn = .int .i64 n ∧ ds.length ≤ 9 ∧ -9223372036854775808 ≤ n ∧ n < 9223372036854775808 ∧ RowKit.Hid (Kd.R k63 63 wr w.heap.size (fun q => q ≠ g ∧ q ≠ ab) (.slice A' ds.length c') ds ∧ EyeIs wr g ab s.1 s.2 ∧ Below w.heap.size w wr ∧ bytesOk s.1 ∧ s.1.length ≤ b.length ∧ ds ++ (txLoop (9 - ds.length) n s).1 = PA.1 ∧ (txLoop (9 - ds.length) n s).2 = PA.2)) (fun so _ _ _ => 10 - (lenV so))
  case atStart => exact ⟨[], none, 0, n0, s0, rfl, rfl, by simp, hn0.1, hn0.2, Lib.hid ⟨Kd.R_nil _ _ _ _ _, HS0.out.1, HS0.out.2.1, HS0.out.2.2.1, HS0.out.2.2.2.1, by rw [← HS0.out.2.2.2.2]; rfl, by rw [← HS0.out.2.2.2.2]; rfl⟩⟩
  case round =>
    obtain ⟨ds, A', c', n, s, rfl, rfl, hk, hnl, hnh, HS⟩ := hrel
    by_cases hn : 0 < n ∧ ds.length ≤ 8
    · obtain ⟨hn, h8⟩ := hn
      obtain ⟨k, hk9⟩ : ∃ k, 9 - ds.length = k + 1 := ⟨8 - ds.length, by omega⟩
      obtain ⟨hS, hE, hB, hby, hle, hp1, hp2⟩ := HS.out
      rw [hk9, txLoop, if_pos hn] at hp1 hp2
      have hI := flInt_any s hE hby
      have hby1 := sInt_bytes hby
      have hT1 := fun (W : World) (h : EyeIs W g ab (sInt s).2.1 (sInt s).2.2) => flText_any (sInt s).2 h hby1
      have hby2 := sText_bytes hby1
      have hT2 := fun (W : World) (h : EyeIs W g ab (sText (sInt s).2).2.1 (sText (sInt s).2).2.2) => flText_any (sText (sInt s).2).2 h hby2
      have hby3 := sText_bytes hby2
      have hI2 := fun (W : World) (h : EyeIs W g ab (sText (sText (sInt s).2).2).2.1 (sText (sText (sInt s).2).2).2.2) => flInt_any (sText (sText (sInt s).2).2).2 h hby3
      have hby4 := sOp_bytes hby
      have hle4 := Nat.le_trans (sOp_le s) hle
      have hlv : ∀ q, (Value.slice A' ds.length c').ownBlock = some q → q < wr.heap.size := Kd.R_lt hS
      have hop : sOp s = (⟨(sInt s).1, (sText (sInt s).2).1, (sText (sText (sInt s).2).2).1, u64c (sInt (sText (sText (sInt s).2).2).2).1⟩, (sInt (sText (sText (sInt s).2).2).2).2) := rfl
      generalize hos : sOp s = os at *
      generalize sInt (sText (sText (sInt s).2).2).2 = xN at *
      generalize sText (sText (sInt s).2).2 = t2 at *
      generalize sText (sInt s).2 = t1 at *
      generalize sInt s = xI at *
      obtain ⟨x0, s1⟩ := xI
      obtain ⟨x1, s2⟩ := t1
      obtain ⟨x2, s3⟩ := t2
      obtain ⟨x3, s4⟩ := xN
      simp only at hop
      subst hop
      simp only at hp1 hp2 hI hT1 hT2 hI2 hby4 hle4
      have HY := Lib.hid (And.intro hS (And.intro hB (And.intro hby4 (And.intro hle4 (And.intro hp1 (And.intro hp2 (And.intro hk9 hlv)))))))
      have HI := Lib.hid hI; have HT1 := Lib.hid hT1; have HT2 := Lib.hid hT2; have HI2 := Lib.hid hI2
      have HGE := Lib.hid (And.intro hE.lt hE.old)
      have dn : decide (0 < n) = true := decide_eq_true hn
      have d8 : decide ((ds.length : Int) ≤ 8) = true := decide_eq_true (by omega)
      clear hS hE hB hby hle hp1 hp2 hI hT1 hT2 hI2 hby1 hby2 hby3 hby4 hle4 hlv hk9 HS hos
      go_wp2_with fail
      refine HI.out.mono ?_
      rintro e w3 ⟨rfl, hE3, hu3⟩
      have HN3 := Lib.hid (And.intro (HT1.out w3 hE3) hu3)
      clear hE3 hu3
      go_wp2_with fail
      refine HN3.out.1.mono ?_
      rintro e w4 ⟨rfl, hE4, hu4⟩
      have HN4 := Lib.hid (And.intro (HT2.out w4 hE4) (HN3.out.2.trans hu4))
      clear hE4 hu4
      go_wp2_with fail
      refine HN4.out.1.mono ?_
      rintro e w5 ⟨rfl, hE5, hu5⟩
      have hb6 : Below w5.heap.size w5 (w5.alloc (.cells #[.int .i64 x0, .string x1, .string x2, .int .u64 0] 63)) := (Below.refl _ _).alloc (Nat.le_refl _) _
      have hT6 : Blk (w5.alloc (.cells #[.int .i64 x0, .string x1, .string x2, .int .u64 0] 63)) w5.heap.size 63 #[.int .i64 x0, .string x1, .string x2, .int .u64 0] := Blk.new w5 63 _
      have hu5' : Upd wr w5 (· = g) := HN4.out.2.trans hu5
      have hg5 : g < w5.heap.size := Nat.lt_of_lt_of_le HGE.out.1 hu5'.size
      have hsz5 : wr.heap.size ≤ w5.heap.size := hu5'.size
      have HN5 := Lib.hid (And.intro (HI2.out _ (hE5.below hb6)) (And.intro (hu5'.then_below hb6) hT6))
      clear hE5 hu5 hb6 hT6 hu5'
      go_wp2_with fail
      refine HN5.out.1.mono ?_
      rintro e w7 ⟨rfl, hE7, hu7⟩
      have hT7 : Blk w7 w5.heap.size 63 #[.int .i64 x0, .string x1, .string x2, .int .u64 0] := HN5.out.2.2.upd hu7 (fun e => by omega)
      have k0 := hT7.cell 0
      have k1 := hT7.cell 1
      have k2 := hT7.cell 2
      have k3 := hT7.cell 3
      have kz := hT7.frozen 3
      have hgw : w.heap.size ≤ g := HE.out.1
      have haw : w.heap.size ≤ ab := HE.out.2.1
      obtain ⟨W, hW⟩ : ∃ W, w7.setCell ⟨w5.heap.size, 3, none⟩ (.int .u64 (IntKind.u64.wrap x3)) = W := ⟨_, rfl⟩
      have huW : Upd wr W (· = g) := hW ▸ (HN5.out.2.1.trans hu7).setCell (p := ⟨w5.heap.size, 3, none⟩) (.inr hsz5) _
      have hTW : Blk W w5.heap.size 63 #[.int .i64 x0, .string x1, .string x2, .int .u64 (IntKind.u64.wrap x3)] := hW ▸ hT7.set_ 3 _
      have hEW : EyeIs W g ab s4.1 s4.2 := hW ▸ hE7.upd ((Upd.refl w7 (· = w5.heap.size)).setCell (p := ⟨w5.heap.size, 3, none⟩) (.inl rfl) _) (fun e => by omega) (fun e => by have := HGE.out.2; omega)
      have hbW : Below w.heap.size w W := HY.out.2.1.trans (huW.below HY.out.2.1.size (fun q hq e => by omega))
      have l0 := hTW.cell 0
      have l1 := hTW.cell 1
      have l2 := hTW.cell 2
      have l3 := hTW.cell 3
      have HNW := Lib.hid (And.intro huW (And.intro hEW hbW))
      clear huW hTW hEW hbW hE7 hu7
      go_wp2_with (first | ((with_reducible refine gate_builtin (b := .append) (xs := #[.tmp 31, .tmp 33]) rfl ?_); at_builtin; refine stop_append rfl ?_))
      refine Lib.hid ?_
      refine Kd.R_append k63 (w0 := w) w.heap.size rfl (.tmp 31) (.tmp 33) 22 63 (.agg #[.int .i64 0, .string ⟨#[]⟩, .string ⟨#[]⟩, .int .u64 0]) 48 rfl Tryz.underlying22 info63 rfl (by decide) (by decide) (.slice A' ds.length c') ds ⟨x0, x1, x2, u64c x3⟩ [.int .i64 x0, .string x1, .string x2, .int .u64 (IntKind.u64.wrap x3)] (fun q => q ≠ g ∧ q ≠ ab) (fun _ => False) rfl rfl (k63_mkM _ _ _ _) (fun _ h => h.elim) ?_ ?_ HNW.out.2.2 HNW.out.2.2.size (by omega) ?_
      · intro q hq
        have := HGE.out
        have := HNW.out.1.size
        exact ⟨by omega, by omega⟩
      · exact Kd.R_step HY.out.1 (fun q hq hql => HNW.out.1.block q hql hq.1)
      intro v9 w9 hS9 hB9 hg9 hat9
      have hln : (ds ++ [(⟨x0, x1, x2, u64c x3⟩ : S63)]).length = ds.length + 1 := by simp
      obtain ⟨A9, c9, e9⟩ := Kd.R_slice hS9
      have hE9 : EyeIs w9 g ab s4.1 s4.2 := by
        have hu9 : Upd W w9 (fun q => some q = (Value.slice A' ds.length c').ownBlock) := Upd.of_grown hg9 (fun q hq => hq.symm)
        exact HNW.out.2.1.upd hu9 (fun h => (HY.out.1.1 g h.symm).1 rfl) (fun h => (HY.out.1.1 ab h.symm).2 rfl)
      have HN9 := Lib.hid (And.intro hS9 (And.intro hB9 hE9))
      rw [e9, hln] at HN9
      rw [e9, hln]
      clear hS9 hB9 hg9 hat9 e9 hE9
      go_wp2_with fail
      go_roundw
      case rel =>
        refine ⟨ds ++ [⟨x0, x1, x2, u64c x3⟩], A9, c9, n - 1, s4, by rw [hln], by go_num, by omega, by omega, by omega, Lib.hid ⟨by rw [hln]; exact HN9.out.1, HN9.out.2.2, HN9.out.2.1, HY.out.2.2.1, HY.out.2.2.2.1, ?_, ?_⟩⟩
        · rw [hln, show 9 - (ds.length + 1) = k by have := HY.out.2.2.2.2.2.2.1; omega, List.append_assoc]; exact HY.out.2.2.2.2.1
        · rw [hln, show 9 - (ds.length + 1) = k by have := HY.out.2.2.2.2.2.2.1; omega]; exact HY.out.2.2.2.2.2.1
      case measure => simp [lenV]; omega
    · obtain ⟨hS, hE, hB, hby, hle, hp1, hp2⟩ := HS.out
      have hz : txLoop (9 - ds.length) n s = ([], s) := by
        rcases Nat.lt_or_ge ds.length 9 with h | h
        · obtain ⟨k, hk9⟩ : ∃ k, 9 - ds.length = k + 1 := ⟨8 - ds.length, by omega⟩
          rw [hk9, txLoop, if_neg (by omega)]
        · rw [show 9 - ds.length = 0 by omega]; rfl
      rw [hz] at hp1 hp2
      simp only [List.append_nil] at hp1 hp2
      obtain ⟨D, F⟩ := PA
      simp only at hp1 hp2
      subst hp1 hp2
      have hdone := flDone_any s hE
      obtain ⟨hnil, hcd, hC⟩ := Kd.R_reads' hS
      have hchk := txn_Check.calls A' c' ds (checkT ds) wr hC hcd rfl
      have hlv : ∀ q, (Value.slice A' ds.length c').ownBlock = some q → q < wr.heap.size := Kd.R_lt hS
      obtain ⟨dv, hdv⟩ : ∃ dv, (if s.2 = true ∨ s.1.length ≠ 0 then (20 : Int) else 0) = dv := ⟨_, rfl⟩
      rw [hdv] at hdone
      have hok : okDone s = decide (dv = 0) := by
        rw [← hdv]
        unfold okDone
        split
        · rename_i h; rw [decide_eq_false (fun hn => hn h)]; rfl
        · rename_i h; rw [decide_eq_true h]; rfl
      have hput := fun (W : World) (h : Below wr.heap.size wr W) => txput_any A' c' ds W (Kd.C_below hC h) (by omega) HDL.out.2
      have HZ := Lib.hid (And.intro hdone (And.intro hchk (And.intro hput (And.intro hok (And.intro hS hB)))))
      clear hS hE hB hby hle hz hdone hcd hC hchk hlv hdv hok hput HS hnil
      have hW : ∀ W, Below wr.heap.size wr W → Below w.heap.size w W := fun W h => HZ.out.2.2.2.2.2.trans (h.mono HZ.out.2.2.2.2.2.size)
      have HW := Lib.hid hW
      clear hW
      have hexit : (0 < n ∧ decide ((ds.length : Int) ≤ 8) = false) ∨ ¬ 0 < n := by
        by_cases h0 : 0 < n
        · exact .inl ⟨h0, decide_eq_false (fun h => hn ⟨h0, by omega⟩)⟩
        · exact .inr h0
      clear hn
      rcases hexit with ⟨h0, h8⟩ | h0
      · have d0 : decide (0 < n) = true := decide_eq_true h0
        go_wp2_with fail
        refine HZ.out.1.mono ?_
        rintro e w7 ⟨rfl, rfl⟩
        by_cases hd : dv = 0
        · subst hd
          have hko : okDone s = true := HZ.out.2.2.2.1
          have HKO := Lib.hid hko
          clear hko
          go_wp2_with fail
          refine HZ.out.2.1.mono ?_
          rintro e w8 ⟨rfl, hb8⟩
          have HB8 := Lib.hid hb8
          clear hb8
          by_cases hq0 : checkT ds = 0
          · rw [hq0]
            have HQ0 := Lib.hid hq0
            clear hq0
            go_wp2_with fail
            refine (HZ.out.2.2.1 w8 HB8.out).mono ?_
            rintro e w9 ⟨v9, rfl, ho9, hb9⟩
            have HB9 := Lib.hid (HB8.out.trans (hb9.mono HB8.out.size))
            obtain ⟨A9, c9, e9, hc9, hC9⟩ := Kd.R_reads (Kd.R_of_own ho9 (fun _ _ => trivial) : Kd.R (Kd.int .u8) 5 w9 w8.heap.size (fun _ => True) v9 (laidOps ds))
            subst e9
            have heq := slices_Equal_byte_byte.calls _ A9 c9 (laidOps ds) A c b _ w9 hC9 hc9 (Kd.C_below HX.out.1 (HW.out _ HB9.out)) HX.out.2.1 (eqBf (laidOps ds) b (by have h6 := laidOs_len ds; have := HDL.out.1; unfold laidOps; rw [List.length_append, laidI_len]; omega))
            have HEQ := Lib.hid heq
            clear heq ho9 hb9 hc9 hC9
            by_cases he : laidOps ds = b
            · have hr : decide (laidOps ds = b) = true := decide_eq_true he
              rw [hr] at HEQ
              have HHE := Lib.hid he
              clear he hr
              go_wp2_with fail
              refine HEQ.out.mono ?_
              rintro e w10 ⟨rfl, hd10⟩
              have HB10 := Lib.hid (HB9.out.trans (hd10.below.mono HB9.out.size))
              clear hd10
              go_wp2
              go_ret2
              have e1 : er = 0 := HER.out.1.symm.trans (if_pos ⟨HKO.out, HQ0.out, HHE.out⟩)
              have e2 : rr = ds := HER.out.2.symm.trans (if_pos ⟨HKO.out, HQ0.out, HHE.out⟩)
              rw [e1, e2]
              refine ⟨_, rfl, ?_, HW.out _ HB10.out⟩
              exact Kd.R_mono (Kd.R_below HZ.out.2.2.2.2.1 HB10.out) (fun _ _ => trivial)
            · have hr : decide (laidOps ds = b) = false := decide_eq_false he
              rw [hr] at HEQ
              have HHE := Lib.hid he
              clear he hr
              go_wp2_with fail
              refine HEQ.out.mono ?_
              rintro e w10 ⟨rfl, hd10⟩
              have HB10 := Lib.hid (HB9.out.trans (hd10.below.mono HB9.out.size))
              clear hd10
              go_wp2
              go_ret2
              have e1 : er = 80 := HER.out.1.symm.trans (if_neg (fun h => HHE.out h.2.2))
              have e2 : rr = [] := HER.out.2.symm.trans (if_neg (fun h => HHE.out h.2.2))
              rw [e1, e2]
              refine ⟨_, rfl, ?_, HW.out _ HB10.out⟩
              exact Kd.R_nil _ _ _ _ _
          · have HQ := Lib.hid hq0
            have hqb : (checkT ds == 0) = false := beq_eq_false_iff_ne.2 hq0
            have hqc : (checkT ds != 0) = true := bne_iff_ne.2 hq0
            clear hq0
            generalize hck : checkT ds = ck at *
            have HCK := Lib.hid hck
            clear hck
            go_wp2
            go_ret2
            have hno : ¬ (okDone s = true ∧ ck = 0 ∧ laidOps ds = b) := fun h => HQ.out h.2.1
            have e1 : er = 80 := HER.out.1.symm.trans (if_neg hno)
            have e2 : rr = [] := HER.out.2.symm.trans (if_neg hno)
            rw [e1, e2]
            refine ⟨_, rfl, ?_, HW.out _ HB8.out⟩
            exact Kd.R_nil _ _ _ _ _
        · have hko : okDone s = false := by rw [HZ.out.2.2.2.1]; exact decide_eq_false hd
          have HKO := Lib.hid hko
          clear hko
          have hqb : (dv == 0) = false := beq_eq_false_iff_ne.2 hd
          have hqc : (dv != 0) = true := bne_iff_ne.2 hd
          clear hd
          go_wp2
          go_ret2
          have hno : ¬ (okDone s = true ∧ checkT ds = 0 ∧ laidOps ds = b) := fun h => by rw [HKO.out] at h; exact absurd h.1 (by decide)
          have e1 : er = 80 := HER.out.1.symm.trans (if_neg hno)
          have e2 : rr = [] := HER.out.2.symm.trans (if_neg hno)
          rw [e1, e2]
          refine ⟨_, rfl, ?_, HW.out _ (Below.refl _ _)⟩
          exact Kd.R_nil _ _ _ _ _
      · have d0 : decide (0 < n) = false := decide_eq_false h0
        go_wp2_with fail
        refine HZ.out.1.mono ?_
        rintro e w7 ⟨rfl, rfl⟩
        by_cases hd : dv = 0
        · subst hd
          have hko : okDone s = true := HZ.out.2.2.2.1
          have HKO := Lib.hid hko
          clear hko
          go_wp2_with fail
          refine HZ.out.2.1.mono ?_
          rintro e w8 ⟨rfl, hb8⟩
          have HB8 := Lib.hid hb8
          clear hb8
          by_cases hq0 : checkT ds = 0
          · rw [hq0]
            have HQ0 := Lib.hid hq0
            clear hq0
            go_wp2_with fail
            refine (HZ.out.2.2.1 w8 HB8.out).mono ?_
            rintro e w9 ⟨v9, rfl, ho9, hb9⟩
            have HB9 := Lib.hid (HB8.out.trans (hb9.mono HB8.out.size))
            obtain ⟨A9, c9, e9, hc9, hC9⟩ := Kd.R_reads (Kd.R_of_own ho9 (fun _ _ => trivial) : Kd.R (Kd.int .u8) 5 w9 w8.heap.size (fun _ => True) v9 (laidOps ds))
            subst e9
            have heq := slices_Equal_byte_byte.calls _ A9 c9 (laidOps ds) A c b _ w9 hC9 hc9 (Kd.C_below HX.out.1 (HW.out _ HB9.out)) HX.out.2.1 (eqBf (laidOps ds) b (by have h6 := laidOs_len ds; have := HDL.out.1; unfold laidOps; rw [List.length_append, laidI_len]; omega))
            have HEQ := Lib.hid heq
            clear heq ho9 hb9 hc9 hC9
            by_cases he : laidOps ds = b
            · have hr : decide (laidOps ds = b) = true := decide_eq_true he
              rw [hr] at HEQ
              have HHE := Lib.hid he
              clear he hr
              go_wp2_with fail
              refine HEQ.out.mono ?_
              rintro e w10 ⟨rfl, hd10⟩
              have HB10 := Lib.hid (HB9.out.trans (hd10.below.mono HB9.out.size))
              clear hd10
              go_wp2
              go_ret2
              have e1 : er = 0 := HER.out.1.symm.trans (if_pos ⟨HKO.out, HQ0.out, HHE.out⟩)
              have e2 : rr = ds := HER.out.2.symm.trans (if_pos ⟨HKO.out, HQ0.out, HHE.out⟩)
              rw [e1, e2]
              refine ⟨_, rfl, ?_, HW.out _ HB10.out⟩
              exact Kd.R_mono (Kd.R_below HZ.out.2.2.2.2.1 HB10.out) (fun _ _ => trivial)
            · have hr : decide (laidOps ds = b) = false := decide_eq_false he
              rw [hr] at HEQ
              have HHE := Lib.hid he
              clear he hr
              go_wp2_with fail
              refine HEQ.out.mono ?_
              rintro e w10 ⟨rfl, hd10⟩
              have HB10 := Lib.hid (HB9.out.trans (hd10.below.mono HB9.out.size))
              clear hd10
              go_wp2
              go_ret2
              have e1 : er = 80 := HER.out.1.symm.trans (if_neg (fun h => HHE.out h.2.2))
              have e2 : rr = [] := HER.out.2.symm.trans (if_neg (fun h => HHE.out h.2.2))
              rw [e1, e2]
              refine ⟨_, rfl, ?_, HW.out _ HB10.out⟩
              exact Kd.R_nil _ _ _ _ _
          · have HQ := Lib.hid hq0
            have hqb : (checkT ds == 0) = false := beq_eq_false_iff_ne.2 hq0
            have hqc : (checkT ds != 0) = true := bne_iff_ne.2 hq0
            clear hq0
            generalize hck : checkT ds = ck at *
            have HCK := Lib.hid hck
            clear hck
            go_wp2
            go_ret2
            have hno : ¬ (okDone s = true ∧ ck = 0 ∧ laidOps ds = b) := fun h => HQ.out h.2.1
            have e1 : er = 80 := HER.out.1.symm.trans (if_neg hno)
            have e2 : rr = [] := HER.out.2.symm.trans (if_neg hno)
            rw [e1, e2]
            refine ⟨_, rfl, ?_, HW.out _ HB8.out⟩
            exact Kd.R_nil _ _ _ _ _
        · have hko : okDone s = false := by rw [HZ.out.2.2.2.1]; exact decide_eq_false hd
          have HKO := Lib.hid hko
          clear hko
          have hqb : (dv == 0) = false := beq_eq_false_iff_ne.2 hd
          have hqc : (dv != 0) = true := bne_iff_ne.2 hd
          clear hd
          go_wp2
          go_ret2
          have hno : ¬ (okDone s = true ∧ checkT ds = 0 ∧ laidOps ds = b) := fun h => by rw [HKO.out] at h; exact absurd h.1 (by decide)
          have e1 : er = 80 := HER.out.1.symm.trans (if_neg hno)
          have e2 : rr = [] := HER.out.2.symm.trans (if_neg hno)
          rw [e1, e2]
          refine ⟨_, rfl, ?_, HW.out _ (Below.refl _ _)⟩
          exact Kd.R_nil _ _ _ _ _
instance (b : List Int) : Decidable (bytesOk b) := inferInstanceAs (Decidable (∀ x ∈ b, 0 ≤ x ∧ x < 256))
def parseT (b : List Int) : List S63 × Int := (if okDone (txAll b).2 = true ∧ checkT (txAll b).1 = 0 ∧ laidOps (txAll b).1 = b then (txAll b).1 else [], if okDone (txAll b).2 = true ∧ checkT (txAll b).1 = 0 ∧ laidOps (txAll b).1 = b then 0 else 80)
def txn_Parse.f (b : List Int) : Option (List S63 × Int) := if bytesOk b ∧ b.length ≤ 1099511627776 then some (parseT b) else none
theorem txn_Parse.calls (A0 : Option Addr) (c0 : Nat) (l0 : List Int) (r0 : List S63) (r1 : Int) (w : World) (hr0 : Kd.C (Kd.int .u8) w A0 l0.length l0) (hc0 : l0.length ≤ c0) (h : txn_Parse.f l0 = some (r0, r1)) :
    Calls Tryz.prog 15 #[.slice A0 l0.length c0] w fun e w' => ∃ v0_ : Value, e = .returned (.tuple #[v0_, .int .i64 r1]) ∧ Kd.R k63 63 w' w.heap.size (fun _ => True) v0_ r0 ∧ Below w.heap.size w w' := by
  unfold txn_Parse.f at h
  split at h
  · rename_i hc
    injection h with h
    unfold parseT at h
    injection h with h0 h1
    subst h0 h1
    exact txparse_any A0 c0 l0 w hr0 hc0 hc.1 hc.2
  · cases h
end Go.Proofs.YtgmlenpcchhmbaaGreat.P
end
section
set_option linter.unusedVariables false
set_option linter.unusedSimpArgs false
namespace Go.Proofs.YtgmlenpcchhmbaaGreat.P
open Go.RowKit Go.Proofs.YtgmlenpcchhmbaaGreatW.PrintWords Go.Proofs.YtgmlenpcchhmbaaGreatW.PrintLast Go.Proofs.YtgmlenpcchhmbaaGreatW.PrintMore
attribute [local go_sem] max2_int min2_int max_two min_two max_three min_three max_four min_four   -- for this text's walks alone
theorem eqA69 (d : Nat) (w : World) (x0 y0 : ByteArray) (x1 y1 : Int) (x2 y2 : Bool) :
  (Op.equalIn (d + 2) 69 (.agg #[.string x0, .int .u64 x1, .bool x2]) (.agg #[.string y0, .int .u64 y1, .bool y2])).run Tryz.prog w = .ok (x0.toList == y0.toList && (x1 == y1 && (x2 == y2))) w := by
 refine eqA_of Tryz.underlying69 (by kernel_rfl) ?_
 refine eqf_cons (by rfl) (by go_simp; rfl) (by go_simp; rfl) (by go_simp) ?_
 refine eqf_cons (by rfl) (by go_simp; rfl) (by go_simp; rfl) (by go_simp) ?_
 exact eqf_last (by rfl) (by go_simp; rfl) (by go_simp; rfl) (by go_simp)
end Go.Proofs.YtgmlenpcchhmbaaGreat.P
end
section
set_option linter.unusedVariables false
set_option linter.unusedSimpArgs false
namespace Go.Proofs.YtgmlenpcchhmbaaGreat.P
open Go.RowKit Go.Proofs.YtgmlenpcchhmbaaGreatW.PrintWords Go.Proofs.YtgmlenpcchhmbaaGreatW.PrintLast Go.Proofs.YtgmlenpcchhmbaaGreatW.PrintMore
attribute [local go_sem] max2_int min2_int max_two min_two max_three min_three max_four min_four   -- for this text's walks alone
attribute [local go_sem high] eqA69
def folkmootref08_WritesSame.l0 : Nat → List (S69) → List (S69) → Int → Option (Bool)
 | 0, _, _, _ => none
 | k + 1, x0, x1, x5 => if x5 < (x0.length : Int) then (if 0 ≤ x5 then (if x5 < (x1.length : Int) then (if (!((((rd_T69 x0 x5).f0).toList) == (((rd_T69 x1 x5).f0).toList)) || (!(((rd_T69 x0 x5).f1) == ((rd_T69 x1 x5).f1)) || (!(((rd_T69 x0 x5).f2) == ((rd_T69 x1 x5).f2))))) = true then (some false) else (folkmootref08_WritesSame.l0 k x0 x1 (wrap64 (x5 + 1)))) else (none)) else (none)) else (some true)
def folkmootref08_WritesSame.f (k : Nat) (l0 : List (S69)) (l1 : List (S69)) : Option (Bool) := if (l0.length : Int) = (l1.length : Int) then (folkmootref08_WritesSame.l0 k l0 l1 0) else (some false)
set_option maxHeartbeats 8000000 in
set_option maxRecDepth 100000 in
theorem folkmootref08_WritesSame.calls (k : Nat) (A0 : Option Addr) (c0 : Nat) (l0 : List (S69)) (A1 : Option Addr) (c1 : Nat) (l1 : List (S69)) (r : Bool) (w : World) (hr0 : Kd.C k69 w A0 l0.length l0) (hc0 : l0.length ≤ c0) (hr1 : Kd.C k69 w A1 l1.length l1) (hc1 : l1.length ≤ c1) (h : folkmootref08_WritesSame.f k l0 l1 = some r) :
  Calls Tryz.prog 29 #[.slice A0 l0.length c0, .slice A1 l1.length c1] w fun e w' => e = .returned (.bool r) ∧ Drawn0 w w' := by
 have hu69 := Tryz.underlying69
 have HR0 := Aside0.mk hr0
 have HC0 := Aside0.mk hc0
 clear hr0 hc0
 have HR1 := Aside0.mk hr1
 have HC1 := Aside0.mk hc1
 clear hr1 hc1
 have H : (if (l0.length : Int) = (l1.length : Int) then (folkmootref08_WritesSame.l0 k l0 l1 0) else (some false)) = some r := h
 clear h
 by_cases c3 : (l0.length : Int) = (l1.length : Int)
 ·rw [if_pos c3] at H
  have c3b0 : ((l0.length : Int) == (l1.length : Int)) = true := beq_iff_eq.mpr c3
  have c3b1 : ((l0.length : Int) != (l1.length : Int)) = false := bne_eq_false_iff_eq.mpr c3
  have c3b2 : (l0.length == l1.length) = true := by first | simpa using c3 | (simp at c3 ⊢; omega)
  clear c3
  have H' := Aside0.mk H
  clear H
  go_enter Tryz.func29, Tryz.ntmps29
  go_wp2
  repeat (go_quiet (fail); try go_wp2)
  go_loopg [5] k (fun kq v5 w' => ∃ (x5_1 : Int), v5 = .int .i64 x5_1 ∧ Aside0 (folkmootref08_WritesSame.l0 kq l0 l1 x5_1 = some r) ∧ Aside0 (kq ≤ k) ∧ Drawn0 w w')
  case atStart => exact ⟨(0), (by first | rfl | (rw [bl_gt] <;> rfl) | (simp; done) | (simp [*]; done)), H', ⟨Nat.le_refl _⟩, by repeat (first | exact Drawn0.refl _ | apply Drawn0.step)⟩
  case round =>
   clear H'
   try clear c1
   try clear c2
   try clear p2
   try clear c3
   try clear c3b0
   try clear c3b1
   try clear c3b2
   obtain ⟨x5_1, rfl, HA, HK1, ⟨m1, rfl⟩⟩ := hrel
   cases gk with
   | zero => exact absurd HA.out (by simp [folkmootref08_WritesSame.l0])
   | succ k1 =>
    have H := HA.out
    clear HA
    simp only [folkmootref08_WritesSame.l0] at H
    by_cases c4 : x5_1 < (l0.length : Int)
    ·rw [if_pos c4] at H
     have c4b0 : decide (x5_1 < (l0.length : Int)) = true := decide_eq_true c4
     clear c4
     by_cases c5 : 0 ≤ x5_1
     ·rw [if_pos c5] at H
      have c5b0 : decide (0 ≤ x5_1) = true := decide_eq_true c5
      clear c5
      by_cases c6 : x5_1 < (l1.length : Int)
      ·rw [if_pos c6] at H
       have c6b0 : decide (x5_1 < (l1.length : Int)) = true := decide_eq_true c6
       clear c6
       by_cases c7 : (!((((rd_T69 l0 x5_1).f0).toList) == (((rd_T69 l1 x5_1).f0).toList)) || (!(((rd_T69 l0 x5_1).f1) == ((rd_T69 l1 x5_1).f1)) || (!(((rd_T69 l0 x5_1).f2) == ((rd_T69 l1 x5_1).f2))))) = true
       ·rw [if_pos c7] at H
        have c7b0 : (!((((rd_T69 l0 x5_1).f0).toList) == (((rd_T69 l1 x5_1).f0).toList)) || (!(((rd_T69 l0 x5_1).f1) == ((rd_T69 l1 x5_1).f1)) || (!(((rd_T69 l0 x5_1).f2) == ((rd_T69 l1 x5_1).f2))))) = true := c7
        clear c7
        obtain rfl := Option.some.inj H
        have p589 : 0 ≤ (x5_1 : Int) := of_decide_eq_true (by first | (with_reducible assumption) | assumption)
        have q589 : x5_1 < (l0.length : Int) := of_decide_eq_true (by first | (with_reducible assumption) | assumption)
        obtain ⟨ad589, e589, hx589_0, hx589_1, hx589_2⟩ := at_T69 HR0.out x5_1 p589 q589
        cases e589
        replace p589 := eq_true p589
        replace q589 := eq_true q589
        have p590 : 0 ≤ (x5_1 : Int) := of_decide_eq_true (by first | (with_reducible assumption) | assumption)
        have q590 : x5_1 < (l1.length : Int) := of_decide_eq_true (by first | (with_reducible assumption) | assumption)
        obtain ⟨ad590, e590, hx590_0, hx590_1, hx590_2⟩ := at_T69 HR1.out x5_1 p590 q590
        cases e590
        replace p590 := eq_true p590
        replace q590 := eq_true q590
        go_wp2
        repeat (go_quiet (fail); try go_wp2)
        go_ret
        exact ⟨by first | rfl | (simp; done) | (simp [*]; done), by repeat (first | exact Drawn0.refl _ | apply Drawn0.step)⟩
       ·rw [if_neg c7] at H
        have c7b0 : (!((((rd_T69 l0 x5_1).f0).toList) == (((rd_T69 l1 x5_1).f0).toList)) || (!(((rd_T69 l0 x5_1).f1) == ((rd_T69 l1 x5_1).f1)) || (!(((rd_T69 l0 x5_1).f2) == ((rd_T69 l1 x5_1).f2))))) = false := by simpa using c7
        clear c7
        have H' := Aside0.mk H
        clear H
        have p589 : 0 ≤ (x5_1 : Int) := of_decide_eq_true (by first | (with_reducible assumption) | assumption)
        have q589 : x5_1 < (l0.length : Int) := of_decide_eq_true (by first | (with_reducible assumption) | assumption)
        obtain ⟨ad589, e589, hx589_0, hx589_1, hx589_2⟩ := at_T69 HR0.out x5_1 p589 q589
        cases e589
        replace p589 := eq_true p589
        replace q589 := eq_true q589
        have p590 : 0 ≤ (x5_1 : Int) := of_decide_eq_true (by first | (with_reducible assumption) | assumption)
        have q590 : x5_1 < (l1.length : Int) := of_decide_eq_true (by first | (with_reducible assumption) | assumption)
        obtain ⟨ad590, e590, hx590_0, hx590_1, hx590_2⟩ := at_T69 HR1.out x5_1 p590 q590
        cases e590
        replace p590 := eq_true p590
        replace q590 := eq_true q590
        go_wp2
        repeat (go_quiet (fail); try go_wp2)
        go_roundg k1
        case measure => have := HK1.out; omega
        case rel => exact ⟨(wrap64 (x5_1 + 1)), (by first | rfl | (rw [bl_gt] <;> rfl) | (simp; done) | (simp [*]; done)), H', ⟨by have := HK1.out; omega⟩, by repeat (first | exact Drawn0.refl _ | apply Drawn0.step)⟩
      ·rw [if_neg c6] at H
       exact absurd H (by simp)
     ·rw [if_neg c5] at H
      exact absurd H (by simp)
    ·rw [if_neg c4] at H
     have c4b0 : decide (x5_1 < (l0.length : Int)) = false := decide_eq_false c4
     clear c4
     obtain rfl := Option.some.inj H
     go_wp2
     repeat (go_quiet (fail); try go_wp2)
     go_ret
     exact ⟨by first | rfl | (simp; done) | (simp [*]; done), by repeat (first | exact Drawn0.refl _ | apply Drawn0.step)⟩
 ·rw [if_neg c3] at H
  have c3b0 : ((l0.length : Int) == (l1.length : Int)) = false := beq_eq_false_iff_ne.mpr c3
  have c3b1 : ((l0.length : Int) != (l1.length : Int)) = true := bne_iff_ne.mpr c3
  have c3b2 : (l0.length == l1.length) = false := by first | simpa using c3 | (simp at c3 ⊢; omega)
  obtain rfl := Option.some.inj H
  go_enter Tryz.func29, Tryz.ntmps29
  go_wp2
  repeat (go_quiet (fail); try go_wp2)
  go_ret
  exact ⟨by first | rfl | (simp; done) | (simp [*]; done), by repeat (first | exact Drawn0.refl _ | apply Drawn0.step)⟩
end Go.Proofs.YtgmlenpcchhmbaaGreat.P
end
