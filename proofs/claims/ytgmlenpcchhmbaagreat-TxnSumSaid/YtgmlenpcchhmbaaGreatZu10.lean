/- what the claim's row stands on, part 10. -/
import Derived.Test.YtgmlenpcchhmbaaGreatZu2
import Derived.Test.YtgmlenpcchhmbaaGreatZu7
import Derived.Test.YtgmlenpcchhmbaaGreatZu9
import Derived.Test.YtgmlenpcchhmbaaGreatZu4
section
set_option linter.unusedVariables false
set_option linter.unusedSimpArgs false
namespace Go.Proofs.YtgmlenpcchhmbaaGreat.P
open Go.RowKit Go.Proofs.YtgmlenpcchhmbaaGreatW.PrintWords Go.Proofs.YtgmlenpcchhmbaaGreatW.PrintLast Go.Proofs.YtgmlenpcchhmbaaGreatW.PrintMore
attribute [local go_sem] max2_int min2_int max_two min_two max_three min_three max_four min_four   -- for this text's walks alone
set_option linter.unusedVariables false
set_option linter.unusedSimpArgs false
attribute [local go_sem high] eqA61
mutual
def folkmootlaw08_TxnSum.j0 : Nat → List Int → List Int → List Int → List Int → Bool → Option (Bool)
 | 0, _, _, _, _, _ => none
 | k + 1, x1, x2, x3, x9, x51 => if x51 = true then ((folkmootlaw08_live.f).bind fun t651 => (some t651)) else (folkmootlaw08_TxnSum.l0 k x1 x2 x3 x9 (([(⟨#[97]⟩ : ByteArray), (⟨#[98]⟩ : ByteArray), (⟨#[99]⟩ : ByteArray), (⟨#[100]⟩ : ByteArray), (⟨#[101]⟩ : ByteArray)] : List ByteArray)) ([] : List (S61)) 0 0)
def folkmootlaw08_TxnSum.l0 : Nat → List Int → List Int → List Int → List Int → List ByteArray → List (S61) → Int → Int → Option (Bool)
 | 0, _, _, _, _, _, _, _, _ => none
 | k + 1, x1, x2, x3, x9, x10, x11, x12, x13 => if x13 < (x9.length : Int) then (if 0 ≤ x13 then (if (rd x9 x13) < 0 then (folkmootlaw08_TxnSum.j2 k x1 x2 x3 x9 x10 x11 x12 x13 true) else (folkmootlaw08_TxnSum.j2 k x1 x2 x3 x9 x10 x11 x12 x13 (decide ((rd x9 x13) > 1000000)))) else (none)) else (folkmootlaw08_TxnSum.l1 k x1 x2 x3 x9 x10 x11 x12 0)
def folkmootlaw08_TxnSum.j2 : Nat → List Int → List Int → List Int → List Int → List ByteArray → List (S61) → Int → Int → Bool → Option (Bool)
 | 0, _, _, _, _, _, _, _, _, _ => none
 | k + 1, x1, x2, x3, x9, x10, x11, x12, x13, x71 => if x71 = true then ((folkmootlaw08_live.f).bind fun t657 => (some t657)) else (if 0 ≤ x13 then (if x13 < (x9.length : Int) then (if x13 < (x10.length : Int) then ((folkmootref07_Of.f (rd x9 x13)).bind fun t661 => (if x11.length < 5864062014805 then (folkmootlaw08_TxnSum.l0 k x1 x2 x3 x9 x10 (x11 ++ [(⟨rdOf ByteArray.empty x10 x13, t661⟩ : S61)]) (wrap64 (x12 + (rd x9 x13))) (wrap64 (x13 + 1))) else (none))) else (none)) else (none)) else (none))
def folkmootlaw08_TxnSum.l1 : Nat → List Int → List Int → List Int → List Int → List ByteArray → List (S61) → Int → Int → Option (Bool)
 | 0, _, _, _, _, _, _, _, _ => none
 | k + 1, x1, x2, x3, x9, x10, x11, x12, x14 => if x14 < (x1.length : Int) then (if 0 ≤ x14 then (if x14 < (x2.length : Int) then (if (rd x1 x14) < 0 then (folkmootlaw08_TxnSum.j4 k x1 x2 x3 x9 x10 x11 x12 x14 (rd x1 x14) (rd x2 x14) true) else (if (rd x2 x14) < 0 then (folkmootlaw08_TxnSum.j4 k x1 x2 x3 x9 x10 x11 x12 x14 (rd x1 x14) (rd x2 x14) true) else (if (rd x1 x14) ≥ (x9.length : Int) then (folkmootlaw08_TxnSum.j4 k x1 x2 x3 x9 x10 x11 x12 x14 (rd x1 x14) (rd x2 x14) true) else (if (rd x2 x14) ≥ (x9.length : Int) then (folkmootlaw08_TxnSum.j4 k x1 x2 x3 x9 x10 x11 x12 x14 (rd x1 x14) (rd x2 x14) true) else (if (rd x1 x14) = (rd x2 x14) then (folkmootlaw08_TxnSum.j4 k x1 x2 x3 x9 x10 x11 x12 x14 (rd x1 x14) (rd x2 x14) true) else (if x14 < (x3.length : Int) then (if (rd x3 x14) < 0 then (folkmootlaw08_TxnSum.j4 k x1 x2 x3 x9 x10 x11 x12 x14 (rd x1 x14) (rd x2 x14) true) else (folkmootlaw08_TxnSum.j4 k x1 x2 x3 x9 x10 x11 x12 x14 (rd x1 x14) (rd x2 x14) (decide ((rd x3 x14) > 1000000)))) else (none))))))) else (none)) else (none)) else (folkmootlaw08_TxnSum.l2 k x9 x10 x11 x12 0 0)
def folkmootlaw08_TxnSum.j4 : Nat → List Int → List Int → List Int → List Int → List ByteArray → List (S61) → Int → Int → Int → Int → Bool → Option (Bool)
 | 0, _, _, _, _, _, _, _, _, _, _, _ => none
 | k + 1, x1, x2, x3, x9, x10, x11, x12, x14, x15, x16, x142 => if x142 = true then ((folkmootlaw08_live.f).bind fun t669 => (some t669)) else (if 0 ≤ x15 then (if x15 < (x10.length : Int) then (if 0 ≤ x16 then (if x16 < (x10.length : Int) then (if 0 ≤ x14 then (if x14 < (x3.length : Int) then ((folkmootref07_Of.f (rd x3 x14)).bind fun t673 => ((txn_Eval.f (([(⟨6, rdOf ByteArray.empty x10 x15, rdOf ByteArray.empty x10 x16, t673⟩ : S63)] : List (S63))) x11).bind fun bt677 => (if x15 < (x9.length : Int) then (if (bt677.2.length : Int) = 1 then (if 0 < (bt677.2.length : Int) then (if (((rd_T65 bt677.2 0).f0) != (decide ((rd x9 x15) ≥ (rd x3 x14)))) = true then (folkmootlaw08_TxnSum.j5 k x1 x2 x3 x9 x10 x11 x12 x14 x15 x16 bt677.1 (decide ((rd x9 x15) ≥ (rd x3 x14))) true) else (folkmootlaw08_TxnSum.j5 k x1 x2 x3 x9 x10 x11 x12 x14 x15 x16 bt677.1 (decide ((rd x9 x15) ≥ (rd x3 x14))) ((decide ((rd x9 x15) ≥ (rd x3 x14))) != ((bt677.1.length : Int) == 2)))) else (none)) else (folkmootlaw08_TxnSum.j5 k x1 x2 x3 x9 x10 x11 x12 x14 x15 x16 bt677.1 (decide ((rd x9 x15) ≥ (rd x3 x14))) true)) else (none)))) else (none)) else (none)) else (none)) else (none)) else (none)) else (none))
def folkmootlaw08_TxnSum.j5 : Nat → List Int → List Int → List Int → List Int → List ByteArray → List (S61) → Int → Int → Int → Int → List (S69) → Bool → Bool → Option (Bool)
 | 0, _, _, _, _, _, _, _, _, _, _, _, _, _ => none
 | k + 1, x1, x2, x3, x9, x10, x11, x12, x14, x15, x16, x17, x19, x190 => if x190 = true then (some false) else (if x19 = true then (if 0 ≤ x15 then (if x15 < (x9.length : Int) then (if 0 ≤ x14 then (if x14 < (x3.length : Int) then (if 0 ≤ x16 then (if x16 < (x9.length : Int) then ((txn_Apply.f x11 x17).bind fun t692 => (folkmootlaw08_TxnSum.l1 k x1 x2 x3 ((x9.set (x15 : Int).toNat (wrap64 ((rd x9 x15) - (rd x3 x14)))).set (x16 : Int).toNat (wrap64 ((rd x9 x16) + (rd x3 x14)))) x10 t692 x12 (wrap64 (x14 + 1)))) else (none)) else (none)) else (none)) else (none)) else (none)) else (none)) else ((txn_Apply.f x11 x17).bind fun t695 => (folkmootlaw08_TxnSum.l1 k x1 x2 x3 x9 x10 t695 x12 (wrap64 (x14 + 1)))))
def folkmootlaw08_TxnSum.l2 : Nat → List Int → List ByteArray → List (S61) → Int → Int → Int → Option (Bool)
 | 0, _, _, _, _, _, _ => none
 | k + 1, x9, x10, x11, x12, x20, x21 => if x21 < (x9.length : Int) then (if 0 ≤ x21 then (if x21 ≥ (x11.length : Int) then (some false) else (if x21 < (x11.length : Int) then (if x21 < (x10.length : Int) then ((folkmootref07_Of.f (rd x9 x21)).bind fun t702 => (if (!((((rd_T61 x11 x21).f0).toList) == ((rdOf ByteArray.empty x10 x21).toList)) || (!(((rd_T61 x11 x21).f1) == t702))) = true then (some false) else (folkmootlaw08_TxnSum.l2 k x9 x10 x11 x12 (wrap64 (x20 + (rd x9 x21))) (wrap64 (x21 + 1))))) else (none)) else (none))) else (none)) else (if x20 = x12 then (if (x11.length : Int) = (x9.length : Int) then ((folkmootlaw08_live.f).bind fun t703 => (some t703)) else (some false)) else (some false))
end
def folkmootlaw08_TxnSum.f (k : Nat) (l0 : List Int) (l1 : List Int) (l2 : List Int) (l3 : List Int) : Option (Bool) := (some (([] : List Int) : List Int)).bind fun y645 => (if y645.length + l0.length < 17592186044416 then ((some (y645 ++ l0 : List Int)).bind fun y648 => (if (y648.length : Int) < 2 then (folkmootlaw08_TxnSum.j0 k l1 l2 l3 y648 true) else (if (y648.length : Int) > 5 then (folkmootlaw08_TxnSum.j0 k l1 l2 l3 y648 true) else (if (l1.length : Int) > 20 then (folkmootlaw08_TxnSum.j0 k l1 l2 l3 y648 true) else (if (l2.length : Int) < (l1.length : Int) then (folkmootlaw08_TxnSum.j0 k l1 l2 l3 y648 true) else (folkmootlaw08_TxnSum.j0 k l1 l2 l3 y648 (decide ((l3.length : Int) < (l1.length : Int))))))))) else (none))
def folkmootlaw08_TxnSum.T13 : Bool × List (List Nat × List Nat) := (true, [([], []), ([], []), ([], []), ([1, 2], [1, 2]), ([3], [3]), ([], []), ([], []), ([5, 6], [5, 6]), ([7], [7]), ([8], [8]), ([4, 9], [4, 9]), ([10], [10]), ([0, 11, 9], [0, 11]), ([12, 12, 0, 1, 2, 3, 4, 5, 6, 7, 8, 9, 10, 11, 12], [0, 12])])
def folkmootlaw08_TxnSum.B13 : List Nat := [0, 0, 0, 6, 14, 0, 0, 96, 224, 480, 1022, 2046, 4095, 8191]
theorem folkmootlaw08_TxnSum.tab13 : rtab .any (opsOf Tryz.f5 13) = folkmootlaw08_TxnSum.T13 := by kernel_rfl
theorem folkmootlaw08_TxnSum.bits13 : waitsOk folkmootlaw08_TxnSum.T13.2 folkmootlaw08_TxnSum.B13 = true := by kernel_rfl
def folkmootlaw08_TxnSum.T17 : Bool × List (List Nat × List Nat) := (true, [([], []), ([], []), ([0, 1], [0, 1]), ([2], [2]), ([], []), ([], []), ([4, 5], [4, 5]), ([6], [6]), ([3, 0, 1, 2, 3], [3]), ([7, 8, 0, 1, 2, 3, 4, 5, 6, 7, 8], [7])])
def folkmootlaw08_TxnSum.B17 : List Nat := [0, 0, 3, 7, 0, 0, 48, 112, 15, 511]
theorem folkmootlaw08_TxnSum.tab17 : rtab .any (opsOf Tryz.f5 17) = folkmootlaw08_TxnSum.T17 := by kernel_rfl
theorem folkmootlaw08_TxnSum.bits17 : waitsOk folkmootlaw08_TxnSum.T17.2 folkmootlaw08_TxnSum.B17 = true := by kernel_rfl
def folkmootlaw08_TxnSum.T20 : Bool × List (List Nat × List Nat) := (true, [([], []), ([], []), ([0, 1], [0, 1]), ([2], [2]), ([], []), ([], []), ([4, 5], [4, 5]), ([6], [6]), ([], []), ([], []), ([8, 9], [8, 9]), ([10], [10]), ([11], [11]), ([3, 7, 12], [3, 7, 12]), ([13], [13]), ([], []), ([14, 15, 12], [14, 15]), ([16], [16]), ([17], [17]), ([17], [17]), ([18, 16, 0, 1, 2, 3, 4, 5, 6, 7, 8, 9, 10, 11, 12, 13, 14, 15, 16, 17, 18], [18]), ([19, 20, 0, 1, 2, 3, 4, 5, 6, 7, 8, 9, 10, 11, 12, 13, 14, 15, 16, 17, 18, 19, 20], [19])])
def folkmootlaw08_TxnSum.B20 : List Nat := [0, 0, 3, 7, 0, 0, 48, 112, 0, 0, 768, 1792, 3840, 8191, 16383, 0, 65535, 131071, 262143, 262143, 524287, 2097151]
theorem folkmootlaw08_TxnSum.tab20 : rtab .any (opsOf Tryz.f5 20) = folkmootlaw08_TxnSum.T20 := by kernel_rfl
theorem folkmootlaw08_TxnSum.bits20 : waitsOk folkmootlaw08_TxnSum.T20.2 folkmootlaw08_TxnSum.B20 = true := by kernel_rfl
def folkmootlaw08_TxnSum.T21 : Bool × List (List Nat × List Nat) := (true, [([], []), ([], []), ([0, 1], [0, 1]), ([2], [2]), ([], []), ([], []), ([4, 5], [4, 5]), ([6], [6]), ([3, 7], [3, 7]), ([8, 0, 1, 2, 3, 4, 5, 6, 7, 8], [8])])
def folkmootlaw08_TxnSum.B21 : List Nat := [0, 0, 3, 7, 0, 0, 48, 112, 255, 511]
theorem folkmootlaw08_TxnSum.tab21 : rtab .any (opsOf Tryz.f5 21) = folkmootlaw08_TxnSum.T21 := by kernel_rfl
theorem folkmootlaw08_TxnSum.bits21 : waitsOk folkmootlaw08_TxnSum.T21.2 folkmootlaw08_TxnSum.B21 = true := by kernel_rfl
def folkmootlaw08_TxnSum.T25 : Bool × List (List Nat × List Nat) := (true, [([], []), ([], []), ([], []), ([], []), ([], []), ([], []), ([4, 5], [4, 5]), ([6], [6]), ([], []), ([], []), ([8, 9], [8, 9]), ([10], [10]), ([7, 11], [7, 11]), ([], []), ([], []), ([13, 14], [13, 14]), ([15], [15]), ([], []), ([], []), ([17, 18], [17, 18]), ([19], [19]), ([16, 20], [16, 20]), ([0, 1, 0, 1, 4, 5, 6, 7, 8, 9, 10, 11, 12, 16, 20], [0, 1]), ([22, 12, 0, 1, 4, 5, 6, 7, 8, 9, 10, 11, 12, 16, 20], [12, 22]), ([2, 3, 0, 1, 2, 3, 4, 5, 6, 7, 8, 9, 10, 11, 12, 13, 14, 15, 16, 17, 18, 19, 20, 21, 22, 23], [2, 3]), ([24, 21, 23, 0, 1, 2, 3, 4, 5, 6, 7, 8, 9, 10, 11, 12, 13, 14, 15, 16, 17, 18, 19, 20, 21, 22, 23], [21, 24])])
def folkmootlaw08_TxnSum.B25 : List Nat := [0, 0, 0, 0, 0, 0, 48, 112, 0, 0, 768, 1792, 4080, 0, 0, 24576, 57344, 0, 0, 393216, 917504, 2088960, 2097139, 6291443, 16777215, 33554431]
theorem folkmootlaw08_TxnSum.tab25 : rtab .any (opsOf Tryz.f5 25) = folkmootlaw08_TxnSum.T25 := by kernel_rfl
theorem folkmootlaw08_TxnSum.bits25 : waitsOk folkmootlaw08_TxnSum.T25.2 folkmootlaw08_TxnSum.B25 = true := by kernel_rfl
def folkmootlaw08_TxnSum.T32 : Bool × List (List Nat × List Nat) := (true, [([], []), ([], []), ([1], [1]), ([0, 2], [0, 2]), ([3], [3]), ([4], [4]), ([4], [4]), ([5, 6, 4], [4, 5, 6]), ([7, 4], [4, 7]), ([4], [4]), ([4], [4]), ([9, 10, 4], [4, 9, 10]), ([11, 4], [4, 11]), ([4], [4]), ([4], [4]), ([13, 14, 4], [4, 13, 14]), ([15, 4], [4, 15]), ([16, 4, 4], [4, 16]), ([12, 17, 4], [4, 12, 17]), ([8, 18, 4], [4, 8, 18]), ([4, 19], [4, 19])])
def folkmootlaw08_TxnSum.B32 : List Nat := [0, 0, 2, 7, 15, 31, 31, 127, 255, 31, 31, 1567, 3615, 31, 31, 24607, 57375, 122911, 261663, 524287, 1048575]
theorem folkmootlaw08_TxnSum.tab32 : rtab .any (opsOf Tryz.f5 32) = folkmootlaw08_TxnSum.T32 := by kernel_rfl
theorem folkmootlaw08_TxnSum.bits32 : waitsOk folkmootlaw08_TxnSum.T32.2 folkmootlaw08_TxnSum.B32 = true := by kernel_rfl
set_option maxHeartbeats 8000000 in
set_option maxRecDepth 100000 in
theorem folkmootlaw08_TxnSum.calls (k : Nat) (A0 : Option Addr) (c0 : Nat) (l0 : List Int) (A1 : Option Addr) (c1 : Nat) (l1 : List Int) (A2 : Option Addr) (c2 : Nat) (l2 : List Int) (A3 : Option Addr) (c3 : Nat) (l3 : List Int) (r : Bool) (w : World) (hr0 : Kd.C (Kd.int .i64) w A0 l0.length l0) (hc0 : l0.length ≤ c0) (hr1 : Kd.C (Kd.int .i64) w A1 l1.length l1) (hc1 : l1.length ≤ c1) (hr2 : Kd.C (Kd.int .i64) w A2 l2.length l2) (hc2 : l2.length ≤ c2) (hr3 : Kd.C (Kd.int .i64) w A3 l3.length l3) (hc3 : l3.length ≤ c3) (h : folkmootlaw08_TxnSum.f k l0 l1 l2 l3 = some r) :
  Calls Tryz.prog 5 #[.slice A0 l0.length c0, .slice A1 l1.length c1, .slice A2 l2.length c2, .slice A3 l3.length c3] w fun e w' => e = .returned (.bool r) ∧ Below w.heap.size w w' := by
 have hu61 := Tryz.underlying61
 have hu63 := Tryz.underlying63
 have HR0 := Aside0.mk hr0
 have HC0 := Aside0.mk hc0
 clear hr0 hc0
 have HR1 := Aside0.mk hr1
 have HC1 := Aside0.mk hc1
 clear hr1 hc1
 have HR2 := Aside0.mk hr2
 have HC2 := Aside0.mk hc2
 clear hr2 hc2
 have HR3 := Aside0.mk hr3
 have HC3 := Aside0.mk hc3
 clear hr3 hc3
 have HB := Aside0.mk (Below.refl w.heap.size w)
 have H : ((some (([] : List Int) : List Int)).bind fun y645 => (if y645.length + l0.length < 17592186044416 then ((some (y645 ++ l0 : List Int)).bind fun y648 => (if (y648.length : Int) < 2 then (folkmootlaw08_TxnSum.j0 k l1 l2 l3 y648 true) else (if (y648.length : Int) > 5 then (folkmootlaw08_TxnSum.j0 k l1 l2 l3 y648 true) else (if (l1.length : Int) > 20 then (folkmootlaw08_TxnSum.j0 k l1 l2 l3 y648 true) else (if (l2.length : Int) < (l1.length : Int) then (folkmootlaw08_TxnSum.j0 k l1 l2 l3 y648 true) else (folkmootlaw08_TxnSum.j0 k l1 l2 l3 y648 (decide ((l3.length : Int) < (l1.length : Int))))))))) else (none))) = some r := h
 clear h
 obtain ⟨y645, hy645⟩ : ∃ y_ : List Int, y_ = (([] : List Int)) := ⟨_, rfl⟩
 replace H : (if y645.length + l0.length < 17592186044416 then ((some (y645 ++ l0 : List Int)).bind fun y648 => (if (y648.length : Int) < 2 then (folkmootlaw08_TxnSum.j0 k l1 l2 l3 y648 true) else (if (y648.length : Int) > 5 then (folkmootlaw08_TxnSum.j0 k l1 l2 l3 y648 true) else (if (l1.length : Int) > 20 then (folkmootlaw08_TxnSum.j0 k l1 l2 l3 y648 true) else (if (l2.length : Int) < (l1.length : Int) then (folkmootlaw08_TxnSum.j0 k l1 l2 l3 y648 true) else (folkmootlaw08_TxnSum.j0 k l1 l2 l3 y648 (decide ((l3.length : Int) < (l1.length : Int))))))))) else (none)) = some r := by first | (rw [hy645]; with_reducible exact H) | (have H2_ := (Option.bind_some _ _).symm.trans H; rw [hy645]; with_reducible exact H2_) | (have H2_ := (Option.bind_some _ _).symm.trans H; with_reducible exact H2_) | with_reducible exact H | (rw [hy645]; exact H) | exact H
 have Ny645 := Aside0.mk hy645
 clear hy645
 by_cases c5 : y645.length + l0.length < 17592186044416
 ·rw [if_pos c5] at H
  have LMc5 := Aside0.mk c5
  clear c5
  obtain ⟨y648, hy648⟩ : ∃ y_ : List Int, y_ = (y645 ++ l0) := ⟨_, rfl⟩
  replace H : (if (y648.length : Int) < 2 then (folkmootlaw08_TxnSum.j0 k l1 l2 l3 y648 true) else (if (y648.length : Int) > 5 then (folkmootlaw08_TxnSum.j0 k l1 l2 l3 y648 true) else (if (l1.length : Int) > 20 then (folkmootlaw08_TxnSum.j0 k l1 l2 l3 y648 true) else (if (l2.length : Int) < (l1.length : Int) then (folkmootlaw08_TxnSum.j0 k l1 l2 l3 y648 true) else (folkmootlaw08_TxnSum.j0 k l1 l2 l3 y648 (decide ((l3.length : Int) < (l1.length : Int)))))))) = some r := by first | (rw [hy648]; with_reducible exact H) | (have H2_ := (Option.bind_some _ _).symm.trans H; rw [hy648]; with_reducible exact H2_) | (have H2_ := (Option.bind_some _ _).symm.trans H; with_reducible exact H2_) | with_reducible exact H | (rw [hy648]; exact H) | exact H
  have Ny648 := Aside0.mk hy648
  clear hy648
  have HC6 := Aside0.mk H
  clear H
  go_enter Tryz.func5, Tryz.ntmps5
  go_upto_region 2 with (first | ((with_reducible refine gate_dst (N := 22) rfl ?_); (try (refine gate_guard (by rfl) ?_; dsimp only)); refine Kd.R_lit (Kd.int .i64) _ 3 ?hg (N := 22) ?hd (xs := ([] : List Int)) (inner := []) (ok := fun _ => True) (okp := fun _ => True) ?hr ?hp (fun _ hk => hk) trivial (Below.refl _ _) (Nat.le_refl _) (by simp) ?_; (case hd => rfl); (case hg => rfl); (case hr => first | (go_simp; done) | (go_simp; rfl)); (case hp => exact (Reps.none _ _)); intro v646 w7 ho8 hb hg_ hnew_; clear hg_ hnew_; (first | rw [← Ny645.out] at ho8 | (simp only [Int.reduceToNat] at ho8; rw [← Ny645.out] at ho8)); have n0_ := Aside0.mk (Kd.R_lower ho8 (below_size (by repeat (first | (with_reducible first | exact HB.out | apply below_alloc | apply pw_below_drewN | apply below_drew1) | exact HB.out)))); have n1_ := Aside0.mk (below_step (by repeat (first | (with_reducible first | exact HB.out | apply below_alloc | apply pw_below_drewN | apply below_drew1) | exact HB.out)) hb); clear HB; have HO647 := n0_; have HB := n1_; clear n0_ n1_; clear hb ho8) | ((with_reducible refine gate_builtin (b := .append) (xs := #[.tmp 22, .tmp 23]) rfl ?_); (try (refine gate_guard (by rfl) ?_; dsimp only)); at_builtin; refine Kd.R_append_rows (Kd.int .i64) (w0 := w) w.heap.size rfl (.tmp 22) (.tmp 23) 55 3 (.int .i64 0) 8 rfl Tryz.underlying55 info3 rfl (by decide) (by omega) v646 y645 l0 _ _ _ (fun _ => True) (fun _ => False) rfl rfl ?aO ?aR (fun _ _ h => h) (fun _ h => h.elim) ?aF ?aB ?aS ?aL ?_; (case aR => repeat (first | exact (Kd.C_below HR0.out HB.out) | (with_reducible refine Kd.C_alloc ?_ _) | (with_reducible refine Kd.C_drewN ?_ _) | (with_reducible refine Kd.C_drew ?_))); (case aB => exact (by repeat (first | (with_reducible first | exact HB.out | apply below_alloc | apply pw_below_drewN | apply below_drew1) | exact HB.out))); (case aF => exact (fun _ _ => trivial)); (case aO => exact (by (with_reducible repeat (first | apply Kd.R_alloc | apply Kd.R_drewN | apply Kd.R_drew)); exact HO647.out)); (case aS => exact (below_size (by repeat (first | (with_reducible first | exact HB.out | apply below_alloc | apply pw_below_drewN | apply below_drew1) | exact HB.out)))); (case aL => have := LMc5.out; omega); intro v649 w9 ho hb hg hat; rw [← Ny648.out] at ho; have n0_ := Aside0.mk (hb); have n1_ := Aside0.mk (ho); clear HB; clear HO647; have HB := n0_; have HO650 := n1_; clear n0_ n1_; clear ho hb hg hat))
  (try simp only [Act.put, List.setIfInBounds_toArray, List.set_cons_zero, List.set_cons_succ])
  go_cut [51] (fun v51 wc => ∃ (kq : Nat) (x51_5 : Bool), v51 = .bool x51_5 ∧ Aside0 (folkmootlaw08_TxnSum.j0 kq l1 l2 l3 y648 x51_5 = some r) ∧ Aside0 (kq ≤ k) ∧ Aside0 (Kd.R (Kd.int .i64) 3 wc w.heap.size (fun _ => True) v649 y648) ∧ Aside0 (Below w.heap.size w wc))
  case first =>
   have H := HC6.out
   clear HC6
   by_cases c10 : (y648.length : Int) < 2
   ·rw [if_pos c10] at H
    have c10b0 : decide ((y648.length : Int) < 2) = true := decide_eq_true c10
    have c10b1 : decide (y648.length < 2) = true := decide_eq_true (by omega)
    clear c10
    (first | rw [c10b0] | (simp only [i64_w, i32_w]; rw [c10b0]) | skip)
    have H' := Aside0.mk H
    clear H
    obtain ⟨Ao11, co11, eo11⟩ := Kd.R_slice HO650.out
    subst eo11
    go_wp2
    go_meet
    case rel => exact ⟨_, (true), (by first | rfl | (rw [bl_gt] <;> rfl) | (simp; done) | (simp [*]; done)), H', ⟨by first | omega | exact Nat.le_refl _⟩, ⟨by (with_reducible repeat (first | apply Kd.R_alloc | apply Kd.R_drewN | apply Kd.R_drew)); exact HO650.out⟩, ⟨by repeat (first | (with_reducible first | exact HB.out | apply below_alloc | apply pw_below_drewN | apply below_drew1) | exact HB.out)⟩⟩
   ·rw [if_neg c10] at H
    have c10b0 : decide ((y648.length : Int) < 2) = false := decide_eq_false c10
    have c10b1 : decide (y648.length < 2) = false := decide_eq_false (by omega)
    clear c10
    (first | rw [c10b0] | (simp only [i64_w, i32_w]; rw [c10b0]) | skip)
    by_cases c12 : (y648.length : Int) > 5
    ·rw [if_pos c12] at H
     have c12b0 : decide (5 < (y648.length : Int)) = true := decide_eq_true c12
     have c12b1 : decide (5 < y648.length) = true := decide_eq_true (by omega)
     clear c12
     have H' := Aside0.mk H
     clear H
     obtain ⟨Ao13, co13, eo13⟩ := Kd.R_slice HO650.out
     subst eo13
     go_wp2
     go_meet
     case rel => exact ⟨_, (true), (by first | rfl | (rw [bl_gt] <;> rfl) | (simp; done) | (simp [*]; done)), H', ⟨by first | omega | exact Nat.le_refl _⟩, ⟨by (with_reducible repeat (first | apply Kd.R_alloc | apply Kd.R_drewN | apply Kd.R_drew)); exact HO650.out⟩, ⟨by repeat (first | (with_reducible first | exact HB.out | apply below_alloc | apply pw_below_drewN | apply below_drew1) | exact HB.out)⟩⟩
    ·rw [if_neg c12] at H
     have c12b0 : decide (5 < (y648.length : Int)) = false := decide_eq_false c12
     have c12b1 : decide (5 < y648.length) = false := decide_eq_false (by omega)
     clear c12
     by_cases c14 : (l1.length : Int) > 20
     ·rw [if_pos c14] at H
      have c14b0 : decide (20 < (l1.length : Int)) = true := decide_eq_true c14
      have c14b1 : decide (20 < l1.length) = true := decide_eq_true (by omega)
      clear c14
      have H' := Aside0.mk H
      clear H
      obtain ⟨Ao15, co15, eo15⟩ := Kd.R_slice HO650.out
      subst eo15
      go_wp2
      go_meet
      case rel => exact ⟨_, (true), (by first | rfl | (rw [bl_gt] <;> rfl) | (simp; done) | (simp [*]; done)), H', ⟨by first | omega | exact Nat.le_refl _⟩, ⟨by (with_reducible repeat (first | apply Kd.R_alloc | apply Kd.R_drewN | apply Kd.R_drew)); exact HO650.out⟩, ⟨by repeat (first | (with_reducible first | exact HB.out | apply below_alloc | apply pw_below_drewN | apply below_drew1) | exact HB.out)⟩⟩
     ·rw [if_neg c14] at H
      have c14b0 : decide (20 < (l1.length : Int)) = false := decide_eq_false c14
      have c14b1 : decide (20 < l1.length) = false := decide_eq_false (by omega)
      clear c14
      by_cases c16 : (l2.length : Int) < (l1.length : Int)
      ·rw [if_pos c16] at H
       have c16b0 : decide ((l2.length : Int) < (l1.length : Int)) = true := decide_eq_true c16
       have c16b1 : decide (l2.length < l1.length) = true := decide_eq_true (Int.ofNat_lt.mp c16)
       clear c16
       have H' := Aside0.mk H
       clear H
       obtain ⟨Ao17, co17, eo17⟩ := Kd.R_slice HO650.out
       subst eo17
       go_wp2
       go_meet
       case rel => exact ⟨_, (true), (by first | rfl | (rw [bl_gt] <;> rfl) | (simp; done) | (simp [*]; done)), H', ⟨by first | omega | exact Nat.le_refl _⟩, ⟨by (with_reducible repeat (first | apply Kd.R_alloc | apply Kd.R_drewN | apply Kd.R_drew)); exact HO650.out⟩, ⟨by repeat (first | (with_reducible first | exact HB.out | apply below_alloc | apply pw_below_drewN | apply below_drew1) | exact HB.out)⟩⟩
      ·rw [if_neg c16] at H
       have c16b0 : decide ((l2.length : Int) < (l1.length : Int)) = false := decide_eq_false c16
       have c16b1 : decide (l2.length < l1.length) = false := decide_eq_false (fun h => c16 (Int.ofNat_lt.mpr h))
       clear c16
       have H' := Aside0.mk H
       clear H
       obtain ⟨Ao18, co18, eo18⟩ := Kd.R_slice HO650.out
       subst eo18
       go_wp2
       go_meet
       case rel => exact ⟨_, (decide ((l3.length : Int) < (l1.length : Int))), (by first | rfl | (rw [bl_gt] <;> rfl) | (simp; done) | (simp [*]; done)), H', ⟨by first | omega | exact Nat.le_refl _⟩, ⟨by (with_reducible repeat (first | apply Kd.R_alloc | apply Kd.R_drewN | apply Kd.R_drew)); exact HO650.out⟩, ⟨by repeat (first | (with_reducible first | exact HB.out | apply below_alloc | apply pw_below_drewN | apply below_drew1) | exact HB.out)⟩⟩
  case rest =>
   clear HC6
   try clear c1
   try clear c2
   try clear p2
   try clear c3
   try clear c5
   try clear c10
   try clear c10b0
   try clear c10b1
   try clear c12
   try clear c12b0
   try clear c12b1
   try clear c14
   try clear c14b0
   try clear c14b1
   try clear c16
   try clear c16b0
   try clear c16b1
   obtain ⟨kq, x51_5, rfl, HA, HJ5, HO_9, HB⟩ := hcut
   cases kq with
   | zero => exact absurd HA.out (by simp [folkmootlaw08_TxnSum.j0])
   | succ kj5 =>
    have H := HA.out
    clear HA
    simp only [folkmootlaw08_TxnSum.j0] at H
    by_cases c19 : x51_5 = true
    ·subst c19
     have H1 : ((folkmootlaw08_live.f).bind fun t651 => (some t651)) = some r := by rw [if_pos rfl] at H; exact H
     clear H
     have H := H1
     clear H1
     replace H := Option.bind_eq_some_iff.mp H
     obtain ⟨t651, A200, H⟩ := H
     replace H : (some t651) = some r := H
     have A20 := Aside0.mk A200
     clear A200
     obtain rfl := Option.some.inj H
     go_wp2_with (first | ((with_reducible refine gate_callee (f := 14) rfl ?_); refine goesL_ (some 52) rfl rfl Tryz.func14 (by kernel_rfl) rfl #[] rfl (by (try simp only [List.map_toArray, List.map_cons, List.map_nil]); first | done | rfl | (simp only [List.length_drop, List.length_take]; rfl)) ?_; (with_reducible refine (folkmootlaw08_live.calls  t651 _ A20.out).mono ?_); rintro e w21 ⟨rfl, hb⟩; refine ⟨_, rfl, ?_⟩; have n0_ := Aside0.mk (Kd.R_below (by (with_reducible repeat (first | apply Kd.R_alloc | apply Kd.R_drewN | apply Kd.R_drew)); exact HO_9.out) hb); have n1_ := Aside0.mk (below_step (by repeat (first | (with_reducible first | exact HB.out | apply below_alloc | apply pw_below_drewN | apply below_drew1) | exact HB.out)) hb); clear HO_9; clear HB; have HO_9 := n0_; have HB := n1_; clear n0_ n1_; (try clear hb); (try clear hb2); (try clear hk); (try clear hi)))
     go_ret
     exact ⟨by first | rfl | (rw [bl_gt] <;> rfl) | (simp [errW_none, errW_some] <;> rfl) | (simp [*, errW_none, errW_some] <;> rfl), by repeat (first | (with_reducible first | exact HB.out | apply below_alloc | apply pw_below_drewN | apply below_drew1) | exact HB.out)⟩
    ·replace c19 := Bool.eq_false_iff.mpr c19
     subst c19
     have H1 : (folkmootlaw08_TxnSum.l0 kj5 l1 l2 l3 y648 (([(⟨#[97]⟩ : ByteArray), (⟨#[98]⟩ : ByteArray), (⟨#[99]⟩ : ByteArray), (⟨#[100]⟩ : ByteArray), (⟨#[101]⟩ : ByteArray)] : List ByteArray)) ([] : List (S61)) 0 0) = some r := by rw [if_neg (show ¬ (false = true) by decide)] at H; exact H
     clear H
     have H := H1
     clear H1
     obtain ⟨y652, hy652⟩ : ∃ y_ : List ByteArray, y_ = (([(⟨#[97]⟩ : ByteArray), (⟨#[98]⟩ : ByteArray), (⟨#[99]⟩ : ByteArray), (⟨#[100]⟩ : ByteArray), (⟨#[101]⟩ : ByteArray)] : List ByteArray)) := ⟨_, rfl⟩
     replace H : (folkmootlaw08_TxnSum.l0 kj5 l1 l2 l3 y648 y652 ([] : List (S61)) 0 0) = some r := by first | (rw [hy652]; with_reducible exact H) | (have H2_ := (Option.bind_some _ _).symm.trans H; rw [hy652]; with_reducible exact H2_) | (have H2_ := (Option.bind_some _ _).symm.trans H; with_reducible exact H2_) | with_reducible exact H | (rw [hy652]; exact H) | exact H
     have Ny652 := Aside0.mk hy652
     clear hy652
     have H' := Aside0.mk H
     clear H
     go_wp2_with (first | ((with_reducible refine gate_dst (N := 53) rfl ?_); (try (refine gate_guard (by rfl) ?_; dsimp only)); refine Kd.R_lit Kd.string _ 9 ?hg (N := 53) ?hd (xs := ([(⟨#[97]⟩ : ByteArray), (⟨#[98]⟩ : ByteArray), (⟨#[99]⟩ : ByteArray), (⟨#[100]⟩ : ByteArray), (⟨#[101]⟩ : ByteArray)] : List ByteArray)) (inner := [.string (⟨#[97]⟩ : ByteArray), .string (⟨#[98]⟩ : ByteArray), .string (⟨#[99]⟩ : ByteArray), .string (⟨#[100]⟩ : ByteArray), .string (⟨#[101]⟩ : ByteArray)]) (ok := fun _ => True) (okp := fun _ => True) ?hr ?hp (fun _ hk => hk) trivial (Below.refl _ _) (Nat.le_refl _) (by simp) ?_; (case hd => rfl); (case hg => rfl); (case hr => first | (go_simp; done) | (go_simp; rfl)); (case hp => exact (Reps.one (show Kd.M Kd.string _ _ _ (⟨#[97]⟩ : ByteArray) [.string (⟨#[97]⟩ : ByteArray)] from rfl) (Reps.one (show Kd.M Kd.string _ _ _ (⟨#[98]⟩ : ByteArray) [.string (⟨#[98]⟩ : ByteArray)] from rfl) (Reps.one (show Kd.M Kd.string _ _ _ (⟨#[99]⟩ : ByteArray) [.string (⟨#[99]⟩ : ByteArray)] from rfl) (Reps.one (show Kd.M Kd.string _ _ _ (⟨#[100]⟩ : ByteArray) [.string (⟨#[100]⟩ : ByteArray)] from rfl) (Reps.one (show Kd.M Kd.string _ _ _ (⟨#[101]⟩ : ByteArray) [.string (⟨#[101]⟩ : ByteArray)] from rfl) (Reps.none _ _))))))); intro v653 w22 ho23 hb hg_ hnew_; clear hg_ hnew_; (first | rw [← Ny652.out] at ho23 | (simp only [Int.reduceToNat] at ho23; rw [← Ny652.out] at ho23)); have n0_ := Aside0.mk (Kd.R_below (by (with_reducible repeat (first | apply Kd.R_alloc | apply Kd.R_drewN | apply Kd.R_drew)); exact HO_9.out) hb); have n1_ := Aside0.mk (Kd.R_lower ho23 (below_size (by repeat (first | (with_reducible first | exact HB.out | apply below_alloc | apply pw_below_drewN | apply below_drew1) | exact HB.out)))); have n2_ := Aside0.mk (below_step (by repeat (first | (with_reducible first | exact HB.out | apply below_alloc | apply pw_below_drewN | apply below_drew1) | exact HB.out)) hb); clear HO_9; clear HB; have HO_9 := n0_; have HO654 := n1_; have HB := n2_; clear n0_ n1_ n2_; clear hb ho23))
     go_loopg [11, 12, 13] kj5 (fun kq v11 v12 v13 w' => ∃ (x11_2 : List (S61)) (x12_2 : Int) (x13_2 : Int), v12 = .int .i64 x12_2 ∧ v13 = .int .i64 x13_2 ∧ Aside0 (folkmootlaw08_TxnSum.l0 kq l1 l2 l3 y648 y652 x11_2 x12_2 x13_2 = some r) ∧ Aside0 (kq ≤ kj5) ∧ Aside0 (Kd.R (Kd.int .i64) 3 w' w.heap.size (fun _ => True) v649 y648) ∧ Aside0 (Kd.R Kd.string 9 w' w.heap.size (fun _ => True) v653 y652) ∧ Aside0 (Kd.R k61 61 w' w.heap.size (fun _ => True) v11 x11_2) ∧ Aside0 (Below w.heap.size w w'))
     case atStart => exact ⟨(([] : List (S61))), (0), (0), (by first | rfl | (rw [bl_gt] <;> rfl) | (simp; done) | (simp [*]; done)), (by first | rfl | (rw [bl_gt] <;> rfl) | (simp; done) | (simp [*]; done)), H', ⟨Nat.le_refl _⟩, ⟨by (with_reducible repeat (first | apply Kd.R_alloc | apply Kd.R_drewN | apply Kd.R_drew)); exact HO_9.out⟩, ⟨by (with_reducible repeat (first | apply Kd.R_alloc | apply Kd.R_drewN | apply Kd.R_drew)); exact HO654.out⟩, ⟨by first | exact Kd.R_nil _ _ _ _ _ | exact Kd.N_nil _ _ _ _ _ | exact Kd.V_nil _ _ _ _ _ | exact Kd.Q_nil _ _ _ _ _ | exact Kd.S_nil _ _ _ _ _⟩, ⟨by repeat (first | (with_reducible first | exact HB.out | apply below_alloc | apply pw_below_drewN | apply below_drew1) | exact HB.out)⟩⟩
     case round => as_aux_lemma =>
      clear H'
      try clear c1
      try clear c2
      try clear p2
      try clear c3
      try clear c5
      try clear c10
      try clear c10b0
      try clear c10b1
      try clear c12
      try clear c12b0
      try clear c12b1
      try clear c14
      try clear c14b0
      try clear c14b1
      try clear c16
      try clear c16b0
      try clear c16b1
      try clear c19
      try clear p2
      obtain ⟨x11_2, x12_2, x13_2, rfl, rfl, HA, HK2, HO_9, HO_10, HO_11, HB⟩ := hrel
      cases gk with
      | zero => exact absurd HA.out (by simp [folkmootlaw08_TxnSum.l0])
      | succ k2 =>
       have H := HA.out
       clear HA
       simp only [folkmootlaw08_TxnSum.l0] at H
       by_cases c24 : x13_2 < (y648.length : Int)
       ·rw [if_pos c24] at H
        have c24b0 : decide (x13_2 < (y648.length : Int)) = true := decide_eq_true c24
        clear c24
        have HC25 := Aside0.mk H
        clear H
        obtain ⟨Ao26, co26, eo26⟩ := Kd.R_slice HO_9.out
        subst eo26
        go_upto_region 10 with (fail)
        go_cut [71] (fun v71 wc => ∃ (kq : Nat) (x71_24 : Bool), v71 = .bool x71_24 ∧ Aside0 (folkmootlaw08_TxnSum.j2 kq l1 l2 l3 y648 y652 x11_2 x12_2 x13_2 x71_24 = some r) ∧ Aside0 (kq ≤ k2) ∧ Aside0 (Kd.R (Kd.int .i64) 3 wc w.heap.size (fun _ => True) (.slice Ao26 y648.length co26) y648) ∧ Aside0 (Kd.R Kd.string 9 wc w.heap.size (fun _ => True) v653 y652) ∧ Aside0 (Kd.R k61 61 wc w.heap.size (fun _ => True) u11 x11_2) ∧ Aside0 (Below w.heap.size w wc))
        case first =>
         have H := HC25.out
         clear HC25
         by_cases c27 : 0 ≤ x13_2
         ·rw [if_pos c27] at H
          have c27b0 : decide (0 ≤ x13_2) = true := decide_eq_true c27
          clear c27
          (first | rw [c27b0] | (simp only [i64_w, i32_w]; rw [c27b0]) | skip)
          by_cases c28 : (rd y648 x13_2) < 0
          ·rw [if_pos c28] at H
           have c28b0 : decide ((rd y648 x13_2) < 0) = true := decide_eq_true c28
           clear c28
           have H' := Aside0.mk H
           clear H
           have p655 : 0 ≤ (x13_2 : Int) := of_decide_eq_true (by first | (with_reducible assumption) | assumption)
           have q655 : x13_2 < (y648.length : Int) := of_decide_eq_true (by first | (with_reducible assumption) | assumption)
           obtain ⟨ad655, e655, hx655_0⟩ := Kd.at_int (Kd.R_reads' HO_9.out).2.2 x13_2 p655 q655
           cases e655
           replace p655 := eq_true p655
           replace q655 := eq_true q655
           go_wp2
           go_meet
           case rel => exact ⟨_, (true), (by first | rfl | (rw [bl_gt] <;> rfl) | (simp; done) | (simp [*]; done)), H', ⟨by have := HJ5.out; have := HK2.out; first | omega | exact Nat.le_refl _⟩, ⟨by (with_reducible repeat (first | apply Kd.R_alloc | apply Kd.R_drewN | apply Kd.R_drew)); exact HO_9.out⟩, ⟨by (with_reducible repeat (first | apply Kd.R_alloc | apply Kd.R_drewN | apply Kd.R_drew)); exact HO_10.out⟩, ⟨by (with_reducible repeat (first | apply Kd.R_alloc | apply Kd.R_drewN | apply Kd.R_drew)); exact HO_11.out⟩, ⟨by repeat (first | (with_reducible first | exact HB.out | apply below_alloc | apply pw_below_drewN | apply below_drew1) | exact HB.out)⟩⟩
          ·rw [if_neg c28] at H
           have c28b0 : decide ((rd y648 x13_2) < 0) = false := decide_eq_false c28
           clear c28
           have H' := Aside0.mk H
           clear H
           have p655 : 0 ≤ (x13_2 : Int) := of_decide_eq_true (by first | (with_reducible assumption) | assumption)
           have q655 : x13_2 < (y648.length : Int) := of_decide_eq_true (by first | (with_reducible assumption) | assumption)
           obtain ⟨ad655, e655, hx655_0⟩ := Kd.at_int (Kd.R_reads' HO_9.out).2.2 x13_2 p655 q655
           cases e655
           replace p655 := eq_true p655
           replace q655 := eq_true q655
           have p656 : 0 ≤ (x13_2 : Int) := of_decide_eq_true (by first | (with_reducible assumption) | assumption)
           have q656 : x13_2 < (y648.length : Int) := of_decide_eq_true (by first | (with_reducible assumption) | assumption)
           obtain ⟨ad656, e656, hx656_0⟩ := Kd.at_int (Kd.R_reads' HO_9.out).2.2 x13_2 p656 q656
           obtain rfl : ad655 = ad656 := (by injection e656)
           replace p656 := eq_true p656
           replace q656 := eq_true q656
           go_wp2
           go_meet
           case rel => exact ⟨_, (decide ((rd y648 x13_2) > 1000000)), (by first | rfl | (rw [bl_gt] <;> rfl) | (simp; done) | (simp [*]; done)), H', ⟨by have := HJ5.out; have := HK2.out; first | omega | exact Nat.le_refl _⟩, ⟨by (with_reducible repeat (first | apply Kd.R_alloc | apply Kd.R_drewN | apply Kd.R_drew)); exact HO_9.out⟩, ⟨by (with_reducible repeat (first | apply Kd.R_alloc | apply Kd.R_drewN | apply Kd.R_drew)); exact HO_10.out⟩, ⟨by (with_reducible repeat (first | apply Kd.R_alloc | apply Kd.R_drewN | apply Kd.R_drew)); exact HO_11.out⟩, ⟨by repeat (first | (with_reducible first | exact HB.out | apply below_alloc | apply pw_below_drewN | apply below_drew1) | exact HB.out)⟩⟩
         ·rw [if_neg c27] at H
          exact absurd H (by simp)
        case rest =>
         clear HC25
         try clear c1
         try clear c2
         try clear p2
         try clear c3
         try clear c5
         try clear p6
         try clear q6
         try clear hx6
         try clear c10
         try clear c10b0
         try clear c10b1
         try clear c12
         try clear c12b0
         try clear c12b1
         try clear c14
         try clear c14b0
         try clear c14b1
         try clear c16
         try clear c16b0
         try clear c16b1
         try clear c19
         try clear c24
         try clear c24b0
         try clear c27
         try clear c27b0
         try clear c28
         try clear c28b0
         try clear hx655_0
         try clear hx656_0
         try clear p2
         try clear p655
         try clear p656
         try clear q655
         try clear q656
         obtain ⟨kq, x71_24, rfl, HA, HJ24, HO_9, HO_10, HO_11, HB⟩ := hcut
         cases kq with
         | zero => exact absurd HA.out (by simp [folkmootlaw08_TxnSum.j2])
         | succ kj24 =>
          have H := HA.out
          clear HA
          simp only [folkmootlaw08_TxnSum.j2] at H
          by_cases c29 : x71_24 = true
          ·subst c29
           have H1 : ((folkmootlaw08_live.f).bind fun t657 => (some t657)) = some r := by rw [if_pos rfl] at H; exact H
           clear H
           have H := H1
           clear H1
           replace H := Option.bind_eq_some_iff.mp H
           obtain ⟨t657, A300, H⟩ := H
           replace H : (some t657) = some r := H
           have A30 := Aside0.mk A300
           clear A300
           obtain rfl := Option.some.inj H
           go_wp2_with (first | ((with_reducible refine gate_callee (f := 14) rfl ?_); refine goesL_ (some 72) rfl rfl Tryz.func14 (by kernel_rfl) rfl #[] rfl (by (try simp only [List.map_toArray, List.map_cons, List.map_nil]); first | done | rfl | (simp only [List.length_drop, List.length_take]; rfl)) ?_; (with_reducible refine (folkmootlaw08_live.calls  t657 _ A30.out).mono ?_); rintro e w31 ⟨rfl, hb⟩; refine ⟨_, rfl, ?_⟩; have n0_ := Aside0.mk (Kd.R_below (by (with_reducible repeat (first | apply Kd.R_alloc | apply Kd.R_drewN | apply Kd.R_drew)); exact HO_9.out) hb); have n1_ := Aside0.mk (Kd.R_below (by (with_reducible repeat (first | apply Kd.R_alloc | apply Kd.R_drewN | apply Kd.R_drew)); exact HO_10.out) hb); have n2_ := Aside0.mk (Kd.R_below (by (with_reducible repeat (first | apply Kd.R_alloc | apply Kd.R_drewN | apply Kd.R_drew)); exact HO_11.out) hb); have n3_ := Aside0.mk (below_step (by repeat (first | (with_reducible first | exact HB.out | apply below_alloc | apply pw_below_drewN | apply below_drew1) | exact HB.out)) hb); clear HO_9; clear HO_10; clear HO_11; clear HB; have HO_9 := n0_; have HO_10 := n1_; have HO_11 := n2_; have HB := n3_; clear n0_ n1_ n2_ n3_; (try clear hb); (try clear hb2); (try clear hk); (try clear hi)))
           go_ret
           exact ⟨by first | rfl | (rw [bl_gt] <;> rfl) | (simp [errW_none, errW_some] <;> rfl) | (simp [*, errW_none, errW_some] <;> rfl), by repeat (first | (with_reducible first | exact HB.out | apply below_alloc | apply pw_below_drewN | apply below_drew1) | exact HB.out)⟩
          ·replace c29 := Bool.eq_false_iff.mpr c29
           subst c29
           have H1 : (if 0 ≤ x13_2 then (if x13_2 < (y648.length : Int) then (if x13_2 < (y652.length : Int) then ((folkmootref07_Of.f (rd y648 x13_2)).bind fun t661 => (if x11_2.length < 5864062014805 then (folkmootlaw08_TxnSum.l0 kj24 l1 l2 l3 y648 y652 (x11_2 ++ [(⟨rdOf ByteArray.empty y652 x13_2, t661⟩ : S61)]) (wrap64 (x12_2 + (rd y648 x13_2))) (wrap64 (x13_2 + 1))) else (none))) else (none)) else (none)) else (none)) = some r := by rw [if_neg (show ¬ (false = true) by decide)] at H; exact H
           clear H
           have H := H1
           clear H1
           by_cases c32 : 0 ≤ x13_2
           ·rw [if_pos c32] at H
            have c32b0 : decide (0 ≤ x13_2) = true := decide_eq_true c32
            clear c32
            by_cases c33 : x13_2 < (y648.length : Int)
            ·rw [if_pos c33] at H
             have c33b0 : decide (x13_2 < (y648.length : Int)) = true := decide_eq_true c33
             clear c33
             by_cases c34 : x13_2 < (y652.length : Int)
             ·rw [if_pos c34] at H
              have c34b0 : decide (x13_2 < (y652.length : Int)) = true := decide_eq_true c34
              clear c34
              replace H := Option.bind_eq_some_iff.mp H
              obtain ⟨t661, A350, H⟩ := H
              replace H : (if x11_2.length < 5864062014805 then (folkmootlaw08_TxnSum.l0 kj24 l1 l2 l3 y648 y652 (x11_2 ++ [(⟨rdOf ByteArray.empty y652 x13_2, t661⟩ : S61)]) (wrap64 (x12_2 + (rd y648 x13_2))) (wrap64 (x13_2 + 1))) else (none)) = some r := H
              have A35 := Aside0.mk A350
              clear A350
              by_cases c36 : x11_2.length < 5864062014805
              ·rw [if_pos c36] at H
               have LMc36 := Aside0.mk c36
               clear c36
               obtain ⟨y662, hy662⟩ : ∃ y_ : List (S61), y_ = (x11_2 ++ [(⟨rdOf ByteArray.empty y652 x13_2, t661⟩ : S61)]) := ⟨_, rfl⟩
               replace H : (folkmootlaw08_TxnSum.l0 kj24 l1 l2 l3 y648 y652 y662 (wrap64 (x12_2 + (rd y648 x13_2))) (wrap64 (x13_2 + 1))) = some r := by first | (rw [hy662]; with_reducible exact H) | (have H2_ := (Option.bind_some _ _).symm.trans H; rw [hy662]; with_reducible exact H2_) | (have H2_ := (Option.bind_some _ _).symm.trans H; with_reducible exact H2_) | with_reducible exact H | (rw [hy662]; exact H) | exact H
               have Ny662 := Aside0.mk hy662
               clear hy662
               have H' := Aside0.mk H
               clear H
               have p658 : 0 ≤ (x13_2 : Int) := of_decide_eq_true (by first | (with_reducible assumption) | assumption)
               have q658 : x13_2 < (y648.length : Int) := of_decide_eq_true (by first | (with_reducible assumption) | assumption)
               obtain ⟨ad658, e658, hx658_0⟩ := Kd.at_int (Kd.R_reads' HO_9.out).2.2 x13_2 p658 q658
               cases e658
               replace p658 := eq_true p658
               replace q658 := eq_true q658
               try go_wp2
               have n0_ := Aside0.mk (Kd.R_drew HO_9.out)
               have n1_ := Aside0.mk (Kd.R_drew HO_10.out)
               have n2_ := Aside0.mk (Kd.R_drew HO_11.out)
               have n3_ := Aside0.mk (below_drew1 HB.out)
               clear HO_9
               clear HO_10
               clear HO_11
               clear HB
               have HO_9 := n0_
               have HO_10 := n1_
               have HO_11 := n2_
               have HB := n3_
               clear n0_ n1_ n2_ n3_
               obtain ⟨Ao38, co38, eo38⟩ := Kd.R_slice HO_10.out
               (first | subst eo38 | (injection eo38 with f1_ f2_ f3_; have f4_ := f1_.symm; have f5_ := f3_.symm; clear f1_ f2_ f3_; subst f4_; subst f5_))
               have p659 : 0 ≤ (x13_2 : Int) := of_decide_eq_true (by first | (with_reducible assumption) | assumption)
               have q659 : x13_2 < (y652.length : Int) := of_decide_eq_true (by first | (with_reducible assumption) | assumption)
               obtain ⟨ad659, e659, hx659_0⟩ := Kd.at_string (Kd.R_reads' HO_10.out).2.2 x13_2 p659 q659
               cases e659
               replace p659 := eq_true p659
               replace q659 := eq_true q659
               have p660 : 0 ≤ (x13_2 : Int) := of_decide_eq_true (by first | (with_reducible assumption) | assumption)
               have q660 : x13_2 < (y648.length : Int) := of_decide_eq_true (by first | (with_reducible assumption) | assumption)
               obtain ⟨ad660, e660, hx660_0⟩ := Kd.at_int (Kd.R_reads' HO_9.out).2.2 x13_2 p660 q660
               obtain rfl : ad658 = ad660 := (by injection e660)
               replace p660 := eq_true p660
               replace q660 := eq_true q660
               refine start_ (n := 14) (S := fun w' => w'.cell? (ad659.add (x13_2).toNat) = some (.string (rdOf ByteArray.empty y652 x13_2)) ∧ w'.cell? (ad658.add (x13_2).toNat) = some (.int .i64 (rd y648 x13_2))) (ds := [11, 12]) #[false,false,false,false,false,false,false,false,false,false,false,false,false,false] (by kernel_rfl) rfl rfl ⟨hx659_0, hx660_0⟩ (fun hHeld => ?_); refine with_tabW folkmootlaw08_TxnSum.tab13 folkmootlaw08_TxnSum.bits13 (fun HT_ HW_ => ?_)
               generalize wc.drew = w37 at HO_9 HO_10 HO_11 HB hx659_0 hx660_0 hHeld ⊢
               refine pure_ (i := 0) (N := some 79) (v := ?_) (a' := ?_) #[true,false,false,false,false,false,false,false,false,false,false,false,false,false] rfl rfl (any_of HT_.out (by kernel_rfl)) (fun _ _ _ h => h) (Or.inl ⟨by rfl, ?_⟩) ?_ ?_
               rotate_left
               ·intro w'
                go_simp
                with_reducible rfl
               rotate_left
               ·simp only [Act.put, List.setIfInBounds_toArray, List.set_cons_zero, List.set_cons_succ, i64_w, i32_w]
                rfl
               refine pure_ (i := 1) (N := some 80) (v := ?_) (a' := ?_) #[true,true,false,false,false,false,false,false,false,false,false,false,false,false] rfl rfl (any_of HT_.out (by kernel_rfl)) (fun _ _ _ h => h) (Or.inl ⟨by rfl, ?_⟩) ?_ ?_
               rotate_left
               ·intro w'
                go_simp
                with_reducible rfl
               rotate_left
               ·simp only [Act.put, List.setIfInBounds_toArray, List.set_cons_zero, List.set_cons_succ, i64_w, i32_w]
                rfl
               refine pure_ (i := 2) (N := some 81) (v := ?_) (a' := ?_) #[true,true,true,false,false,false,false,false,false,false,false,false,false,false] rfl rfl (any_of HT_.out (by kernel_rfl)) (fun _ _ _ h => h) (Or.inl ⟨by rfl, ?_⟩) ?_ ?_
               rotate_left
               ·intro w'
                go_simp
                with_reducible rfl
               rotate_left
               ·simp only [Act.put, List.setIfInBounds_toArray, List.set_cons_zero, List.set_cons_succ, i64_w, i32_w]
                rfl
               refine pure_ (i := 3) (N := some 82) (v := ?_) (a' := ?_) #[true,true,true,true,false,false,false,false,false,false,false,false,false,false] rfl rfl (any_of HT_.out (by kernel_rfl)) (fun _ _ _ h => h) (Or.inl ⟨by rfl, ?_⟩) ?_ ?_
               rotate_left
               ·intro w'
                go_simp
                with_reducible rfl
               rotate_left
               ·simp only [Act.put, List.setIfInBounds_toArray, List.set_cons_zero, List.set_cons_succ, i64_w, i32_w]
                rfl
               refine pure_ (i := 5) (N := some 84) (v := ?_) (a' := ?_) #[true,true,true,true,false,true,false,false,false,false,false,false,false,false] rfl rfl (any_of HT_.out (by kernel_rfl)) (fun _ _ _ h => h) (Or.inl ⟨by rfl, ?_⟩) ?_ ?_
               rotate_left
               ·intro w'
                go_simp
                with_reducible rfl
               rotate_left
               ·simp only [Act.put, List.setIfInBounds_toArray, List.set_cons_zero, List.set_cons_succ, i64_w, i32_w]
                rfl
               refine pure_ (i := 6) (N := some 85) (v := ?_) (a' := ?_) #[true,true,true,true,false,true,true,false,false,false,false,false,false,false] rfl rfl (any_of HT_.out (by kernel_rfl)) (fun _ _ _ h => h) (Or.inl ⟨by rfl, ?_⟩) ?_ ?_
               rotate_left
               ·intro w'
                go_simp
                with_reducible rfl
               rotate_left
               ·simp only [Act.put, List.setIfInBounds_toArray, List.set_cons_zero, List.set_cons_succ, i64_w, i32_w]
                rfl
               refine pure_ (i := 7) (N := some 86) (v := ?_) (a' := ?_) #[true,true,true,true,false,true,true,true,false,false,false,false,false,false] rfl rfl (any_of HT_.out (by kernel_rfl)) (fun _ _ _ h => h) (Or.inl ⟨by rfl, ?_⟩) ?_ ?_
               rotate_left
               ·intro w'
                go_simp
                with_reducible rfl
               rotate_left
               ·simp only [Act.put, List.setIfInBounds_toArray, List.set_cons_zero, List.set_cons_succ, i64_w, i32_w]
                rfl
               refine take_ (i := 4) (N := some 83) (v := ?_) (a' := ?_) #[true,true,true,true,true,true,true,true,false,false,false,false,false,false] rfl rfl (take_ofW HT_.out HW_.out (by kernel_rfl)) (fun _ _ _ h => h) (Or.inl ⟨by rfl, ?_⟩) hHeld ?_ ?_
               rotate_left
               ·rintro w' ⟨s0, s1⟩
                go_simp
                with_reducible rfl
               rotate_left
               ·simp only [Act.put, List.setIfInBounds_toArray, List.set_cons_zero, List.set_cons_succ, i64_w, i32_w]
                rfl
               refine take_ (i := 8) (N := some 87) (v := ?_) (a' := ?_) #[true,true,true,true,true,true,true,true,true,false,false,false,false,false] rfl rfl (take_ofW HT_.out HW_.out (by kernel_rfl)) (fun _ _ _ h => h) (Or.inl ⟨by rfl, ?_⟩) hHeld ?_ ?_
               rotate_left
               ·rintro w' ⟨s0, s1⟩
                go_simp
                with_reducible rfl
               rotate_left
               ·simp only [Act.put, List.setIfInBounds_toArray, List.set_cons_zero, List.set_cons_succ, i64_w, i32_w]
                rfl
               refine one_ (i := 9) (N := some 88) #[true,true,true,true,true,true,true,true,true,true,false,false,false,false] rfl rfl (one_of HT_.out (by kernel_rfl)) (by decide) (fun K hK => ?_)
               refine goes_ Tryz.func36 (by kernel_rfl) rfl #[.int .i64 (rd y648 x13_2)] (by rfl) rfl rfl (by (try simp only [List.map_toArray, List.map_cons, List.map_nil]); first | done | rfl | (simp only [List.length_drop, List.length_take]; rfl)) ?_
               with_reducible refine (folkmootref07_Of.calls (rd y648 x13_2) t661 _ A35.out).mono ?_
               rintro e w' ⟨rfl, ⟨nd, rfl⟩⟩
               refine ⟨_, rfl, ?_⟩
               refine hK.out _ _ ⟨hHeld.1, hHeld.2⟩ (fun hHeld => ?_)
               clear hK K
               refine norm_ (a' := ?_) ?_ ?_
               rotate_left
               ·show Act.put _ (some 88) _ = _
                simp only [Act.put, List.setIfInBounds_toArray, List.set_cons_zero, List.set_cons_succ, i64_w, i32_w]
                rfl
               refine pure_ (i := 10) (N := some 89) (v := ?_) (a' := ?_) #[true,true,true,true,true,true,true,true,true,true,true,false,false,false] rfl rfl (any_of HT_.out (by kernel_rfl)) (fun _ _ _ h => h) (Or.inl ⟨by rfl, ?_⟩) ?_ ?_
               rotate_left
               ·intro w'
                go_simp
                with_reducible rfl
               rotate_left
               ·simp only [Act.put, List.setIfInBounds_toArray, List.set_cons_zero, List.set_cons_succ, i64_w, i32_w]
                rfl
               refine last_ (i := 11) (N := some 90) #[true,true,true,true,true,true,true,true,true,true,true,true,false,false] rfl rfl (one_of HT_.out (by kernel_rfl)) (by decide) (fun K hK => ?_)
               refine value_ (w1 := ?_) (v := ?_) (by rfl) rfl ?_ ?_
               rotate_left 2
               ·go_simp
                constructor
                ·rfl
                ·rfl
               refine hK.out _ _ ?_
               clear hK K
               refine norm_ (a' := ?_) ?_ ?_
               rotate_left
               ·show Act.put _ (some 90) _ = _
                simp only [Act.put, List.setIfInBounds_toArray, List.set_cons_zero, List.set_cons_succ, i64_w, i32_w]
                rfl
               refine last_ (i := 12) (N := some 91) #[true,true,true,true,true,true,true,true,true,true,true,true,true,false] rfl rfl (one_of HT_.out (by kernel_rfl)) (by decide) (fun K hK => ?_)
               refine Kd.R_append_step k61 (w0 := w) w.heap.size (by rfl) (.tmp 79) (.tmp 90) 39 61 (.agg #[(.string ⟨#[]⟩), (.int .u64 0)]) 24 rfl Tryz.underlying39 info61 rfl (by decide) (by omega) u11 x11_2 (⟨rdOf ByteArray.empty y652 x13_2, t661⟩ : S61) [.string (rdOf ByteArray.empty y652 x13_2), .int .u64 t661] (fun _ => True) (fun _ => False) rfl rfl ?aP (fun _ hk => hk.elim) ?aF ?aO ?aB ?aS ?aL ?_
               (case aP => exact k61_mkM _ _ _ (⟨rdOf ByteArray.empty y652 x13_2, t661⟩ : S61))
               (case aB => exact (by repeat (first | (with_reducible first | exact HB.out | apply below_alloc | apply pw_below_drewN | apply below_drew1) | exact HB.out)))
               (case aF => exact (fun _ _ => trivial))
               (case aO => exact (by (with_reducible repeat (first | apply Kd.R_alloc | apply Kd.R_drewN | apply Kd.R_drew)); exact HO_11.out))
               (case aS => exact (below_size (by repeat (first | (with_reducible first | exact HB.out | apply below_alloc | apply pw_below_drewN | apply below_drew1) | exact HB.out))))
               (case aL => have := LMc36.out; omega)
               intro v663 w39 ho hb hg hat
               rw [← Ny662.out] at ho
               have n0_ := Aside0.mk (Kd.R_over' (by (with_reducible repeat (first | apply Kd.R_alloc | apply Kd.R_drewN | apply Kd.R_drew)); exact HO_9.out) (Kd.R_typed (by (with_reducible repeat (first | apply Kd.R_alloc | apply Kd.R_drewN | apply Kd.R_drew)); exact HO_11.out)) (by decide) hg)
               have n1_ := Aside0.mk (Kd.R_over' (by (with_reducible repeat (first | apply Kd.R_alloc | apply Kd.R_drewN | apply Kd.R_drew)); exact HO_10.out) (Kd.R_typed (by (with_reducible repeat (first | apply Kd.R_alloc | apply Kd.R_drewN | apply Kd.R_drew)); exact HO_11.out)) (by decide) hg)
               have n2_ := Aside0.mk (hb)
               have n3_ := Aside0.mk (ho)
               clear HO_9
               clear HO_10
               clear HB
               clear HO_11
               have HO_9 := n0_
               have HO_10 := n1_
               have HB := n2_
               have HO664 := n3_
               clear n0_ n1_ n2_ n3_
               clear ho hb hg hat
               refine hK.out _ _ ?_
               clear hK K
               refine norm_ (a' := ?_) ?_ ?_
               rotate_left
               ·show Act.put _ (some 91) _ = _
                simp only [Act.put, List.setIfInBounds_toArray, List.set_cons_zero, List.set_cons_succ, i64_w, i32_w]
                rfl
               refine pure_ (i := 13) (N := some 11) (v := ?_) (a' := ?_) #[true,true,true,true,true,true,true,true,true,true,true,true,true,true] rfl rfl (any_of HT_.out (by kernel_rfl)) (fun _ _ _ h => h) (Or.inl ⟨by rfl, ?_⟩) ?_ ?_
               rotate_left
               ·intro w'
                go_simp
                with_reducible rfl
               rotate_left
               ·simp only [Act.put, List.setIfInBounds_toArray, List.set_cons_zero, List.set_cons_succ, i64_w, i32_w]
                rfl
               refine done_ (done_of HT_.out (by kernel_rfl)) ?_
               try go_wp2
               go_roundg kj24
               case measure => have := HJ5.out; have := HK2.out; have := HJ24.out; omega
               case rel => exact ⟨(y662), (wrap64 (x12_2 + (rd y648 x13_2))), (wrap64 (x13_2 + 1)), (by first | rfl | (rw [bl_gt] <;> rfl) | (simp; done) | (simp [*]; done)), (by first | rfl | (rw [bl_gt] <;> rfl) | (simp; done) | (simp [*]; done)), H', ⟨by have := HJ5.out; have := HK2.out; have := HJ24.out; omega⟩, ⟨by (with_reducible repeat (first | apply Kd.R_alloc | apply Kd.R_drewN | apply Kd.R_drew)); exact HO_9.out⟩, ⟨by (with_reducible repeat (first | apply Kd.R_alloc | apply Kd.R_drewN | apply Kd.R_drew)); exact HO_10.out⟩, ⟨by (with_reducible repeat (first | apply Kd.R_alloc | apply Kd.R_drewN | apply Kd.R_drew)); exact HO664.out⟩, ⟨by repeat (first | (with_reducible first | exact HB.out | apply below_alloc | apply pw_below_drewN | apply below_drew1) | exact HB.out)⟩⟩
              ·rw [if_neg c36] at H
               exact absurd H (by simp)
             ·rw [if_neg c34] at H
              exact absurd H (by simp)
            ·rw [if_neg c33] at H
             exact absurd H (by simp)
           ·rw [if_neg c32] at H
            exact absurd H (by simp)
       ·rw [if_neg c24] at H
        have c24b0 : decide (x13_2 < (y648.length : Int)) = false := decide_eq_false c24
        clear c24
        have H' := Aside0.mk H
        clear H
        obtain ⟨Ao40, co40, eo40⟩ := Kd.R_slice HO_9.out
        subst eo40
        go_wp2
        go_loopg [11, 14] k2 (fun kq v11 v14 w' => ∃ (x9_3 : List Int) (x11_3 : List (S61)) (x14_3 : Int), v14 = .int .i64 x14_3 ∧ Aside0 (folkmootlaw08_TxnSum.l1 kq l1 l2 l3 x9_3 y652 x11_3 x12_2 x14_3 = some r) ∧ Aside0 (kq ≤ k2) ∧ Aside0 (Kd.R (Kd.int .i64) 3 w' w.heap.size (fun _ => True) (.slice Ao40 y648.length co40) x9_3) ∧ Aside0 (Kd.R Kd.string 9 w' w.heap.size (fun _ => True) v653 y652) ∧ Aside0 (Kd.R k61 61 w' w.heap.size (fun _ => True) v11 x11_3) ∧ Aside0 (Below w.heap.size w w'))
        case atStart => exact ⟨(y648), (x11_2), (0), (by first | rfl | (rw [bl_gt] <;> rfl) | (simp; done) | (simp [*]; done)), H', ⟨Nat.le_refl _⟩, ⟨by (with_reducible repeat (first | apply Kd.R_alloc | apply Kd.R_drewN | apply Kd.R_drew)); exact HO_9.out⟩, ⟨by (with_reducible repeat (first | apply Kd.R_alloc | apply Kd.R_drewN | apply Kd.R_drew)); exact HO_10.out⟩, ⟨by (with_reducible repeat (first | apply Kd.R_alloc | apply Kd.R_drewN | apply Kd.R_drew)); exact HO_11.out⟩, ⟨by repeat (first | (with_reducible first | exact HB.out | apply below_alloc | apply pw_below_drewN | apply below_drew1) | exact HB.out)⟩⟩
        case round => as_aux_lemma =>
         clear H'
         try clear c1
         try clear c2
         try clear p2
         try clear c3
         try clear c5
         try clear p6
         try clear q6
         try clear hx6
         try clear c10
         try clear c10b0
         try clear c10b1
         try clear c12
         try clear c12b0
         try clear c12b1
         try clear c14
         try clear c14b0
         try clear c14b1
         try clear c16
         try clear c16b0
         try clear c16b1
         try clear c19
         try clear c24
         try clear c24b0
         try clear c27
         try clear c27b0
         try clear c28
         try clear c28b0
         try clear c29
         try clear c32
         try clear c32b0
         try clear c33
         try clear c33b0
         try clear c34
         try clear c34b0
         try clear c36
         try clear hx655_0
         try clear hx656_0
         try clear hx658_0
         try clear hx659_0
         try clear hx660_0
         try clear p2
         try clear p6
         try clear p655
         try clear p656
         try clear p658
         try clear p659
         try clear p660
         try clear q6
         try clear q655
         try clear q656
         try clear q658
         try clear q659
         try clear q660
         obtain ⟨x9_3, x11_3, x14_3, rfl, HA, HK3, HO_9, HO_10, HO_11, HB⟩ := hrel
         have hl9_3 := (Kd.R_reads' HO_9.out).1
         rw [hl9_3] at HO_9
         (try simp only [hl9_3])
         (try simp only [hl9_3] at HO_10)
         (try simp only [hl9_3] at HO_11)
         cases gk with
         | zero => exact absurd HA.out (by simp [folkmootlaw08_TxnSum.l1])
         | succ k3 =>
          have H := HA.out
          clear HA
          simp only [folkmootlaw08_TxnSum.l1] at H
          by_cases c41 : x14_3 < (l1.length : Int)
          ·rw [if_pos c41] at H
           have c41b0 : decide (x14_3 < (l1.length : Int)) = true := decide_eq_true c41
           clear c41
           by_cases c42 : 0 ≤ x14_3
           ·rw [if_pos c42] at H
            have c42b0 : decide (0 ≤ x14_3) = true := decide_eq_true c42
            clear c42
            by_cases c43 : x14_3 < (l2.length : Int)
            ·rw [if_pos c43] at H
             have c43b0 : decide (x14_3 < (l2.length : Int)) = true := decide_eq_true c43
             clear c43
             have HC44 := Aside0.mk H
             clear H
             try go_wp2
             have n0_ := Aside0.mk (Kd.R_drew HO_9.out)
             have n1_ := Aside0.mk (Kd.R_drew HO_10.out)
             have n2_ := Aside0.mk (Kd.R_drew HO_11.out)
             have n3_ := Aside0.mk (below_drew1 HB.out)
             clear HO_9
             clear HO_10
             clear HO_11
             clear HB
             have HO_9 := n0_
             have HO_10 := n1_
             have HO_11 := n2_
             have HB := n3_
             clear n0_ n1_ n2_ n3_
             have p665 : 0 ≤ (x14_3 : Int) := of_decide_eq_true (by first | (with_reducible assumption) | assumption)
             have q665 : x14_3 < (l1.length : Int) := of_decide_eq_true (by first | (with_reducible assumption) | assumption)
             obtain ⟨ad665, e665, hx665_0⟩ := Kd.at_int HR1.out x14_3 p665 q665
             have hw665_0 := hx665_0
             cases e665
             replace hx665_0 := (HB.out.cell (World.block_lt_of_cell? w _ hx665_0)).trans hx665_0
             replace p665 := eq_true p665
             replace q665 := eq_true q665
             have p666 : 0 ≤ (x14_3 : Int) := of_decide_eq_true (by first | (with_reducible assumption) | assumption)
             have q666 : x14_3 < (l2.length : Int) := of_decide_eq_true (by first | (with_reducible assumption) | assumption)
             obtain ⟨ad666, e666, hx666_0⟩ := Kd.at_int HR2.out x14_3 p666 q666
             have hw666_0 := hx666_0
             cases e666
             replace hx666_0 := (HB.out.cell (World.block_lt_of_cell? w _ hx666_0)).trans hx666_0
             replace p666 := eq_true p666
             replace q666 := eq_true q666
             refine start_ (n := 10) (S := fun w' => w'.cell? (ad665.add (x14_3).toNat) = some (.int .i64 (rd l1 x14_3)) ∧ w'.cell? (ad666.add (x14_3).toNat) = some (.int .i64 (rd l2 x14_3))) (ds := []) #[false,false,false,false,false,false,false,false,false,false] (by kernel_rfl) rfl rfl ⟨((HB.out.cell (World.block_lt_of_cell? w _ hw665_0)).trans hw665_0), ((HB.out.cell (World.block_lt_of_cell? w _ hw666_0)).trans hw666_0)⟩ (fun hHeld => ?_); refine with_tabW folkmootlaw08_TxnSum.tab17 folkmootlaw08_TxnSum.bits17 (fun HT_ HW_ => ?_)
             generalize wr.drew = w45 at HO_9 HO_10 HO_11 HB hx665_0 hx666_0 hHeld ⊢
             refine pure_ (i := 0) (N := some 98) (v := ?_) (a' := ?_) #[true,false,false,false,false,false,false,false,false,false] rfl rfl (any_of HT_.out (by kernel_rfl)) (fun _ _ _ h => h) (Or.inl ⟨by rfl, ?_⟩) ?_ ?_
             rotate_left
             ·intro w'
              go_simp
              with_reducible rfl
             rotate_left
             ·simp only [Act.put, List.setIfInBounds_toArray, List.set_cons_zero, List.set_cons_succ, i64_w, i32_w]
              rfl
             refine pure_ (i := 1) (N := some 99) (v := ?_) (a' := ?_) #[true,true,false,false,false,false,false,false,false,false] rfl rfl (any_of HT_.out (by kernel_rfl)) (fun _ _ _ h => h) (Or.inl ⟨by rfl, ?_⟩) ?_ ?_
             rotate_left
             ·intro w'
              go_simp
              with_reducible rfl
             rotate_left
             ·simp only [Act.put, List.setIfInBounds_toArray, List.set_cons_zero, List.set_cons_succ, i64_w, i32_w]
              rfl
             refine pure_ (i := 2) (N := some 100) (v := ?_) (a' := ?_) #[true,true,true,false,false,false,false,false,false,false] rfl rfl (any_of HT_.out (by kernel_rfl)) (fun _ _ _ h => h) (Or.inl ⟨by rfl, ?_⟩) ?_ ?_
             rotate_left
             ·intro w'
              go_simp
              with_reducible rfl
             rotate_left
             ·simp only [Act.put, List.setIfInBounds_toArray, List.set_cons_zero, List.set_cons_succ, i64_w, i32_w]
              rfl
             refine pure_ (i := 4) (N := some 102) (v := ?_) (a' := ?_) #[true,true,true,false,true,false,false,false,false,false] rfl rfl (any_of HT_.out (by kernel_rfl)) (fun _ _ _ h => h) (Or.inl ⟨by rfl, ?_⟩) ?_ ?_
             rotate_left
             ·intro w'
              go_simp
              with_reducible rfl
             rotate_left
             ·simp only [Act.put, List.setIfInBounds_toArray, List.set_cons_zero, List.set_cons_succ, i64_w, i32_w]
              rfl
             refine pure_ (i := 5) (N := some 103) (v := ?_) (a' := ?_) #[true,true,true,false,true,true,false,false,false,false] rfl rfl (any_of HT_.out (by kernel_rfl)) (fun _ _ _ h => h) (Or.inl ⟨by rfl, ?_⟩) ?_ ?_
             rotate_left
             ·intro w'
              go_simp
              with_reducible rfl
             rotate_left
             ·simp only [Act.put, List.setIfInBounds_toArray, List.set_cons_zero, List.set_cons_succ, i64_w, i32_w]
              rfl
             refine pure_ (i := 6) (N := some 104) (v := ?_) (a' := ?_) #[true,true,true,false,true,true,true,false,false,false] rfl rfl (any_of HT_.out (by kernel_rfl)) (fun _ _ _ h => h) (Or.inl ⟨by rfl, ?_⟩) ?_ ?_
             rotate_left
             ·intro w'
              go_simp
              with_reducible rfl
             rotate_left
             ·simp only [Act.put, List.setIfInBounds_toArray, List.set_cons_zero, List.set_cons_succ, i64_w, i32_w]
              rfl
             refine take_ (i := 3) (N := some 101) (v := ?_) (a' := ?_) #[true,true,true,true,true,true,true,false,false,false] rfl rfl (take_ofW HT_.out HW_.out (by kernel_rfl)) (fun _ _ _ h => h) (Or.inl ⟨by rfl, ?_⟩) hHeld ?_ ?_
             rotate_left
             ·rintro w' ⟨s0, s1⟩
              go_simp
              with_reducible rfl
             rotate_left
             ·simp only [Act.put, List.setIfInBounds_toArray, List.set_cons_zero, List.set_cons_succ, i64_w, i32_w]
              rfl
             refine pure_ (i := 8) (N := some 15) (v := ?_) (a' := ?_) #[true,true,true,true,true,true,true,false,true,false] rfl rfl (any_of HT_.out (by kernel_rfl)) (fun _ _ _ h => h) (Or.inl ⟨by rfl, ?_⟩) ?_ ?_
             rotate_left
             ·intro w'
              go_simp
              with_reducible rfl
             rotate_left
             ·simp only [Act.put, List.setIfInBounds_toArray, List.set_cons_zero, List.set_cons_succ, i64_w, i32_w]
              rfl
             refine take_ (i := 7) (N := some 105) (v := ?_) (a' := ?_) #[true,true,true,true,true,true,true,true,true,false] rfl rfl (take_ofW HT_.out HW_.out (by kernel_rfl)) (fun _ _ _ h => h) (Or.inl ⟨by rfl, ?_⟩) hHeld ?_ ?_
             rotate_left
             ·rintro w' ⟨s0, s1⟩
              go_simp
              with_reducible rfl
             rotate_left
             ·simp only [Act.put, List.setIfInBounds_toArray, List.set_cons_zero, List.set_cons_succ, i64_w, i32_w]
              rfl
             refine pure_ (i := 9) (N := some 16) (v := ?_) (a' := ?_) #[true,true,true,true,true,true,true,true,true,true] rfl rfl (any_of HT_.out (by kernel_rfl)) (fun _ _ _ h => h) (Or.inl ⟨by rfl, ?_⟩) ?_ ?_
             rotate_left
             ·intro w'
              go_simp
              with_reducible rfl
             rotate_left
             ·simp only [Act.put, List.setIfInBounds_toArray, List.set_cons_zero, List.set_cons_succ, i64_w, i32_w]
              rfl
             refine done_ (done_of HT_.out (by kernel_rfl)) ?_
             go_upto_region 18 with (fail)
             go_cut [142] (fun v142 wc => ∃ (kq : Nat) (x142_43 : Bool), v142 = .bool x142_43 ∧ Aside0 (folkmootlaw08_TxnSum.j4 kq l1 l2 l3 x9_3 y652 x11_3 x12_2 x14_3 (rd l1 x14_3) (rd l2 x14_3) x142_43 = some r) ∧ Aside0 (kq ≤ k3) ∧ Aside0 (Kd.R (Kd.int .i64) 3 wc w.heap.size (fun _ => True) (.slice Ao40 x9_3.length co40) x9_3) ∧ Aside0 (Kd.R Kd.string 9 wc w.heap.size (fun _ => True) v653 y652) ∧ Aside0 (Kd.R k61 61 wc w.heap.size (fun _ => True) u11 x11_3) ∧ Aside0 (Below w.heap.size w wc))
             case first =>
              have H := HC44.out
              clear HC44
              by_cases c46 : (rd l1 x14_3) < 0
              ·rw [if_pos c46] at H
               have c46b0 : decide ((rd l1 x14_3) < 0) = true := decide_eq_true c46
               clear c46
               (first | rw [c46b0] | (simp only [i64_w, i32_w]; rw [c46b0]) | skip)
               have H' := Aside0.mk H
               clear H
               go_wp2
               go_meet
               case rel => exact ⟨_, (true), (by first | rfl | (rw [bl_gt] <;> rfl) | (simp; done) | (simp [*]; done)), H', ⟨by have := HJ5.out; have := HK2.out; have := HK3.out; first | omega | exact Nat.le_refl _⟩, ⟨by (try simp only [hl9_3]); (with_reducible repeat (first | apply Kd.R_alloc | apply Kd.R_drewN | apply Kd.R_drew)); exact HO_9.out⟩, ⟨by (try simp only [hl9_3]); (with_reducible repeat (first | apply Kd.R_alloc | apply Kd.R_drewN | apply Kd.R_drew)); exact HO_10.out⟩, ⟨by (try simp only [hl9_3]); (with_reducible repeat (first | apply Kd.R_alloc | apply Kd.R_drewN | apply Kd.R_drew)); exact HO_11.out⟩, ⟨by repeat (first | (with_reducible first | exact HB.out | apply below_alloc | apply pw_below_drewN | apply below_drew1) | exact HB.out)⟩⟩
              ·rw [if_neg c46] at H
               have c46b0 : decide ((rd l1 x14_3) < 0) = false := decide_eq_false c46
               clear c46
               (first | rw [c46b0] | (simp only [i64_w, i32_w]; rw [c46b0]) | skip)
               by_cases c47 : (rd l2 x14_3) < 0
               ·rw [if_pos c47] at H
                have c47b0 : decide ((rd l2 x14_3) < 0) = true := decide_eq_true c47
                clear c47
                have H' := Aside0.mk H
                clear H
                go_wp2
                go_meet
                case rel => exact ⟨_, (true), (by first | rfl | (rw [bl_gt] <;> rfl) | (simp; done) | (simp [*]; done)), H', ⟨by have := HJ5.out; have := HK2.out; have := HK3.out; first | omega | exact Nat.le_refl _⟩, ⟨by (try simp only [hl9_3]); (with_reducible repeat (first | apply Kd.R_alloc | apply Kd.R_drewN | apply Kd.R_drew)); exact HO_9.out⟩, ⟨by (try simp only [hl9_3]); (with_reducible repeat (first | apply Kd.R_alloc | apply Kd.R_drewN | apply Kd.R_drew)); exact HO_10.out⟩, ⟨by (try simp only [hl9_3]); (with_reducible repeat (first | apply Kd.R_alloc | apply Kd.R_drewN | apply Kd.R_drew)); exact HO_11.out⟩, ⟨by repeat (first | (with_reducible first | exact HB.out | apply below_alloc | apply pw_below_drewN | apply below_drew1) | exact HB.out)⟩⟩
               ·rw [if_neg c47] at H
                have c47b0 : decide ((rd l2 x14_3) < 0) = false := decide_eq_false c47
                clear c47
                by_cases c48 : (rd l1 x14_3) ≥ (x9_3.length : Int)
                ·rw [if_pos c48] at H
                 have c48b0 : decide ((x9_3.length : Int) ≤ (rd l1 x14_3)) = true := decide_eq_true c48
                 clear c48
                 have H' := Aside0.mk H
                 clear H
                 go_wp2
                 go_meet
                 case rel => exact ⟨_, (true), (by first | rfl | (rw [bl_gt] <;> rfl) | (simp; done) | (simp [*]; done)), H', ⟨by have := HJ5.out; have := HK2.out; have := HK3.out; first | omega | exact Nat.le_refl _⟩, ⟨by (try simp only [hl9_3]); (with_reducible repeat (first | apply Kd.R_alloc | apply Kd.R_drewN | apply Kd.R_drew)); exact HO_9.out⟩, ⟨by (try simp only [hl9_3]); (with_reducible repeat (first | apply Kd.R_alloc | apply Kd.R_drewN | apply Kd.R_drew)); exact HO_10.out⟩, ⟨by (try simp only [hl9_3]); (with_reducible repeat (first | apply Kd.R_alloc | apply Kd.R_drewN | apply Kd.R_drew)); exact HO_11.out⟩, ⟨by repeat (first | (with_reducible first | exact HB.out | apply below_alloc | apply pw_below_drewN | apply below_drew1) | exact HB.out)⟩⟩
                ·rw [if_neg c48] at H
                 have c48b0 : decide ((x9_3.length : Int) ≤ (rd l1 x14_3)) = false := decide_eq_false c48
                 clear c48
                 by_cases c49 : (rd l2 x14_3) ≥ (x9_3.length : Int)
                 ·rw [if_pos c49] at H
                  have c49b0 : decide ((x9_3.length : Int) ≤ (rd l2 x14_3)) = true := decide_eq_true c49
                  clear c49
                  have H' := Aside0.mk H
                  clear H
                  go_wp2
                  go_meet
                  case rel => exact ⟨_, (true), (by first | rfl | (rw [bl_gt] <;> rfl) | (simp; done) | (simp [*]; done)), H', ⟨by have := HJ5.out; have := HK2.out; have := HK3.out; first | omega | exact Nat.le_refl _⟩, ⟨by (try simp only [hl9_3]); (with_reducible repeat (first | apply Kd.R_alloc | apply Kd.R_drewN | apply Kd.R_drew)); exact HO_9.out⟩, ⟨by (try simp only [hl9_3]); (with_reducible repeat (first | apply Kd.R_alloc | apply Kd.R_drewN | apply Kd.R_drew)); exact HO_10.out⟩, ⟨by (try simp only [hl9_3]); (with_reducible repeat (first | apply Kd.R_alloc | apply Kd.R_drewN | apply Kd.R_drew)); exact HO_11.out⟩, ⟨by repeat (first | (with_reducible first | exact HB.out | apply below_alloc | apply pw_below_drewN | apply below_drew1) | exact HB.out)⟩⟩
                 ·rw [if_neg c49] at H
                  have c49b0 : decide ((x9_3.length : Int) ≤ (rd l2 x14_3)) = false := decide_eq_false c49
                  clear c49
                  by_cases c50 : (rd l1 x14_3) = (rd l2 x14_3)
                  ·rw [if_pos c50] at H
                   have c50b0 : ((rd l1 x14_3) == (rd l2 x14_3)) = true := beq_iff_eq.mpr c50
                   have c50b1 : ((rd l1 x14_3) != (rd l2 x14_3)) = false := bne_eq_false_iff_eq.mpr c50
                   clear c50
                   have H' := Aside0.mk H
                   clear H
                   go_wp2
                   first
                   | (go_meet; case rel => exact ⟨_, (true), (by first | rfl | (rw [bl_gt] <;> rfl) | (simp; done) | (simp [*]; done)), H', ⟨by have := HJ5.out; have := HK2.out; have := HK3.out; first | omega | exact Nat.le_refl _⟩, ⟨by (try simp only [hl9_3]); (with_reducible repeat (first | apply Kd.R_alloc | apply Kd.R_drewN | apply Kd.R_drew)); exact HO_9.out⟩, ⟨by (try simp only [hl9_3]); (with_reducible repeat (first | apply Kd.R_alloc | apply Kd.R_drewN | apply Kd.R_drew)); exact HO_10.out⟩, ⟨by (try simp only [hl9_3]); (with_reducible repeat (first | apply Kd.R_alloc | apply Kd.R_drewN | apply Kd.R_drew)); exact HO_11.out⟩, ⟨by repeat (first | (with_reducible first | exact HB.out | apply below_alloc | apply pw_below_drewN | apply below_drew1) | exact HB.out)⟩⟩)
                   | (refine Met.intro ?_; go_step; (repeat apply Exists.intro); refine ⟨?_, ?_⟩; rotate_left; (focus (simp only [c50b0]; try rfl)); exact ⟨_, (true), (by first | rfl | (rw [bl_gt] <;> rfl) | (simp; done) | (simp [*]; done)), H', ⟨by have := HJ5.out; have := HK2.out; have := HK3.out; first | omega | exact Nat.le_refl _⟩, ⟨by (try simp only [hl9_3]); (with_reducible repeat (first | apply Kd.R_alloc | apply Kd.R_drewN | apply Kd.R_drew)); exact HO_9.out⟩, ⟨by (try simp only [hl9_3]); (with_reducible repeat (first | apply Kd.R_alloc | apply Kd.R_drewN | apply Kd.R_drew)); exact HO_10.out⟩, ⟨by (try simp only [hl9_3]); (with_reducible repeat (first | apply Kd.R_alloc | apply Kd.R_drewN | apply Kd.R_drew)); exact HO_11.out⟩, ⟨by repeat (first | (with_reducible first | exact HB.out | apply below_alloc | apply pw_below_drewN | apply below_drew1) | exact HB.out)⟩⟩)
                  ·rw [if_neg c50] at H
                   have c50b0 : ((rd l1 x14_3) == (rd l2 x14_3)) = false := beq_eq_false_iff_ne.mpr c50
                   have c50b1 : ((rd l1 x14_3) != (rd l2 x14_3)) = true := bne_iff_ne.mpr c50
                   by_cases c51 : x14_3 < (l3.length : Int)
                   ·rw [if_pos c51] at H
                    have c51b0 : decide (x14_3 < (l3.length : Int)) = true := decide_eq_true c51
                    clear c51
                    by_cases c52 : (rd l3 x14_3) < 0
                    ·rw [if_pos c52] at H
                     have c52b0 : decide ((rd l3 x14_3) < 0) = true := decide_eq_true c52
                     clear c52
                     have H' := Aside0.mk H
                     clear H
                     have p667 : 0 ≤ (x14_3 : Int) := of_decide_eq_true (by first | (with_reducible assumption) | assumption)
                     have q667 : x14_3 < (l3.length : Int) := of_decide_eq_true (by first | (with_reducible assumption) | assumption)
                     obtain ⟨ad667, e667, hx667_0⟩ := Kd.at_int HR3.out x14_3 p667 q667
                     cases e667
                     replace hx667_0 := (HB.out.cell (World.block_lt_of_cell? w _ hx667_0)).trans hx667_0
                     replace p667 := eq_true p667
                     replace q667 := eq_true q667
                     go_wp2
                     first
                     | (go_meet; case rel => exact ⟨_, (true), (by first | rfl | (rw [bl_gt] <;> rfl) | (simp; done) | (simp [*]; done)), H', ⟨by have := HJ5.out; have := HK2.out; have := HK3.out; first | omega | exact Nat.le_refl _⟩, ⟨by (try simp only [hl9_3]); (with_reducible repeat (first | apply Kd.R_alloc | apply Kd.R_drewN | apply Kd.R_drew)); exact HO_9.out⟩, ⟨by (try simp only [hl9_3]); (with_reducible repeat (first | apply Kd.R_alloc | apply Kd.R_drewN | apply Kd.R_drew)); exact HO_10.out⟩, ⟨by (try simp only [hl9_3]); (with_reducible repeat (first | apply Kd.R_alloc | apply Kd.R_drewN | apply Kd.R_drew)); exact HO_11.out⟩, ⟨by repeat (first | (with_reducible first | exact HB.out | apply below_alloc | apply pw_below_drewN | apply below_drew1) | exact HB.out)⟩⟩)
                     | (refine Met.intro ?_; go_step; (repeat apply Exists.intro); refine ⟨?_, ?_⟩; rotate_left; (focus (simp only [c50b0]; try rfl)); exact ⟨_, (true), (by first | rfl | (rw [bl_gt] <;> rfl) | (simp; done) | (simp [*]; done)), H', ⟨by have := HJ5.out; have := HK2.out; have := HK3.out; first | omega | exact Nat.le_refl _⟩, ⟨by (try simp only [hl9_3]); (with_reducible repeat (first | apply Kd.R_alloc | apply Kd.R_drewN | apply Kd.R_drew)); exact HO_9.out⟩, ⟨by (try simp only [hl9_3]); (with_reducible repeat (first | apply Kd.R_alloc | apply Kd.R_drewN | apply Kd.R_drew)); exact HO_10.out⟩, ⟨by (try simp only [hl9_3]); (with_reducible repeat (first | apply Kd.R_alloc | apply Kd.R_drewN | apply Kd.R_drew)); exact HO_11.out⟩, ⟨by repeat (first | (with_reducible first | exact HB.out | apply below_alloc | apply pw_below_drewN | apply below_drew1) | exact HB.out)⟩⟩)
                    ·rw [if_neg c52] at H
                     have c52b0 : decide ((rd l3 x14_3) < 0) = false := decide_eq_false c52
                     clear c52
                     have H' := Aside0.mk H
                     clear H
                     have p667 : 0 ≤ (x14_3 : Int) := of_decide_eq_true (by first | (with_reducible assumption) | assumption)
                     have q667 : x14_3 < (l3.length : Int) := of_decide_eq_true (by first | (with_reducible assumption) | assumption)
                     obtain ⟨ad667, e667, hx667_0⟩ := Kd.at_int HR3.out x14_3 p667 q667
                     cases e667
                     replace hx667_0 := (HB.out.cell (World.block_lt_of_cell? w _ hx667_0)).trans hx667_0
                     replace p667 := eq_true p667
                     replace q667 := eq_true q667
                     have p668 : 0 ≤ (x14_3 : Int) := of_decide_eq_true (by first | (with_reducible assumption) | assumption)
                     have q668 : x14_3 < (l3.length : Int) := of_decide_eq_true (by first | (with_reducible assumption) | assumption)
                     obtain ⟨ad668, e668, hx668_0⟩ := Kd.at_int HR3.out x14_3 p668 q668
                     obtain rfl : ad667 = ad668 := (by injection e668)
                     replace hx668_0 := (HB.out.cell (World.block_lt_of_cell? w _ hx668_0)).trans hx668_0
                     replace p668 := eq_true p668
                     replace q668 := eq_true q668
                     go_wp2
                     first
                     | (go_meet; case rel => exact ⟨_, (decide ((rd l3 x14_3) > 1000000)), (by first | rfl | (rw [bl_gt] <;> rfl) | (simp; done) | (simp [*]; done)), H', ⟨by have := HJ5.out; have := HK2.out; have := HK3.out; first | omega | exact Nat.le_refl _⟩, ⟨by (try simp only [hl9_3]); (with_reducible repeat (first | apply Kd.R_alloc | apply Kd.R_drewN | apply Kd.R_drew)); exact HO_9.out⟩, ⟨by (try simp only [hl9_3]); (with_reducible repeat (first | apply Kd.R_alloc | apply Kd.R_drewN | apply Kd.R_drew)); exact HO_10.out⟩, ⟨by (try simp only [hl9_3]); (with_reducible repeat (first | apply Kd.R_alloc | apply Kd.R_drewN | apply Kd.R_drew)); exact HO_11.out⟩, ⟨by repeat (first | (with_reducible first | exact HB.out | apply below_alloc | apply pw_below_drewN | apply below_drew1) | exact HB.out)⟩⟩)
                     | (refine Met.intro ?_; go_step; (repeat apply Exists.intro); refine ⟨?_, ?_⟩; rotate_left; (focus (simp only [c50b0]; try rfl)); exact ⟨_, (decide ((rd l3 x14_3) > 1000000)), (by first | rfl | (rw [bl_gt] <;> rfl) | (simp; done) | (simp [*]; done)), H', ⟨by have := HJ5.out; have := HK2.out; have := HK3.out; first | omega | exact Nat.le_refl _⟩, ⟨by (try simp only [hl9_3]); (with_reducible repeat (first | apply Kd.R_alloc | apply Kd.R_drewN | apply Kd.R_drew)); exact HO_9.out⟩, ⟨by (try simp only [hl9_3]); (with_reducible repeat (first | apply Kd.R_alloc | apply Kd.R_drewN | apply Kd.R_drew)); exact HO_10.out⟩, ⟨by (try simp only [hl9_3]); (with_reducible repeat (first | apply Kd.R_alloc | apply Kd.R_drewN | apply Kd.R_drew)); exact HO_11.out⟩, ⟨by repeat (first | (with_reducible first | exact HB.out | apply below_alloc | apply pw_below_drewN | apply below_drew1) | exact HB.out)⟩⟩)
                   ·rw [if_neg c51] at H
                    exact absurd H (by simp)
             case rest =>
              clear HC44
              try clear c1
              try clear c2
              try clear p2
              try clear c3
              try clear c4
              try clear c5
              try clear p6
              try clear q6
              try clear hx6
              try clear c10
              try clear c10b0
              try clear c10b1
              try clear c12
              try clear c12b0
              try clear c12b1
              try clear c14
              try clear c14b0
              try clear c14b1
              try clear c16
              try clear c16b0
              try clear c16b1
              try clear c19
              try clear c24
              try clear c24b0
              try clear c27
              try clear c27b0
              try clear c28
              try clear c28b0
              try clear c29
              try clear c32
              try clear c32b0
              try clear c33
              try clear c33b0
              try clear c34
              try clear c34b0
              try clear c36
              try clear c41
              try clear c41b0
              try clear c42
              try clear c42b0
              try clear c43
              try clear c43b0
              try clear c46
              try clear c46b0
              try clear c47
              try clear c47b0
              try clear c48
              try clear c48b0
              try clear c49
              try clear c49b0
              try clear c50
              try clear c50b0
              try clear c50b1
              try clear c51
              try clear c51b0
              try clear c52
              try clear c52b0
              try clear hx655_0
              try clear hx656_0
              try clear hx658_0
              try clear hx659_0
              try clear hx660_0
              try clear hx665_0
              try clear hx666_0
              try clear hx667_0
              try clear hx668_0
              try clear p2
              try clear p6
              try clear p655
              try clear p656
              try clear p658
              try clear p659
              try clear p660
              try clear p665
              try clear p666
              try clear p667
              try clear p668
              try clear q6
              try clear q655
              try clear q656
              try clear q658
              try clear q659
              try clear q660
              try clear q665
              try clear q666
              try clear q667
              try clear q668
              obtain ⟨kq, x142_43, rfl, HA, HJ43, HO_9, HO_10, HO_11, HB⟩ := hcut
              cases kq with
              | zero => exact absurd HA.out (by simp [folkmootlaw08_TxnSum.j4])
              | succ kj43 =>
               have H := HA.out
               clear HA
               simp only [folkmootlaw08_TxnSum.j4] at H
               by_cases c53 : x142_43 = true
               ·subst c53
                have H1 : ((folkmootlaw08_live.f).bind fun t669 => (some t669)) = some r := by rw [if_pos rfl] at H; exact H
                clear H
                have H := H1
                clear H1
                replace H := Option.bind_eq_some_iff.mp H
                obtain ⟨t669, A540, H⟩ := H
                replace H : (some t669) = some r := H
                have A54 := Aside0.mk A540
                clear A540
                obtain rfl := Option.some.inj H
                go_wp2_with (first | ((with_reducible refine gate_callee (f := 14) rfl ?_); refine goesL_ (some 143) rfl rfl Tryz.func14 (by kernel_rfl) rfl #[] rfl (by (try simp only [List.map_toArray, List.map_cons, List.map_nil]); first | done | rfl | (simp only [List.length_drop, List.length_take]; rfl)) ?_; (with_reducible refine (folkmootlaw08_live.calls  t669 _ A54.out).mono ?_); rintro e w55 ⟨rfl, hb⟩; refine ⟨_, rfl, ?_⟩; have n0_ := Aside0.mk (Kd.R_below (by (with_reducible repeat (first | apply Kd.R_alloc | apply Kd.R_drewN | apply Kd.R_drew)); exact HO_9.out) hb); have n1_ := Aside0.mk (Kd.R_below (by (with_reducible repeat (first | apply Kd.R_alloc | apply Kd.R_drewN | apply Kd.R_drew)); exact HO_10.out) hb); have n2_ := Aside0.mk (Kd.R_below (by (with_reducible repeat (first | apply Kd.R_alloc | apply Kd.R_drewN | apply Kd.R_drew)); exact HO_11.out) hb); have n3_ := Aside0.mk (below_step (by repeat (first | (with_reducible first | exact HB.out | apply below_alloc | apply pw_below_drewN | apply below_drew1) | exact HB.out)) hb); clear HO_9; clear HO_10; clear HO_11; clear HB; have HO_9 := n0_; have HO_10 := n1_; have HO_11 := n2_; have HB := n3_; clear n0_ n1_ n2_ n3_; (try clear hb); (try clear hb2); (try clear hk); (try clear hi)))
                go_ret
                exact ⟨by first | rfl | (rw [bl_gt] <;> rfl) | (simp [errW_none, errW_some] <;> rfl) | (simp [*, errW_none, errW_some] <;> rfl), by repeat (first | (with_reducible first | exact HB.out | apply below_alloc | apply pw_below_drewN | apply below_drew1) | exact HB.out)⟩
               ·replace c53 := Bool.eq_false_iff.mpr c53
                subst c53
                have H1 : (if 0 ≤ (rd l1 x14_3) then (if (rd l1 x14_3) < (y652.length : Int) then (if 0 ≤ (rd l2 x14_3) then (if (rd l2 x14_3) < (y652.length : Int) then (if 0 ≤ x14_3 then (if x14_3 < (l3.length : Int) then ((folkmootref07_Of.f (rd l3 x14_3)).bind fun t673 => ((txn_Eval.f (([(⟨6, rdOf ByteArray.empty y652 (rd l1 x14_3), rdOf ByteArray.empty y652 (rd l2 x14_3), t673⟩ : S63)] : List (S63))) x11_3).bind fun bt677 => (if (rd l1 x14_3) < (x9_3.length : Int) then (if (bt677.2.length : Int) = 1 then (if 0 < (bt677.2.length : Int) then (if (((rd_T65 bt677.2 0).f0) != (decide ((rd x9_3 (rd l1 x14_3)) ≥ (rd l3 x14_3)))) = true then (folkmootlaw08_TxnSum.j5 kj43 l1 l2 l3 x9_3 y652 x11_3 x12_2 x14_3 (rd l1 x14_3) (rd l2 x14_3) bt677.1 (decide ((rd x9_3 (rd l1 x14_3)) ≥ (rd l3 x14_3))) true) else (folkmootlaw08_TxnSum.j5 kj43 l1 l2 l3 x9_3 y652 x11_3 x12_2 x14_3 (rd l1 x14_3) (rd l2 x14_3) bt677.1 (decide ((rd x9_3 (rd l1 x14_3)) ≥ (rd l3 x14_3))) ((decide ((rd x9_3 (rd l1 x14_3)) ≥ (rd l3 x14_3))) != ((bt677.1.length : Int) == 2)))) else (none)) else (folkmootlaw08_TxnSum.j5 kj43 l1 l2 l3 x9_3 y652 x11_3 x12_2 x14_3 (rd l1 x14_3) (rd l2 x14_3) bt677.1 (decide ((rd x9_3 (rd l1 x14_3)) ≥ (rd l3 x14_3))) true)) else (none)))) else (none)) else (none)) else (none)) else (none)) else (none)) else (none)) = some r := by rw [if_neg (show ¬ (false = true) by decide)] at H; exact H
                clear H
                have H := H1
                clear H1
                by_cases c56 : 0 ≤ (rd l1 x14_3)
                ·rw [if_pos c56] at H
                 have c56b0 : decide (0 ≤ (rd l1 x14_3)) = true := decide_eq_true c56
                 clear c56
                 by_cases c57 : (rd l1 x14_3) < (y652.length : Int)
                 ·rw [if_pos c57] at H
                  have c57b0 : decide ((rd l1 x14_3) < (y652.length : Int)) = true := decide_eq_true c57
                  clear c57
                  by_cases c58 : 0 ≤ (rd l2 x14_3)
                  ·rw [if_pos c58] at H
                   have c58b0 : decide (0 ≤ (rd l2 x14_3)) = true := decide_eq_true c58
                   clear c58
                   by_cases c59 : (rd l2 x14_3) < (y652.length : Int)
                   ·rw [if_pos c59] at H
                    have c59b0 : decide ((rd l2 x14_3) < (y652.length : Int)) = true := decide_eq_true c59
                    clear c59
                    by_cases c60 : 0 ≤ x14_3
                    ·rw [if_pos c60] at H
                     have c60b0 : decide (0 ≤ x14_3) = true := decide_eq_true c60
                     clear c60
                     by_cases c61 : x14_3 < (l3.length : Int)
                     ·rw [if_pos c61] at H
                      have c61b0 : decide (x14_3 < (l3.length : Int)) = true := decide_eq_true c61
                      clear c61
                      replace H := Option.bind_eq_some_iff.mp H
                      obtain ⟨t673, A620, H⟩ := H
                      replace H : ((txn_Eval.f (([(⟨6, rdOf ByteArray.empty y652 (rd l1 x14_3), rdOf ByteArray.empty y652 (rd l2 x14_3), t673⟩ : S63)] : List (S63))) x11_3).bind fun bt677 => (if (rd l1 x14_3) < (x9_3.length : Int) then (if (bt677.2.length : Int) = 1 then (if 0 < (bt677.2.length : Int) then (if (((rd_T65 bt677.2 0).f0) != (decide ((rd x9_3 (rd l1 x14_3)) ≥ (rd l3 x14_3)))) = true then (folkmootlaw08_TxnSum.j5 kj43 l1 l2 l3 x9_3 y652 x11_3 x12_2 x14_3 (rd l1 x14_3) (rd l2 x14_3) bt677.1 (decide ((rd x9_3 (rd l1 x14_3)) ≥ (rd l3 x14_3))) true) else (folkmootlaw08_TxnSum.j5 kj43 l1 l2 l3 x9_3 y652 x11_3 x12_2 x14_3 (rd l1 x14_3) (rd l2 x14_3) bt677.1 (decide ((rd x9_3 (rd l1 x14_3)) ≥ (rd l3 x14_3))) ((decide ((rd x9_3 (rd l1 x14_3)) ≥ (rd l3 x14_3))) != ((bt677.1.length : Int) == 2)))) else (none)) else (folkmootlaw08_TxnSum.j5 kj43 l1 l2 l3 x9_3 y652 x11_3 x12_2 x14_3 (rd l1 x14_3) (rd l2 x14_3) bt677.1 (decide ((rd x9_3 (rd l1 x14_3)) ≥ (rd l3 x14_3))) true)) else (none))) = some r := H
                      have A62 := Aside0.mk A620
                      clear A620
                      obtain ⟨y674, hy674⟩ : ∃ y_ : List (S63), y_ = (([(⟨6, rdOf ByteArray.empty y652 (rd l1 x14_3), rdOf ByteArray.empty y652 (rd l2 x14_3), t673⟩ : S63)] : List (S63))) := ⟨_, rfl⟩
                      replace H : ((txn_Eval.f y674 x11_3).bind fun bt677 => (if (rd l1 x14_3) < (x9_3.length : Int) then (if (bt677.2.length : Int) = 1 then (if 0 < (bt677.2.length : Int) then (if (((rd_T65 bt677.2 0).f0) != (decide ((rd x9_3 (rd l1 x14_3)) ≥ (rd l3 x14_3)))) = true then (folkmootlaw08_TxnSum.j5 kj43 l1 l2 l3 x9_3 y652 x11_3 x12_2 x14_3 (rd l1 x14_3) (rd l2 x14_3) bt677.1 (decide ((rd x9_3 (rd l1 x14_3)) ≥ (rd l3 x14_3))) true) else (folkmootlaw08_TxnSum.j5 kj43 l1 l2 l3 x9_3 y652 x11_3 x12_2 x14_3 (rd l1 x14_3) (rd l2 x14_3) bt677.1 (decide ((rd x9_3 (rd l1 x14_3)) ≥ (rd l3 x14_3))) ((decide ((rd x9_3 (rd l1 x14_3)) ≥ (rd l3 x14_3))) != ((bt677.1.length : Int) == 2)))) else (none)) else (folkmootlaw08_TxnSum.j5 kj43 l1 l2 l3 x9_3 y652 x11_3 x12_2 x14_3 (rd l1 x14_3) (rd l2 x14_3) bt677.1 (decide ((rd x9_3 (rd l1 x14_3)) ≥ (rd l3 x14_3))) true)) else (none))) = some r := by first | (rw [hy674]; with_reducible exact H) | (have H2_ := (Option.bind_some _ _).symm.trans H; rw [hy674]; with_reducible exact H2_) | (have H2_ := (Option.bind_some _ _).symm.trans H; with_reducible exact H2_) | with_reducible exact H | (rw [hy674]; exact H) | exact H
                      have Ny674 := Aside0.mk hy674
                      clear hy674
                      replace H := Option.bind_eq_some_iff.mp H
                      obtain ⟨⟨t677, t678⟩, A630, H⟩ := H
                      replace H : (if (rd l1 x14_3) < (x9_3.length : Int) then (if (t678.length : Int) = 1 then (if 0 < (t678.length : Int) then (if (((rd_T65 t678 0).f0) != (decide ((rd x9_3 (rd l1 x14_3)) ≥ (rd l3 x14_3)))) = true then (folkmootlaw08_TxnSum.j5 kj43 l1 l2 l3 x9_3 y652 x11_3 x12_2 x14_3 (rd l1 x14_3) (rd l2 x14_3) t677 (decide ((rd x9_3 (rd l1 x14_3)) ≥ (rd l3 x14_3))) true) else (folkmootlaw08_TxnSum.j5 kj43 l1 l2 l3 x9_3 y652 x11_3 x12_2 x14_3 (rd l1 x14_3) (rd l2 x14_3) t677 (decide ((rd x9_3 (rd l1 x14_3)) ≥ (rd l3 x14_3))) ((decide ((rd x9_3 (rd l1 x14_3)) ≥ (rd l3 x14_3))) != ((t677.length : Int) == 2)))) else (none)) else (folkmootlaw08_TxnSum.j5 kj43 l1 l2 l3 x9_3 y652 x11_3 x12_2 x14_3 (rd l1 x14_3) (rd l2 x14_3) t677 (decide ((rd x9_3 (rd l1 x14_3)) ≥ (rd l3 x14_3))) true)) else (none)) = some r := H
                      have A63 := Aside0.mk A630
                      clear A630
                      by_cases c64 : (rd l1 x14_3) < (x9_3.length : Int)
                      ·rw [if_pos c64] at H
                       have c64b0 : decide ((rd l1 x14_3) < (x9_3.length : Int)) = true := decide_eq_true c64
                       clear c64
                       have HC65 := Aside0.mk H
                       clear H
                       try go_wp2
                       have n0_ := Aside0.mk (Kd.R_drew HO_9.out)
                       have n1_ := Aside0.mk (Kd.R_drew HO_10.out)
                       have n2_ := Aside0.mk (Kd.R_drew HO_11.out)
                       have n3_ := Aside0.mk (below_drew1 HB.out)
                       clear HO_9
                       clear HO_10
                       clear HO_11
                       clear HB
                       have HO_9 := n0_
                       have HO_10 := n1_
                       have HO_11 := n2_
                       have HB := n3_
                       clear n0_ n1_ n2_ n3_
                       obtain ⟨Ao67, co67, eo67⟩ := Kd.R_slice HO_10.out
                       (first | subst eo67 | (injection eo67 with f1_ f2_ f3_; have f4_ := f1_.symm; have f5_ := f3_.symm; clear f1_ f2_ f3_; subst f4_; subst f5_))
                       have p670 : 0 ≤ ((rd l1 x14_3) : Int) := of_decide_eq_true (by first | (with_reducible assumption) | assumption)
                       have q670 : (rd l1 x14_3) < (y652.length : Int) := of_decide_eq_true (by first | (with_reducible assumption) | assumption)
                       obtain ⟨ad670, e670, hx670_0⟩ := Kd.at_string (Kd.R_reads' HO_10.out).2.2 (rd l1 x14_3) p670 q670
                       cases e670
                       replace p670 := eq_true p670
                       replace q670 := eq_true q670
                       have p671 : 0 ≤ ((rd l2 x14_3) : Int) := of_decide_eq_true (by first | (with_reducible assumption) | assumption)
                       have q671 : (rd l2 x14_3) < (y652.length : Int) := of_decide_eq_true (by first | (with_reducible assumption) | assumption)
                       obtain ⟨ad671, e671, hx671_0⟩ := Kd.at_string (Kd.R_reads' HO_10.out).2.2 (rd l2 x14_3) p671 q671
                       obtain rfl : ad670 = ad671 := (by injection e671)
                       replace p671 := eq_true p671
                       replace q671 := eq_true q671
                       have p672 : 0 ≤ (x14_3 : Int) := of_decide_eq_true (by first | (with_reducible assumption) | assumption)
                       have q672 : x14_3 < (l3.length : Int) := of_decide_eq_true (by first | (with_reducible assumption) | assumption)
                       obtain ⟨ad672, e672, hx672_0⟩ := Kd.at_int HR3.out x14_3 p672 q672
                       have hw672_0 := hx672_0
                       cases e672
                       replace hx672_0 := (HB.out.cell (World.block_lt_of_cell? w _ hx672_0)).trans hx672_0
                       replace p672 := eq_true p672
                       replace q672 := eq_true q672
                       refine start_ (n := 22) (S := fun w' => w'.cell? (ad670.add ((rd l1 x14_3)).toNat) = some (.string (rdOf ByteArray.empty y652 (rd l1 x14_3))) ∧ w'.cell? (ad670.add ((rd l2 x14_3)).toNat) = some (.string (rdOf ByteArray.empty y652 (rd l2 x14_3))) ∧ w'.cell? (ad672.add (x14_3).toNat) = some (.int .i64 (rd l3 x14_3))) (ds := []) #[false,false,false,false,false,false,false,false,false,false,false,false,false,false,false,false,false,false,false,false,false,false] (by kernel_rfl) rfl rfl ⟨hx670_0, hx671_0, ((HB.out.cell (World.block_lt_of_cell? w _ hw672_0)).trans hw672_0)⟩ (fun hHeld => ?_); refine with_tabW folkmootlaw08_TxnSum.tab20 folkmootlaw08_TxnSum.bits20 (fun HT_ HW_ => ?_)
                       generalize wc.drew = w66 at HO_9 HO_10 HO_11 HB hx670_0 hx671_0 hx672_0 hHeld ⊢
                       refine pure_ (i := 0) (N := some 145) (v := ?_) (a' := ?_) #[true,false,false,false,false,false,false,false,false,false,false,false,false,false,false,false,false,false,false,false,false,false] rfl rfl (any_of HT_.out (by kernel_rfl)) (fun _ _ _ h => h) (Or.inl ⟨by rfl, ?_⟩) ?_ ?_
                       rotate_left
                       ·intro w'
                        go_simp
                        with_reducible rfl
                       rotate_left
                       ·simp only [Act.put, List.setIfInBounds_toArray, List.set_cons_zero, List.set_cons_succ, i64_w, i32_w]
                        rfl
                       refine pure_ (i := 1) (N := some 146) (v := ?_) (a' := ?_) #[true,true,false,false,false,false,false,false,false,false,false,false,false,false,false,false,false,false,false,false,false,false] rfl rfl (any_of HT_.out (by kernel_rfl)) (fun _ _ _ h => h) (Or.inl ⟨by rfl, ?_⟩) ?_ ?_
                       rotate_left
                       ·intro w'
                        go_simp
                        with_reducible rfl
                       rotate_left
                       ·simp only [Act.put, List.setIfInBounds_toArray, List.set_cons_zero, List.set_cons_succ, i64_w, i32_w]
                        rfl
                       refine pure_ (i := 2) (N := some 147) (v := ?_) (a' := ?_) #[true,true,true,false,false,false,false,false,false,false,false,false,false,false,false,false,false,false,false,false,false,false] rfl rfl (any_of HT_.out (by kernel_rfl)) (fun _ _ _ h => h) (Or.inl ⟨by rfl, ?_⟩) ?_ ?_
                       rotate_left
                       ·intro w'
                        go_simp
                        with_reducible rfl
                       rotate_left
                       ·simp only [Act.put, List.setIfInBounds_toArray, List.set_cons_zero, List.set_cons_succ, i64_w, i32_w]
                        rfl
                       refine pure_ (i := 4) (N := some 149) (v := ?_) (a' := ?_) #[true,true,true,false,true,false,false,false,false,false,false,false,false,false,false,false,false,false,false,false,false,false] rfl rfl (any_of HT_.out (by kernel_rfl)) (fun _ _ _ h => h) (Or.inl ⟨by rfl, ?_⟩) ?_ ?_
                       rotate_left
                       ·intro w'
                        go_simp
                        with_reducible rfl
                       rotate_left
                       ·simp only [Act.put, List.setIfInBounds_toArray, List.set_cons_zero, List.set_cons_succ, i64_w, i32_w]
                        rfl
                       refine pure_ (i := 5) (N := some 150) (v := ?_) (a' := ?_) #[true,true,true,false,true,true,false,false,false,false,false,false,false,false,false,false,false,false,false,false,false,false] rfl rfl (any_of HT_.out (by kernel_rfl)) (fun _ _ _ h => h) (Or.inl ⟨by rfl, ?_⟩) ?_ ?_
                       rotate_left
                       ·intro w'
                        go_simp
                        with_reducible rfl
                       rotate_left
                       ·simp only [Act.put, List.setIfInBounds_toArray, List.set_cons_zero, List.set_cons_succ, i64_w, i32_w]
                        rfl
                       refine pure_ (i := 6) (N := some 151) (v := ?_) (a' := ?_) #[true,true,true,false,true,true,true,false,false,false,false,false,false,false,false,false,false,false,false,false,false,false] rfl rfl (any_of HT_.out (by kernel_rfl)) (fun _ _ _ h => h) (Or.inl ⟨by rfl, ?_⟩) ?_ ?_
                       rotate_left
                       ·intro w'
                        go_simp
                        with_reducible rfl
                       rotate_left
                       ·simp only [Act.put, List.setIfInBounds_toArray, List.set_cons_zero, List.set_cons_succ, i64_w, i32_w]
                        rfl
                       refine pure_ (i := 8) (N := some 153) (v := ?_) (a' := ?_) #[true,true,true,false,true,true,true,false,true,false,false,false,false,false,false,false,false,false,false,false,false,false] rfl rfl (any_of HT_.out (by kernel_rfl)) (fun _ _ _ h => h) (Or.inl ⟨by rfl, ?_⟩) ?_ ?_
                       rotate_left
                       ·intro w'
                        go_simp
                        with_reducible rfl
                       rotate_left
                       ·simp only [Act.put, List.setIfInBounds_toArray, List.set_cons_zero, List.set_cons_succ, i64_w, i32_w]
                        rfl
                       refine pure_ (i := 9) (N := some 154) (v := ?_) (a' := ?_) #[true,true,true,false,true,true,true,false,true,true,false,false,false,false,false,false,false,false,false,false,false,false] rfl rfl (any_of HT_.out (by kernel_rfl)) (fun _ _ _ h => h) (Or.inl ⟨by rfl, ?_⟩) ?_ ?_
                       rotate_left
                       ·intro w'
                        go_simp
                        with_reducible rfl
                       rotate_left
                       ·simp only [Act.put, List.setIfInBounds_toArray, List.set_cons_zero, List.set_cons_succ, i64_w, i32_w]
                        rfl
                       refine pure_ (i := 10) (N := some 155) (v := ?_) (a' := ?_) #[true,true,true,false,true,true,true,false,true,true,true,false,false,false,false,false,false,false,false,false,false,false] rfl rfl (any_of HT_.out (by kernel_rfl)) (fun _ _ _ h => h) (Or.inl ⟨by rfl, ?_⟩) ?_ ?_
                       rotate_left
                       ·intro w'
                        go_simp
                        with_reducible rfl
                       rotate_left
                       ·simp only [Act.put, List.setIfInBounds_toArray, List.set_cons_zero, List.set_cons_succ, i64_w, i32_w]
                        rfl
                       refine pure_ (i := 15) (N := some 160) (v := ?_) (a' := ?_) #[true,true,true,false,true,true,true,false,true,true,true,false,false,false,false,true,false,false,false,false,false,false] rfl rfl (any_of HT_.out (by kernel_rfl)) (fun _ _ _ h => h) (Or.inl ⟨by rfl, ?_⟩) ?_ ?_
                       rotate_left
                       ·intro w'
                        go_simp
                        with_reducible rfl
                       rotate_left
                       ·simp only [Act.put, List.setIfInBounds_toArray, List.set_cons_zero, List.set_cons_succ, i64_w, i32_w]
                        rfl
                       refine take_ (i := 3) (N := some 148) (v := ?_) (a' := ?_) #[true,true,true,true,true,true,true,false,true,true,true,false,false,false,false,true,false,false,false,false,false,false] rfl rfl (take_ofW HT_.out HW_.out (by kernel_rfl)) (fun _ _ _ h => h) (Or.inl ⟨by rfl, ?_⟩) hHeld ?_ ?_
                       rotate_left
                       ·rintro w' ⟨s0, s1, s2⟩
                        go_simp
                        with_reducible rfl
                       rotate_left
                       ·simp only [Act.put, List.setIfInBounds_toArray, List.set_cons_zero, List.set_cons_succ, i64_w, i32_w]
                        rfl
                       refine take_ (i := 7) (N := some 152) (v := ?_) (a' := ?_) #[true,true,true,true,true,true,true,true,true,true,true,false,false,false,false,true,false,false,false,false,false,false] rfl rfl (take_ofW HT_.out HW_.out (by kernel_rfl)) (fun _ _ _ h => h) (Or.inl ⟨by rfl, ?_⟩) hHeld ?_ ?_
                       rotate_left
                       ·rintro w' ⟨s0, s1, s2⟩
                        go_simp
                        with_reducible rfl
                       rotate_left
                       ·simp only [Act.put, List.setIfInBounds_toArray, List.set_cons_zero, List.set_cons_succ, i64_w, i32_w]
                        rfl
                       refine take_ (i := 11) (N := some 156) (v := ?_) (a' := ?_) #[true,true,true,true,true,true,true,true,true,true,true,true,false,false,false,true,false,false,false,false,false,false] rfl rfl (take_ofW HT_.out HW_.out (by kernel_rfl)) (fun _ _ _ h => h) (Or.inl ⟨by rfl, ?_⟩) hHeld ?_ ?_
                       rotate_left
                       ·rintro w' ⟨s0, s1, s2⟩
                        go_simp
                        with_reducible rfl
                       rotate_left
                       ·simp only [Act.put, List.setIfInBounds_toArray, List.set_cons_zero, List.set_cons_succ, i64_w, i32_w]
                        rfl
                       refine one_ (i := 12) (N := some 157) #[true,true,true,true,true,true,true,true,true,true,true,true,true,false,false,true,false,false,false,false,false,false] rfl rfl (one_of HT_.out (by kernel_rfl)) (by decide) (fun K hK => ?_)
                       refine goes_ Tryz.func36 (by kernel_rfl) rfl #[.int .i64 (rd l3 x14_3)] (by rfl) rfl rfl (by (try simp only [List.map_toArray, List.map_cons, List.map_nil]); first | done | rfl | (simp only [List.length_drop, List.length_take]; rfl)) ?_
                       with_reducible refine (folkmootref07_Of.calls (rd l3 x14_3) t673 _ A62.out).mono ?_
                       rintro e w' ⟨rfl, ⟨nd, rfl⟩⟩
                       refine ⟨_, rfl, ?_⟩
                       refine hK.out _ _ ⟨hHeld.1, hHeld.2.1, ((HB.out.cell (World.block_lt_of_cell? w _ hw672_0)).trans hw672_0)⟩ (fun hHeld => ?_)
                       clear hK K
                       refine norm_ (a' := ?_) ?_ ?_
                       rotate_left
                       ·show Act.put _ (some 157) _ = _
                        simp only [Act.put, List.setIfInBounds_toArray, List.set_cons_zero, List.set_cons_succ, i64_w, i32_w]
                        rfl
                       refine pure_ (i := 13) (N := some 158) (v := ?_) (a' := ?_) #[true,true,true,true,true,true,true,true,true,true,true,true,true,true,false,true,false,false,false,false,false,false] rfl rfl (any_of HT_.out (by kernel_rfl)) (fun _ _ _ h => h) (Or.inl ⟨by rfl, ?_⟩) ?_ ?_
                       rotate_left
                       ·intro w'
                        go_simp
                        with_reducible rfl
                       rotate_left
                       ·simp only [Act.put, List.setIfInBounds_toArray, List.set_cons_zero, List.set_cons_succ, i64_w, i32_w]
                        rfl
                       refine one_ (i := 14) (N := some 159) #[true,true,true,true,true,true,true,true,true,true,true,true,true,true,true,true,false,false,false,false,false,false] rfl rfl (one_of HT_.out (by kernel_rfl)) (by decide) (fun K hK => ?_)
                       refine Kd.R_lit_step k63 _ 63 ?hg (N := 159) ?hd (xs := ([(⟨6, rdOf ByteArray.empty y652 (rd l1 x14_3), rdOf ByteArray.empty y652 (rd l2 x14_3), t673⟩ : S63)] : List (S63))) (inner := [.int .i64 6, .string (rdOf ByteArray.empty y652 (rd l1 x14_3)), .string (rdOf ByteArray.empty y652 (rd l2 x14_3)), .int .u64 t673]) (ok := fun _ => True) (okp := fun _ => True) ?hr ?hp (fun _ hk => hk) trivial (Below.refl _ _) (Nat.le_refl _) (by simp) ?_; (case hd => rfl); (case hg => rfl); (case hr => first | (go_simp; done) | (go_simp; rfl)); (case hp => exact (Reps.c4 (show Kd.M k63 _ _ _ (⟨6, rdOf ByteArray.empty y652 (rd l1 x14_3), rdOf ByteArray.empty y652 (rd l2 x14_3), t673⟩ : S63) [.int .i64 6, .string (rdOf ByteArray.empty y652 (rd l1 x14_3)), .string (rdOf ByteArray.empty y652 (rd l2 x14_3)), .int .u64 t673] from (k63_mkM _ _ _ (⟨6, rdOf ByteArray.empty y652 (rd l1 x14_3), rdOf ByteArray.empty y652 (rd l2 x14_3), t673⟩ : S63) )) (Reps.none _ _)))
                       intro v675 w68 ho69 hb hg_ hnew_
                       have HS0_ := (hb.cell (World.block_lt_of_cell? _ _ (hHeld.1))).trans (hHeld.1)
                       have HS1_ := (hb.cell (World.block_lt_of_cell? _ _ (hHeld.2.1))).trans (hHeld.2.1)
                       clear hg_ hnew_
                       (first | rw [← Ny674.out] at ho69 | (simp only [Int.reduceToNat] at ho69; rw [← Ny674.out] at ho69))
                       have n0_ := Aside0.mk (Kd.R_below (by (with_reducible repeat (first | apply Kd.R_alloc | apply Kd.R_drewN | apply Kd.R_drew)); exact HO_9.out) hb)
                       have n1_ := Aside0.mk (Kd.R_below (by (with_reducible repeat (first | apply Kd.R_alloc | apply Kd.R_drewN | apply Kd.R_drew)); exact HO_10.out) hb)
                       have n2_ := Aside0.mk (Kd.R_below (by (with_reducible repeat (first | apply Kd.R_alloc | apply Kd.R_drewN | apply Kd.R_drew)); exact HO_11.out) hb)
                       have n3_ := Aside0.mk (Kd.R_lower ho69 (below_size (by repeat (first | (with_reducible first | exact HB.out | apply below_alloc | apply pw_below_drewN | apply below_drew1) | exact HB.out))))
                       have n4_ := Aside0.mk (below_step (by repeat (first | (with_reducible first | exact HB.out | apply below_alloc | apply pw_below_drewN | apply below_drew1) | exact HB.out)) hb)
                       clear HO_9
                       clear HO_10
                       clear HO_11
                       clear HB
                       have HO_9 := n0_
                       have HO_10 := n1_
                       have HO_11 := n2_
                       have HO676 := n3_
                       have HB := n4_
                       clear n0_ n1_ n2_ n3_ n4_
                       clear hb ho69
                       obtain ⟨Ao70, co70, eo70⟩ := Kd.R_slice HO676.out
                       (first | subst eo70 | (injection eo70 with f1_ f2_ f3_; have f4_ := f1_.symm; have f5_ := f3_.symm; clear f1_ f2_ f3_; subst f4_; subst f5_))
                       obtain ⟨Ao71, co71, eo71⟩ := Kd.R_slice HO_11.out
                       (first | subst eo71 | (injection eo71 with f1_ f2_ f3_; have f4_ := f1_.symm; have f5_ := f3_.symm; clear f1_ f2_ f3_; subst f4_; subst f5_))
                       refine hK.out _ _ ⟨HS0_, HS1_, ((HB.out.cell (World.block_lt_of_cell? w _ hw672_0)).trans hw672_0)⟩ (fun hHeld => ?_)
                       clear hK K
                       refine norm_ (a' := ?_) ?_ ?_
                       rotate_left
                       ·show Act.put _ (some 159) _ = _
                        simp only [Act.put, List.setIfInBounds_toArray, List.set_cons_zero, List.set_cons_succ, i64_w, i32_w]
                        rfl
                       refine one_ (i := 16) (N := some 161) #[true,true,true,true,true,true,true,true,true,true,true,true,true,true,true,true,true,false,false,false,false,false] rfl rfl (one_of HT_.out (by kernel_rfl)) (by decide) (fun K hK => ?_)
                       refine goes_ Tryz.func26 (by kernel_rfl) rfl #[.slice Ao70 y674.length co70, .slice Ao71 x11_3.length co71] (by rfl) rfl rfl (by (try simp only [List.map_toArray, List.map_cons, List.map_nil]); first | done | rfl | (simp only [List.length_drop, List.length_take]; rfl)) ?_
                       with_reducible refine (txn_Eval.calls _ _ y674 _ _ x11_3 t677 t678 _ ?side1 ?side2 ?side3 ?side4 A63.out).mono ?_
                       (case side1 => repeat (first | exact (Kd.R_reads' HO676.out).2.2 | (with_reducible refine Kd.C_alloc ?_ _) | (with_reducible refine Kd.C_drewN ?_ _) | (with_reducible refine Kd.C_drew ?_)))
                       (case side2 => exact (Kd.R_reads' HO676.out).2.1)
                       (case side3 => repeat (first | exact (Kd.R_reads' HO_11.out).2.2 | (with_reducible refine Kd.C_alloc ?_ _) | (with_reducible refine Kd.C_drewN ?_ _) | (with_reducible refine Kd.C_drew ?_)))
                       (case side4 => exact (Kd.R_reads' HO_11.out).2.1)
                       rintro e w72 ⟨v679, v681, rfl, ho0, ho1, hb⟩
                       have HS0_ := (hb.cell (World.block_lt_of_cell? _ _ (hHeld.1))).trans (hHeld.1)
                       have HS1_ := (hb.cell (World.block_lt_of_cell? _ _ (hHeld.2.1))).trans (hHeld.2.1)
                       refine ⟨_, rfl, ?_⟩
                       have n0_ := Aside0.mk (Kd.R_below (by (with_reducible repeat (first | apply Kd.R_alloc | apply Kd.R_drewN | apply Kd.R_drew)); exact HO_9.out) hb)
                       have n1_ := Aside0.mk (Kd.R_below (by (with_reducible repeat (first | apply Kd.R_alloc | apply Kd.R_drewN | apply Kd.R_drew)); exact HO_10.out) hb)
                       have n2_ := Aside0.mk (Kd.R_below (by (with_reducible repeat (first | apply Kd.R_alloc | apply Kd.R_drewN | apply Kd.R_drew)); exact HO_11.out) hb)
                       have n3_ := Aside0.mk (Kd.R_below (by (with_reducible repeat (first | apply Kd.R_alloc | apply Kd.R_drewN | apply Kd.R_drew)); exact HO676.out) hb)
                       have n4_ := Aside0.mk (Kd.R_lower ho0 (below_size (by repeat (first | (with_reducible first | exact HB.out | apply below_alloc | apply pw_below_drewN | apply below_drew1) | exact HB.out))))
                       have n5_ := Aside0.mk (Kd.S_lower (Kd.S_new' ho1 (Kd.R_lt (by (with_reducible repeat (first | apply Kd.R_alloc | apply Kd.R_drewN | apply Kd.R_drew)); exact HO_11.out))) (below_size (by repeat (first | (with_reducible first | exact HB.out | apply below_alloc | apply pw_below_drewN | apply below_drew1) | exact HB.out))))
                       have n6_ := Aside0.mk (below_step (by repeat (first | (with_reducible first | exact HB.out | apply below_alloc | apply pw_below_drewN | apply below_drew1) | exact HB.out)) hb)
                       clear HO_9
                       clear HO_10
                       clear HO_11
                       clear HO676
                       clear HB
                       have HO_9 := n0_
                       have HO_10 := n1_
                       have HO_11 := n2_
                       have HO676 := n3_
                       have HO680 := n4_
                       have HO682 := n5_
                       have HB := n6_
                       clear n0_ n1_ n2_ n3_ n4_ n5_ n6_
                       (try clear hb)
                       (try clear hb2)
                       (try clear hk)
                       (try clear hi)
                       (try clear ho0)
                       (try clear ho1)
                       refine hK.out _ _ ⟨HS0_, HS1_, ((HB.out.cell (World.block_lt_of_cell? w _ hw672_0)).trans hw672_0)⟩ (fun hHeld => ?_)
                       clear hK K
                       refine norm_ (a' := ?_) ?_ ?_
                       rotate_left
                       ·show Act.put _ (some 161) _ = _
                        simp only [Act.put, List.setIfInBounds_toArray, List.set_cons_zero, List.set_cons_succ, i64_w, i32_w]
                        rfl
                       refine pure_ (i := 17) (N := some 144) (v := ?_) (a' := ?_) #[true,true,true,true,true,true,true,true,true,true,true,true,true,true,true,true,true,true,false,false,false,false] rfl rfl (any_of HT_.out (by kernel_rfl)) (fun _ _ _ h => h) (Or.inl ⟨by rfl, ?_⟩) ?_ ?_
                       rotate_left
                       ·intro w'
                        go_simp
                        with_reducible rfl
                       rotate_left
                       ·simp only [Act.put, List.setIfInBounds_toArray, List.set_cons_zero, List.set_cons_succ, i64_w, i32_w]
                        rfl
                       refine pure_ (i := 18) (N := some 162) (v := ?_) (a' := ?_) #[true,true,true,true,true,true,true,true,true,true,true,true,true,true,true,true,true,true,true,false,false,false] rfl rfl (any_of HT_.out (by kernel_rfl)) (fun _ _ _ h => h) (Or.inl ⟨by rfl, ?_⟩) ?_ ?_
                       rotate_left
                       ·intro w'
                        go_simp
                        with_reducible rfl
                       rotate_left
                       ·simp only [Act.put, List.setIfInBounds_toArray, List.set_cons_zero, List.set_cons_succ, i64_w, i32_w]
                        rfl
                       refine pure_ (i := 19) (N := some 163) (v := ?_) (a' := ?_) #[true,true,true,true,true,true,true,true,true,true,true,true,true,true,true,true,true,true,true,true,false,false] rfl rfl (any_of HT_.out (by kernel_rfl)) (fun _ _ _ h => h) (Or.inl ⟨by rfl, ?_⟩) ?_ ?_
                       rotate_left
                       ·intro w'
                        go_simp
                        with_reducible rfl
                       rotate_left
                       ·simp only [Act.put, List.setIfInBounds_toArray, List.set_cons_zero, List.set_cons_succ, i64_w, i32_w]
                        rfl
                       refine pure_ (i := 20) (N := some 17) (v := ?_) (a' := ?_) #[true,true,true,true,true,true,true,true,true,true,true,true,true,true,true,true,true,true,true,true,true,false] rfl rfl (any_of HT_.out (by kernel_rfl)) (fun _ _ _ h => h) (Or.inl ⟨by rfl, ?_⟩) ?_ ?_
                       rotate_left
                       ·intro w'
                        go_simp
                        with_reducible rfl
                       rotate_left
                       ·simp only [Act.put, List.setIfInBounds_toArray, List.set_cons_zero, List.set_cons_succ, i64_w, i32_w]
                        rfl
                       refine pure_ (i := 21) (N := some 18) (v := ?_) (a' := ?_) #[true,true,true,true,true,true,true,true,true,true,true,true,true,true,true,true,true,true,true,true,true,true] rfl rfl (any_of HT_.out (by kernel_rfl)) (fun _ _ _ h => h) (Or.inl ⟨by rfl, ?_⟩) ?_ ?_
                       rotate_left
                       ·intro w'
                        go_simp
                        with_reducible rfl
                       rotate_left
                       ·simp only [Act.put, List.setIfInBounds_toArray, List.set_cons_zero, List.set_cons_succ, i64_w, i32_w]
                        rfl
                       refine done_ (done_of HT_.out (by kernel_rfl)) ?_
                       try go_wp2
                       have n0_ := Aside0.mk (Kd.R_drew HO_9.out)
                       have n1_ := Aside0.mk (Kd.R_drew HO_10.out)
                       have n2_ := Aside0.mk (Kd.R_drew HO_11.out)
                       have n3_ := Aside0.mk (Kd.R_drew HO676.out)
                       have n4_ := Aside0.mk (Kd.R_drew HO680.out)
                       have n5_ := Aside0.mk (Kd.S_drew HO682.out)
                       have n6_ := Aside0.mk (below_drew1 HB.out)
                       clear HO_9
                       clear HO_10
                       clear HO_11
                       clear HO676
                       clear HO680
                       clear HO682
                       clear HB
                       have HO_9 := n0_
                       have HO_10 := n1_
                       have HO_11 := n2_
                       have HO676 := n3_
                       have HO680 := n4_
                       have HO682 := n5_
                       have HB := n6_
                       clear n0_ n1_ n2_ n3_ n4_ n5_ n6_
                       have p683 : 0 ≤ ((rd l1 x14_3) : Int) := of_decide_eq_true (by first | (with_reducible assumption) | assumption)
                       have q683 : (rd l1 x14_3) < (x9_3.length : Int) := of_decide_eq_true (by first | (with_reducible assumption) | assumption)
                       obtain ⟨ad683, e683, hx683_0⟩ := Kd.at_int (Kd.R_reads' HO_9.out).2.2 (rd l1 x14_3) p683 q683
                       cases e683
                       replace p683 := eq_true p683
                       replace q683 := eq_true q683
                       have p684 : 0 ≤ (x14_3 : Int) := of_decide_eq_true (by first | (with_reducible assumption) | assumption)
                       have q684 : x14_3 < (l3.length : Int) := of_decide_eq_true (by first | (with_reducible assumption) | assumption)
                       obtain ⟨ad684, e684, hx684_0⟩ := Kd.at_int HR3.out x14_3 p684 q684
                       have hw684_0 := hx684_0
                       obtain rfl : ad672 = ad684 := (by injection e684)
                       replace hx684_0 := (HB.out.cell (World.block_lt_of_cell? w _ hx684_0)).trans hx684_0
                       replace p684 := eq_true p684
                       replace q684 := eq_true q684
                       refine start_ (n := 10) (S := fun w' => w'.cell? (ad683.add ((rd l1 x14_3)).toNat) = some (.int .i64 (rd x9_3 (rd l1 x14_3))) ∧ w'.cell? (ad672.add (x14_3).toNat) = some (.int .i64 (rd l3 x14_3))) (ds := []) #[false,false,false,false,false,false,false,false,false,false] (by kernel_rfl) rfl rfl ⟨hx683_0, ((HB.out.cell (World.block_lt_of_cell? w _ hw684_0)).trans hw684_0)⟩ (fun hHeld => ?_); refine with_tabW folkmootlaw08_TxnSum.tab21 folkmootlaw08_TxnSum.bits21 (fun HT_ HW_ => ?_)
                       generalize w72.drew = w73 at HO_9 HO_10 HO_11 HO676 HO680 HO682 HB hx683_0 hx684_0 hHeld ⊢
                       refine pure_ (i := 0) (N := some 164) (v := ?_) (a' := ?_) #[true,false,false,false,false,false,false,false,false,false] rfl rfl (any_of HT_.out (by kernel_rfl)) (fun _ _ _ h => h) (Or.inl ⟨by rfl, ?_⟩) ?_ ?_
                       rotate_left
                       ·intro w'
                        go_simp
                        with_reducible rfl
                       rotate_left
                       ·simp only [Act.put, List.setIfInBounds_toArray, List.set_cons_zero, List.set_cons_succ, i64_w, i32_w]
                        rfl
                       refine pure_ (i := 1) (N := some 165) (v := ?_) (a' := ?_) #[true,true,false,false,false,false,false,false,false,false] rfl rfl (any_of HT_.out (by kernel_rfl)) (fun _ _ _ h => h) (Or.inl ⟨by rfl, ?_⟩) ?_ ?_
                       rotate_left
                       ·intro w'
                        go_simp
                        with_reducible rfl
                       rotate_left
                       ·simp only [Act.put, List.setIfInBounds_toArray, List.set_cons_zero, List.set_cons_succ, i64_w, i32_w]
                        rfl
                       refine pure_ (i := 2) (N := some 166) (v := ?_) (a' := ?_) #[true,true,true,false,false,false,false,false,false,false] rfl rfl (any_of HT_.out (by kernel_rfl)) (fun _ _ _ h => h) (Or.inl ⟨by rfl, ?_⟩) ?_ ?_
                       rotate_left
                       ·intro w'
                        go_simp
                        with_reducible rfl
                       rotate_left
                       ·simp only [Act.put, List.setIfInBounds_toArray, List.set_cons_zero, List.set_cons_succ, i64_w, i32_w]
                        rfl
                       refine pure_ (i := 4) (N := some 168) (v := ?_) (a' := ?_) #[true,true,true,false,true,false,false,false,false,false] rfl rfl (any_of HT_.out (by kernel_rfl)) (fun _ _ _ h => h) (Or.inl ⟨by rfl, ?_⟩) ?_ ?_
                       rotate_left
                       ·intro w'
                        go_simp
                        with_reducible rfl
                       rotate_left
                       ·simp only [Act.put, List.setIfInBounds_toArray, List.set_cons_zero, List.set_cons_succ, i64_w, i32_w]
                        rfl
                       refine pure_ (i := 5) (N := some 169) (v := ?_) (a' := ?_) #[true,true,true,false,true,true,false,false,false,false] rfl rfl (any_of HT_.out (by kernel_rfl)) (fun _ _ _ h => h) (Or.inl ⟨by rfl, ?_⟩) ?_ ?_
                       rotate_left
                       ·intro w'
                        go_simp
                        with_reducible rfl
                       rotate_left
                       ·simp only [Act.put, List.setIfInBounds_toArray, List.set_cons_zero, List.set_cons_succ, i64_w, i32_w]
                        rfl
                       refine pure_ (i := 6) (N := some 170) (v := ?_) (a' := ?_) #[true,true,true,false,true,true,true,false,false,false] rfl rfl (any_of HT_.out (by kernel_rfl)) (fun _ _ _ h => h) (Or.inl ⟨by rfl, ?_⟩) ?_ ?_
                       rotate_left
                       ·intro w'
                        go_simp
                        with_reducible rfl
                       rotate_left
                       ·simp only [Act.put, List.setIfInBounds_toArray, List.set_cons_zero, List.set_cons_succ, i64_w, i32_w]
                        rfl
                       refine take_ (i := 3) (N := some 167) (v := ?_) (a' := ?_) #[true,true,true,true,true,true,true,false,false,false] rfl rfl (take_ofW HT_.out HW_.out (by kernel_rfl)) (fun _ _ _ h => h) (Or.inl ⟨by rfl, ?_⟩) hHeld ?_ ?_
                       rotate_left
                       ·rintro w' ⟨s0, s1⟩
                        go_simp
                        with_reducible rfl
                       rotate_left
                       ·simp only [Act.put, List.setIfInBounds_toArray, List.set_cons_zero, List.set_cons_succ, i64_w, i32_w]
                        rfl
                       refine take_ (i := 7) (N := some 171) (v := ?_) (a' := ?_) #[true,true,true,true,true,true,true,true,false,false] rfl rfl (take_ofW HT_.out HW_.out (by kernel_rfl)) (fun _ _ _ h => h) (Or.inl ⟨by rfl, ?_⟩) hHeld ?_ ?_
                       rotate_left
                       ·rintro w' ⟨s0, s1⟩
                        go_simp
                        with_reducible rfl
                       rotate_left
                       ·simp only [Act.put, List.setIfInBounds_toArray, List.set_cons_zero, List.set_cons_succ, i64_w, i32_w]
                        rfl
                       refine pure_ (i := 8) (N := some 172) (v := ?_) (a' := ?_) #[true,true,true,true,true,true,true,true,true,false] rfl rfl (any_of HT_.out (by kernel_rfl)) (fun _ _ _ h => h) (Or.inl ⟨by rfl, ?_⟩) ?_ ?_
                       rotate_left
                       ·intro w'
                        go_simp
                        with_reducible rfl
                       rotate_left
                       ·simp only [Act.put, List.setIfInBounds_toArray, List.set_cons_zero, List.set_cons_succ, i64_w, i32_w]
                        rfl
                       refine pure_ (i := 9) (N := some 19) (v := ?_) (a' := ?_) #[true,true,true,true,true,true,true,true,true,true] rfl rfl (any_of HT_.out (by kernel_rfl)) (fun _ _ _ h => h) (Or.inl ⟨by rfl, ?_⟩) ?_ ?_
                       rotate_left
                       ·intro w'
                        go_simp
                        with_reducible rfl
                       rotate_left
                       ·simp only [Act.put, List.setIfInBounds_toArray, List.set_cons_zero, List.set_cons_succ, i64_w, i32_w]
                        rfl
                       refine done_ (done_of HT_.out (by kernel_rfl)) ?_
                       go_upto_region 22 with (fail)
                       go_cut [190] (fun v190 wc => ∃ (kq : Nat) (x190_64 : Bool), v190 = .bool x190_64 ∧ Aside0 (folkmootlaw08_TxnSum.j5 kq l1 l2 l3 x9_3 y652 x11_3 x12_2 x14_3 (rd l1 x14_3) (rd l2 x14_3) t677 (decide ((rd x9_3 (rd l1 x14_3)) ≥ (rd l3 x14_3))) x190_64 = some r) ∧ Aside0 (kq ≤ kj43) ∧ Aside0 (Kd.R (Kd.int .i64) 3 wc w.heap.size (fun _ => True) (.slice (some ad683) x9_3.length co40) x9_3) ∧ Aside0 (Kd.R Kd.string 9 wc w.heap.size (fun _ => True) (.slice (some ad670) y652.length co67) y652) ∧ Aside0 (Kd.R k61 61 wc w.heap.size (fun _ => True) (.slice Ao71 x11_3.length co71) x11_3) ∧ Aside0 (Kd.R k69 69 wc w.heap.size (fun _ => True) v679 t677) ∧ Aside0 (Below w.heap.size w wc))
                       case first =>
                        have H := HC65.out
                        clear HC65
                        by_cases c74 : (t678.length : Int) = 1
                        ·rw [if_pos c74] at H
                         have c74b0 : ((t678.length : Int) == 1) = true := beq_iff_eq.mpr c74
                         have c74b1 : ((t678.length : Int) != 1) = false := bne_eq_false_iff_eq.mpr c74
                         clear c74
                         (first | rw [c74b0] | (simp only [i64_w, i32_w]; rw [c74b0]) | skip)
                         by_cases c75 : 0 < (t678.length : Int)
                         ·rw [if_pos c75] at H
                          have c75b0 : decide (0 < (t678.length : Int)) = true := decide_eq_true c75
                          have c75b1 : decide (0 < t678.length) = true := decide_eq_true (by omega)
                          clear c75
                          by_cases c76 : (((rd_T65 t678 0).f0) != (decide ((rd x9_3 (rd l1 x14_3)) ≥ (rd l3 x14_3)))) = true
                          ·rw [if_pos c76] at H
                           have c76b0 : (((rd_T65 t678 0).f0) != (decide ((rd x9_3 (rd l1 x14_3)) ≥ (rd l3 x14_3)))) = true := c76
                           (try (have c76b1 : decide (((rd_T65 t678 0).f0) = (decide ((rd x9_3 (rd l1 x14_3)) ≥ (rd l3 x14_3)))) = false := by simpa using c76))
                           (try (have c76b2 : (((rd_T65 t678 0).f0) == (decide ((rd x9_3 (rd l1 x14_3)) ≥ (rd l3 x14_3)))) = false := by simpa using c76))
                           (try (have c76b3 : ¬ (((rd_T65 t678 0).f0) = (decide ((rd x9_3 (rd l1 x14_3)) ≥ (rd l3 x14_3)))) := by simpa using c76))
                           clear c76
                           have H' := Aside0.mk H
                           clear H
                           obtain ⟨Ao77, co77, eo77⟩ := Kd.S_slice HO682.out
                           subst eo77
                           have p685 : 0 ≤ (0 : Int) := (by omega)
                           have q685 : 0 < (t678.length : Int) := of_decide_eq_true (by first | (with_reducible assumption) | assumption)
                           obtain ⟨ad685, A685_2, c685_2, e685, hx685_0, hx685_1, hx685_2, hl685_2, hi685_2⟩ := at_T65 (Kd.S_reads' HO682.out).2.2 0 p685 q685
                           cases e685
                           obtain ⟨ce685, hce685, hMe685, hcc685⟩ := Kd.S_get HO682.out z65 0 p685 (by first | exact q685 | exact of_decide_eq_true (by first | (with_reducible assumption) | assumption) | (have e_ := (Kd.S_reads' HO682.out).1; omega))
                           obtain ⟨ve685_2, rfl, ge685_2⟩ := k65_openM hMe685
                           have hv685_2 := hcc685 2 _ rfl
                           rw [add_field _ _ 2 (by omega)] at hv685_2
                           replace hv685_2 := Option.some.inj (hv685_2.symm.trans hx685_2)
                           rw [hv685_2] at ge685_2
                           have HL685_2 := Aside0.mk (show Kd.R k61 61 _ _ _ _ ((rd_T65 t678 0).f2) from ge685_2)
                           clear hv685_2 ge685_2
                           clear hcc685 hce685
                           have qi685 : (0 < t678.length) = True := eq_true (by omega)
                           (try rw [show ((0 : Int)).toNat = 0 from rfl] at hx685_0)
                           (try rw [show 0 * 3 = 0 from rfl] at hx685_0)
                           (try rw [Addr.add_zero'] at hx685_0)
                           (try rw [show ((0 : Int)).toNat = 0 from rfl] at hx685_1)
                           (try rw [show 0 * 3 = 0 from rfl] at hx685_1)
                           (try rw [Addr.add_zero'] at hx685_1)
                           (try rw [show ((0 : Int)).toNat = 0 from rfl] at hx685_2)
                           (try rw [show 0 * 3 = 0 from rfl] at hx685_2)
                           (try rw [Addr.add_zero'] at hx685_2)
                           have HR685_2 := Aside0.mk hi685_2
                           have HC685_2 := Aside0.mk hl685_2
                           clear hi685_2 hl685_2
                           replace p685 := eq_true p685
                           replace q685 := eq_true q685
                           go_wp2
                           first
                           | (go_meet; case rel => exact ⟨_, (true), (by first | rfl | (rw [bl_gt] <;> rfl) | (simp; done) | (simp [*]; done)), H', ⟨by have := HJ5.out; have := HK2.out; have := HK3.out; have := HJ43.out; first | omega | exact Nat.le_refl _⟩, ⟨by (try simp only [hl9_3]); (with_reducible repeat (first | apply Kd.R_alloc | apply Kd.R_drewN | apply Kd.R_drew)); exact HO_9.out⟩, ⟨by (try simp only [hl9_3]); (with_reducible repeat (first | apply Kd.R_alloc | apply Kd.R_drewN | apply Kd.R_drew)); exact HO_10.out⟩, ⟨by (try simp only [hl9_3]); (with_reducible repeat (first | apply Kd.R_alloc | apply Kd.R_drewN | apply Kd.R_drew)); exact HO_11.out⟩, ⟨by (try simp only [hl9_3]); (with_reducible repeat (first | apply Kd.R_alloc | apply Kd.R_drewN | apply Kd.R_drew)); exact HO680.out⟩, ⟨by repeat (first | (with_reducible first | exact HB.out | apply below_alloc | apply pw_below_drewN | apply below_drew1) | exact HB.out)⟩⟩)
                           | (refine Met.intro ?_; go_step; (repeat apply Exists.intro); refine ⟨?_, ?_⟩; rotate_left; (focus (simp only [c74b0]; try rfl)); exact ⟨_, (true), (by first | rfl | (rw [bl_gt] <;> rfl) | (simp; done) | (simp [*]; done)), H', ⟨by have := HJ5.out; have := HK2.out; have := HK3.out; have := HJ43.out; first | omega | exact Nat.le_refl _⟩, ⟨by (try simp only [hl9_3]); (with_reducible repeat (first | apply Kd.R_alloc | apply Kd.R_drewN | apply Kd.R_drew)); exact HO_9.out⟩, ⟨by (try simp only [hl9_3]); (with_reducible repeat (first | apply Kd.R_alloc | apply Kd.R_drewN | apply Kd.R_drew)); exact HO_10.out⟩, ⟨by (try simp only [hl9_3]); (with_reducible repeat (first | apply Kd.R_alloc | apply Kd.R_drewN | apply Kd.R_drew)); exact HO_11.out⟩, ⟨by (try simp only [hl9_3]); (with_reducible repeat (first | apply Kd.R_alloc | apply Kd.R_drewN | apply Kd.R_drew)); exact HO680.out⟩, ⟨by repeat (first | (with_reducible first | exact HB.out | apply below_alloc | apply pw_below_drewN | apply below_drew1) | exact HB.out)⟩⟩)
                          ·rw [if_neg c76] at H
                           have c76b0 : (((rd_T65 t678 0).f0) != (decide ((rd x9_3 (rd l1 x14_3)) ≥ (rd l3 x14_3)))) = false := by simpa using c76
                           (try (have c76b1 : decide (((rd_T65 t678 0).f0) = (decide ((rd x9_3 (rd l1 x14_3)) ≥ (rd l3 x14_3)))) = true := by simpa using c76))
                           (try (have c76b2 : (((rd_T65 t678 0).f0) == (decide ((rd x9_3 (rd l1 x14_3)) ≥ (rd l3 x14_3)))) = true := by simpa using c76))
                           clear c76
                           have H' := Aside0.mk H
                           clear H
                           obtain ⟨Ao78, co78, eo78⟩ := Kd.S_slice HO682.out
                           subst eo78
                           have p685 : 0 ≤ (0 : Int) := (by omega)
                           have q685 : 0 < (t678.length : Int) := of_decide_eq_true (by first | (with_reducible assumption) | assumption)
                           obtain ⟨ad685, A685_2, c685_2, e685, hx685_0, hx685_1, hx685_2, hl685_2, hi685_2⟩ := at_T65 (Kd.S_reads' HO682.out).2.2 0 p685 q685
                           cases e685
                           obtain ⟨ce685, hce685, hMe685, hcc685⟩ := Kd.S_get HO682.out z65 0 p685 (by first | exact q685 | exact of_decide_eq_true (by first | (with_reducible assumption) | assumption) | (have e_ := (Kd.S_reads' HO682.out).1; omega))
                           obtain ⟨ve685_2, rfl, ge685_2⟩ := k65_openM hMe685
                           have hv685_2 := hcc685 2 _ rfl
                           rw [add_field _ _ 2 (by omega)] at hv685_2
                           replace hv685_2 := Option.some.inj (hv685_2.symm.trans hx685_2)
                           rw [hv685_2] at ge685_2
                           have HL685_2 := Aside0.mk (show Kd.R k61 61 _ _ _ _ ((rd_T65 t678 0).f2) from ge685_2)
                           clear hv685_2 ge685_2
                           clear hcc685 hce685
                           have qi685 : (0 < t678.length) = True := eq_true (by omega)
                           (try rw [show ((0 : Int)).toNat = 0 from rfl] at hx685_0)
                           (try rw [show 0 * 3 = 0 from rfl] at hx685_0)
                           (try rw [Addr.add_zero'] at hx685_0)
                           (try rw [show ((0 : Int)).toNat = 0 from rfl] at hx685_1)
                           (try rw [show 0 * 3 = 0 from rfl] at hx685_1)
                           (try rw [Addr.add_zero'] at hx685_1)
                           (try rw [show ((0 : Int)).toNat = 0 from rfl] at hx685_2)
                           (try rw [show 0 * 3 = 0 from rfl] at hx685_2)
                           (try rw [Addr.add_zero'] at hx685_2)
                           have HR685_2 := Aside0.mk hi685_2
                           have HC685_2 := Aside0.mk hl685_2
                           clear hi685_2 hl685_2
                           replace p685 := eq_true p685
                           replace q685 := eq_true q685
                           obtain ⟨Ao79, co79, eo79⟩ := Kd.R_slice HO680.out
                           subst eo79
                           go_wp2
                           first
                           | (go_meet; case rel => exact ⟨_, (((decide ((rd x9_3 (rd l1 x14_3)) ≥ (rd l3 x14_3))) != ((t677.length : Int) == 2))), (by first | rfl | (rw [bl_gt] <;> rfl) | (simp; done) | (simp [*]; done)), H', ⟨by have := HJ5.out; have := HK2.out; have := HK3.out; have := HJ43.out; first | omega | exact Nat.le_refl _⟩, ⟨by (try simp only [hl9_3]); (with_reducible repeat (first | apply Kd.R_alloc | apply Kd.R_drewN | apply Kd.R_drew)); exact HO_9.out⟩, ⟨by (try simp only [hl9_3]); (with_reducible repeat (first | apply Kd.R_alloc | apply Kd.R_drewN | apply Kd.R_drew)); exact HO_10.out⟩, ⟨by (try simp only [hl9_3]); (with_reducible repeat (first | apply Kd.R_alloc | apply Kd.R_drewN | apply Kd.R_drew)); exact HO_11.out⟩, ⟨by (try simp only [hl9_3]); (with_reducible repeat (first | apply Kd.R_alloc | apply Kd.R_drewN | apply Kd.R_drew)); exact HO680.out⟩, ⟨by repeat (first | (with_reducible first | exact HB.out | apply below_alloc | apply pw_below_drewN | apply below_drew1) | exact HB.out)⟩⟩)
                           | (refine Met.intro ?_; go_step; (repeat apply Exists.intro); refine ⟨?_, ?_⟩; rotate_left; (focus (simp only [c74b0]; try rfl)); exact ⟨_, (((decide ((rd x9_3 (rd l1 x14_3)) ≥ (rd l3 x14_3))) != ((t677.length : Int) == 2))), (by first | rfl | (rw [bl_gt] <;> rfl) | (simp; done) | (simp [*]; done)), H', ⟨by have := HJ5.out; have := HK2.out; have := HK3.out; have := HJ43.out; first | omega | exact Nat.le_refl _⟩, ⟨by (try simp only [hl9_3]); (with_reducible repeat (first | apply Kd.R_alloc | apply Kd.R_drewN | apply Kd.R_drew)); exact HO_9.out⟩, ⟨by (try simp only [hl9_3]); (with_reducible repeat (first | apply Kd.R_alloc | apply Kd.R_drewN | apply Kd.R_drew)); exact HO_10.out⟩, ⟨by (try simp only [hl9_3]); (with_reducible repeat (first | apply Kd.R_alloc | apply Kd.R_drewN | apply Kd.R_drew)); exact HO_11.out⟩, ⟨by (try simp only [hl9_3]); (with_reducible repeat (first | apply Kd.R_alloc | apply Kd.R_drewN | apply Kd.R_drew)); exact HO680.out⟩, ⟨by repeat (first | (with_reducible first | exact HB.out | apply below_alloc | apply pw_below_drewN | apply below_drew1) | exact HB.out)⟩⟩)
                         ·rw [if_neg c75] at H
                          exact absurd H (by simp)
                        ·rw [if_neg c74] at H
                         have c74b0 : ((t678.length : Int) == 1) = false := beq_eq_false_iff_ne.mpr c74
                         have c74b1 : ((t678.length : Int) != 1) = true := bne_iff_ne.mpr c74
                         (first | rw [c74b0] | (simp only [i64_w, i32_w]; rw [c74b0]) | skip)
                         have H' := Aside0.mk H
                         clear H
                         obtain ⟨Ao80, co80, eo80⟩ := Kd.S_slice HO682.out
                         subst eo80
                         go_wp2
                         first
                         | (go_meet; case rel => exact ⟨_, (true), (by first | rfl | (rw [bl_gt] <;> rfl) | (simp; done) | (simp [*]; done)), H', ⟨by have := HJ5.out; have := HK2.out; have := HK3.out; have := HJ43.out; first | omega | exact Nat.le_refl _⟩, ⟨by (try simp only [hl9_3]); (with_reducible repeat (first | apply Kd.R_alloc | apply Kd.R_drewN | apply Kd.R_drew)); exact HO_9.out⟩, ⟨by (try simp only [hl9_3]); (with_reducible repeat (first | apply Kd.R_alloc | apply Kd.R_drewN | apply Kd.R_drew)); exact HO_10.out⟩, ⟨by (try simp only [hl9_3]); (with_reducible repeat (first | apply Kd.R_alloc | apply Kd.R_drewN | apply Kd.R_drew)); exact HO_11.out⟩, ⟨by (try simp only [hl9_3]); (with_reducible repeat (first | apply Kd.R_alloc | apply Kd.R_drewN | apply Kd.R_drew)); exact HO680.out⟩, ⟨by repeat (first | (with_reducible first | exact HB.out | apply below_alloc | apply pw_below_drewN | apply below_drew1) | exact HB.out)⟩⟩)
                         | (refine Met.intro ?_; go_step; (repeat apply Exists.intro); refine ⟨?_, ?_⟩; rotate_left; (focus (simp only [c74b0]; try rfl)); exact ⟨_, (true), (by first | rfl | (rw [bl_gt] <;> rfl) | (simp; done) | (simp [*]; done)), H', ⟨by have := HJ5.out; have := HK2.out; have := HK3.out; have := HJ43.out; first | omega | exact Nat.le_refl _⟩, ⟨by (try simp only [hl9_3]); (with_reducible repeat (first | apply Kd.R_alloc | apply Kd.R_drewN | apply Kd.R_drew)); exact HO_9.out⟩, ⟨by (try simp only [hl9_3]); (with_reducible repeat (first | apply Kd.R_alloc | apply Kd.R_drewN | apply Kd.R_drew)); exact HO_10.out⟩, ⟨by (try simp only [hl9_3]); (with_reducible repeat (first | apply Kd.R_alloc | apply Kd.R_drewN | apply Kd.R_drew)); exact HO_11.out⟩, ⟨by (try simp only [hl9_3]); (with_reducible repeat (first | apply Kd.R_alloc | apply Kd.R_drewN | apply Kd.R_drew)); exact HO680.out⟩, ⟨by repeat (first | (with_reducible first | exact HB.out | apply below_alloc | apply pw_below_drewN | apply below_drew1) | exact HB.out)⟩⟩)
                       case rest =>
                        clear HC65
                        try clear c1
                        try clear c2
                        try clear p2
                        try clear c3
                        try clear c4
                        try clear c5
                        try clear c6
                        try clear p6
                        try clear q6
                        try clear hx6
                        try clear qi6
                        try clear c7
                        try clear c14
                        try clear c26
                        try clear c36
                        try clear c53
                        try clear c56
                        try clear c56b0
                        try clear c57
                        try clear c57b0
                        try clear c58
                        try clear c58b0
                        try clear c59
                        try clear c59b0
                        try clear c60
                        try clear c60b0
                        try clear c61
                        try clear c61b0
                        try clear c64
                        try clear c64b0
                        try clear q65
                        try clear p66
                        try clear q66
                        try clear p67
                        try clear q67
                        try clear hx67
                        try clear c68
                        try clear p68
                        try clear q68
                        try clear hx68
                        try clear qi68
                        try clear c74
                        try clear c74b0
                        try clear c74b1
                        try clear c75
                        try clear c75b0
                        try clear c75b1
                        try clear c76
                        try clear c76b0
                        try clear c76b1
                        try clear c76b2
                        try clear hx670_0
                        try clear hx671_0
                        try clear hx672_0
                        try clear hx683_0
                        try clear hx684_0
                        try clear hx685_0
                        try clear hx685_1
                        try clear hx685_2
                        try clear p667
                        try clear p668
                        try clear p670
                        try clear p671
                        try clear p672
                        try clear p683
                        try clear p684
                        try clear p685
                        try clear q6
                        try clear q655
                        try clear q656
                        try clear q658
                        try clear q659
                        try clear q660
                        try clear q665
                        try clear q666
                        try clear q667
                        try clear q668
                        try clear q670
                        try clear q671
                        try clear q672
                        try clear q683
                        try clear q684
                        try clear q685
                        obtain ⟨kq, x190_64, rfl, HA, HJ64, HO_9, HO_10, HO_11, HO_17, HB⟩ := hcut
                        cases kq with
                        | zero => exact absurd HA.out (by simp [folkmootlaw08_TxnSum.j5])
                        | succ kj64 =>
                         have H := HA.out
                         clear HA
                         simp only [folkmootlaw08_TxnSum.j5] at H
                         by_cases c81 : x190_64 = true
                         ·subst c81
                          have H1 : (some false) = some r := by rw [if_pos rfl] at H; exact H
                          clear H
                          have H := H1
                          clear H1
                          obtain rfl := Option.some.inj H
                          go_wp2
                          go_ret
                          exact ⟨by first | rfl | (rw [bl_gt] <;> rfl) | (simp [errW_none, errW_some] <;> rfl) | (simp [*, errW_none, errW_some] <;> rfl), by repeat (first | (with_reducible first | exact HB.out | apply below_alloc | apply pw_below_drewN | apply below_drew1) | exact HB.out)⟩
                         ·replace c81 := Bool.eq_false_iff.mpr c81
                          subst c81
                          have H1 : (if (decide ((rd x9_3 (rd l1 x14_3)) ≥ (rd l3 x14_3))) = true then (if 0 ≤ (rd l1 x14_3) then (if (rd l1 x14_3) < (x9_3.length : Int) then (if 0 ≤ x14_3 then (if x14_3 < (l3.length : Int) then (if 0 ≤ (rd l2 x14_3) then (if (rd l2 x14_3) < (x9_3.length : Int) then ((txn_Apply.f x11_3 t677).bind fun t692 => (folkmootlaw08_TxnSum.l1 kj64 l1 l2 l3 ((x9_3.set ((rd l1 x14_3) : Int).toNat (wrap64 ((rd x9_3 (rd l1 x14_3)) - (rd l3 x14_3)))).set ((rd l2 x14_3) : Int).toNat (wrap64 ((rd x9_3 (rd l2 x14_3)) + (rd l3 x14_3)))) y652 t692 x12_2 (wrap64 (x14_3 + 1)))) else (none)) else (none)) else (none)) else (none)) else (none)) else (none)) else ((txn_Apply.f x11_3 t677).bind fun t695 => (folkmootlaw08_TxnSum.l1 kj64 l1 l2 l3 x9_3 y652 t695 x12_2 (wrap64 (x14_3 + 1))))) = some r := by rw [if_neg (show ¬ (false = true) by decide)] at H; exact H
                          clear H
                          have H := H1
                          clear H1
                          by_cases c82 : (decide ((rd x9_3 (rd l1 x14_3)) ≥ (rd l3 x14_3))) = true
                          ·rw [if_pos c82] at H
                           have c82b0 : (decide ((rd x9_3 (rd l1 x14_3)) ≥ (rd l3 x14_3))) = true := c82
                           clear c82
                           by_cases c83 : 0 ≤ (rd l1 x14_3)
                           ·rw [if_pos c83] at H
                            have c83b0 : decide (0 ≤ (rd l1 x14_3)) = true := decide_eq_true c83
                            clear c83
                            by_cases c84 : (rd l1 x14_3) < (x9_3.length : Int)
                            ·rw [if_pos c84] at H
                             have c84b0 : decide ((rd l1 x14_3) < (x9_3.length : Int)) = true := decide_eq_true c84
                             clear c84
                             by_cases c85 : 0 ≤ x14_3
                             ·rw [if_pos c85] at H
                              have c85b0 : decide (0 ≤ x14_3) = true := decide_eq_true c85
                              clear c85
                              by_cases c86 : x14_3 < (l3.length : Int)
                              ·rw [if_pos c86] at H
                               have c86b0 : decide (x14_3 < (l3.length : Int)) = true := decide_eq_true c86
                               clear c86
                               by_cases c87 : 0 ≤ (rd l2 x14_3)
                               ·rw [if_pos c87] at H
                                have c87b0 : decide (0 ≤ (rd l2 x14_3)) = true := decide_eq_true c87
                                clear c87
                                by_cases c88 : (rd l2 x14_3) < (x9_3.length : Int)
                                ·rw [if_pos c88] at H
                                 have c88b0 : decide ((rd l2 x14_3) < (x9_3.length : Int)) = true := decide_eq_true c88
                                 clear c88
                                 obtain ⟨y690, hy690⟩ : ∃ y_ : List Int, y_ = (x9_3.set ((rd l1 x14_3) : Int).toNat (wrap64 ((rd x9_3 (rd l1 x14_3)) - (rd l3 x14_3)))) := ⟨_, rfl⟩
                                 replace H : ((txn_Apply.f x11_3 t677).bind fun t692 => (folkmootlaw08_TxnSum.l1 kj64 l1 l2 l3 (y690.set ((rd l2 x14_3) : Int).toNat (wrap64 ((rd x9_3 (rd l2 x14_3)) + (rd l3 x14_3)))) y652 t692 x12_2 (wrap64 (x14_3 + 1)))) = some r := by first | (rw [hy690]; with_reducible exact H) | (have H2_ := (Option.bind_some _ _).symm.trans H; rw [hy690]; with_reducible exact H2_) | (have H2_ := (Option.bind_some _ _).symm.trans H; with_reducible exact H2_) | with_reducible exact H | (rw [hy690]; exact H) | exact H
                                 have Ny690 := Aside0.mk hy690
                                 clear hy690
                                 obtain ⟨y691, hy691⟩ : ∃ y_ : List Int, y_ = (y690.set ((rd l2 x14_3) : Int).toNat (wrap64 ((rd x9_3 (rd l2 x14_3)) + (rd l3 x14_3)))) := ⟨_, rfl⟩
                                 replace H : ((txn_Apply.f x11_3 t677).bind fun t692 => (folkmootlaw08_TxnSum.l1 kj64 l1 l2 l3 y691 y652 t692 x12_2 (wrap64 (x14_3 + 1)))) = some r := by first | (rw [hy691]; with_reducible exact H) | (have H2_ := (Option.bind_some _ _).symm.trans H; rw [hy691]; with_reducible exact H2_) | (have H2_ := (Option.bind_some _ _).symm.trans H; with_reducible exact H2_) | with_reducible exact H | (rw [hy691]; exact H) | exact H
                                 have Ny691 := Aside0.mk hy691
                                 clear hy691
                                 replace H := Option.bind_eq_some_iff.mp H
                                 obtain ⟨t692, A910, H⟩ := H
                                 replace H : (folkmootlaw08_TxnSum.l1 kj64 l1 l2 l3 y691 y652 t692 x12_2 (wrap64 (x14_3 + 1))) = some r := H
                                 have A91 := Aside0.mk A910
                                 clear A910
                                 have H' := Aside0.mk H
                                 clear H
                                 (first | rw [c82b0] | (simp only [i64_w, i32_w]; rw [c82b0]) | skip)
                                 try go_wp2
                                 have n0_ := Aside0.mk (Kd.R_drew HO_9.out)
                                 have n1_ := Aside0.mk (Kd.R_drew HO_10.out)
                                 have n2_ := Aside0.mk (Kd.R_drew HO_11.out)
                                 have n3_ := Aside0.mk (Kd.R_drew HO_17.out)
                                 have n4_ := Aside0.mk (below_drew1 HB.out)
                                 clear HO_9
                                 clear HO_10
                                 clear HO_11
                                 clear HO_17
                                 clear HB
                                 have HO_9 := n0_
                                 have HO_10 := n1_
                                 have HO_11 := n2_
                                 have HO_17 := n3_
                                 have HB := n4_
                                 clear n0_ n1_ n2_ n3_ n4_
                                 have p686 : 0 ≤ ((rd l1 x14_3) : Int) := of_decide_eq_true (by first | (with_reducible assumption) | assumption)
                                 have q686 : (rd l1 x14_3) < (x9_3.length : Int) := of_decide_eq_true (by first | (with_reducible assumption) | assumption)
                                 obtain ⟨ad686, e686, hx686_0⟩ := Kd.at_int (Kd.R_reads' HO_9.out).2.2 (rd l1 x14_3) p686 q686
                                 obtain rfl : ad683 = ad686 := (by injection e686)
                                 replace p686 := eq_true p686
                                 replace q686 := eq_true q686
                                 have p687 : 0 ≤ (x14_3 : Int) := of_decide_eq_true (by first | (with_reducible assumption) | assumption)
                                 have q687 : x14_3 < (l3.length : Int) := of_decide_eq_true (by first | (with_reducible assumption) | assumption)
                                 obtain ⟨ad687, e687, hx687_0⟩ := Kd.at_int HR3.out x14_3 p687 q687
                                 have hw687_0 := hx687_0
                                 obtain rfl : ad672 = ad687 := (by injection e687)
                                 replace hx687_0 := (HB.out.cell (World.block_lt_of_cell? w _ hx687_0)).trans hx687_0
                                 replace p687 := eq_true p687
                                 replace q687 := eq_true q687
                                 have p688 : 0 ≤ ((rd l2 x14_3) : Int) := of_decide_eq_true (by first | (with_reducible assumption) | assumption)
                                 have q688 : (rd l2 x14_3) < (x9_3.length : Int) := of_decide_eq_true (by first | (with_reducible assumption) | assumption)
                                 obtain ⟨ad688, e688, hx688_0⟩ := Kd.at_int (Kd.R_reads' HO_9.out).2.2 (rd l2 x14_3) p688 q688
                                 obtain rfl : ad683 = ad688 := (by injection e688)
                                 replace p688 := eq_true p688
                                 replace q688 := eq_true q688
                                 have p689 : 0 ≤ (x14_3 : Int) := of_decide_eq_true (by first | (with_reducible assumption) | assumption)
                                 have q689 : x14_3 < (l3.length : Int) := of_decide_eq_true (by first | (with_reducible assumption) | assumption)
                                 obtain ⟨ad689, e689, hx689_0⟩ := Kd.at_int HR3.out x14_3 p689 q689
                                 have hw689_0 := hx689_0
                                 obtain rfl : ad672 = ad689 := (by injection e689)
                                 replace hx689_0 := (HB.out.cell (World.block_lt_of_cell? w _ hx689_0)).trans hx689_0
                                 replace p689 := eq_true p689
                                 replace q689 := eq_true q689
                                 have p89 : 0 ≤ ((rd l1 x14_3) : Int) := of_decide_eq_true (by first | (with_reducible assumption) | assumption)
                                 have q89 : ((rd l1 x14_3) : Int) < ((x9_3.length : Int) : Int) := of_decide_eq_true (by first | (with_reducible assumption) | assumption)
                                 obtain ⟨go89, co89, eo89, gb89, gl89, cl89, HG89⟩ := Kd.R_form HO_9.out (by omega)
                                 (first | cases eo89 | (injection eo89 with ea_ en_ ec_; (first | subst ea_ | (injection ea_ with ea_; subst ea_)); subst ec_; clear en_))
                                 have GB89 := Aside0.mk gb89
                                 have GG89 := Aside0.mk HG89
                                 clear gb89 gl89 HG89
                                 (first | simp only [add_plain] at hx683_0 | skip)
                                 (first | simp only [add_plain] at hx686_0 | skip)
                                 (first | simp only [add_plain] at hx688_0 | skip)
                                 obtain ⟨hx89_0, hf89_0⟩ := Kd.R_celln 0 HO_9.out ((rd l1 x14_3) : Int) p89 q89
                                 replace p89 := eq_true p89
                                 replace q89 := eq_true q89
                                 have HP93 := Kd.R_putn HO_9.out ((rd l1 x14_3) : Int) (wrap64 ((rd x9_3 (rd l1 x14_3)) - (rd l3 x14_3)))
                                 rw [← Ny690.out] at HP93
                                 have HQ93 := Aside0.mk HP93
                                 clear HP93
                                 have p90 : 0 ≤ ((rd l2 x14_3) : Int) := of_decide_eq_true (by first | (with_reducible assumption) | assumption)
                                 have q90 : ((rd l2 x14_3) : Int) < ((x9_3.length : Int) : Int) := of_decide_eq_true (by first | (with_reducible assumption) | assumption)
                                 obtain ⟨hx90_0, hf90_0⟩ := Kd.R_celln 0 HQ93.out ((rd l2 x14_3) : Int) p90 q90
                                 replace p90 := eq_true p90
                                 replace q90 := eq_true q90
                                 have HP94 := Kd.R_putn HQ93.out ((rd l2 x14_3) : Int) (wrap64 ((rd x9_3 (rd l2 x14_3)) + (rd l3 x14_3)))
                                 rw [← Ny691.out] at HP94
                                 have HQ94 := Aside0.mk HP94
                                 clear HP94
                                 refine start_ (n := 26) (S := fun w' => w'.cell? ⟨go89, ((rd l1 x14_3)).toNat, none⟩ = some (.int .i64 (rd x9_3 (rd l1 x14_3))) ∧ w'.cell? (ad672.add (x14_3).toNat) = some (.int .i64 (rd l3 x14_3)) ∧ w'.cell? ⟨go89, ((rd l2 x14_3)).toNat, none⟩ = some (.int .i64 (rd x9_3 (rd l2 x14_3))) ∧ w'.cell? (ad672.add (x14_3).toNat) = some (.int .i64 (rd l3 x14_3))) (ds := [23, 25]) #[false,false,false,false,false,false,false,false,false,false,false,false,false,false,false,false,false,false,false,false,false,false,false,false,false,false] (by kernel_rfl) rfl rfl ⟨hx686_0, ((HB.out.cell (World.block_lt_of_cell? w _ hw687_0)).trans hw687_0), hx688_0, ((HB.out.cell (World.block_lt_of_cell? w _ hw689_0)).trans hw689_0)⟩ (fun hHeld => ?_); refine with_tabW folkmootlaw08_TxnSum.tab25 folkmootlaw08_TxnSum.bits25 (fun HT_ HW_ => ?_)
                                 generalize wc.drew = w92 at HO_9 HO_10 HO_11 HO_17 HB GG89 HQ93 HQ94 hf89_0 hf90_0 hx686_0 hx687_0 hx688_0 hx689_0 hx89_0 hx90_0 hHeld ⊢
                                 refine pure_ (i := 0) (N := some 192) (v := ?_) (a' := ?_) #[true,false,false,false,false,false,false,false,false,false,false,false,false,false,false,false,false,false,false,false,false,false,false,false,false,false] rfl rfl (any_of HT_.out (by kernel_rfl)) (fun _ _ _ h => h) (Or.inl ⟨by rfl, ?_⟩) ?_ ?_
                                 rotate_left
                                 ·intro w'
                                  go_simp
                                  with_reducible rfl
                                 rotate_left
                                 ·simp only [Act.put, List.setIfInBounds_toArray, List.set_cons_zero, List.set_cons_succ, i64_w, i32_w]
                                  rfl
                                 refine pure_ (i := 1) (N := some 193) (v := ?_) (a' := ?_) #[true,true,false,false,false,false,false,false,false,false,false,false,false,false,false,false,false,false,false,false,false,false,false,false,false,false] rfl rfl (any_of HT_.out (by kernel_rfl)) (fun _ _ _ h => h) (Or.inl ⟨by rfl, ?_⟩) ?_ ?_
                                 rotate_left
                                 ·intro w'
                                  go_simp
                                  with_reducible rfl
                                 rotate_left
                                 ·simp only [Act.put, List.setIfInBounds_toArray, List.set_cons_zero, List.set_cons_succ, i64_w, i32_w]
                                  rfl
                                 refine pure_ (i := 2) (N := some 194) (v := ?_) (a' := ?_) #[true,true,true,false,false,false,false,false,false,false,false,false,false,false,false,false,false,false,false,false,false,false,false,false,false,false] rfl rfl (any_of HT_.out (by kernel_rfl)) (fun _ _ _ h => h) (Or.inl ⟨by rfl, ?_⟩) ?_ ?_
                                 rotate_left
                                 ·intro w'
                                  go_simp
                                  with_reducible rfl
                                 rotate_left
                                 ·simp only [Act.put, List.setIfInBounds_toArray, List.set_cons_zero, List.set_cons_succ, i64_w, i32_w]
                                  rfl
                                 refine pure_ (i := 3) (N := some 195) (v := ?_) (a' := ?_) #[true,true,true,true,false,false,false,false,false,false,false,false,false,false,false,false,false,false,false,false,false,false,false,false,false,false] rfl rfl (any_of HT_.out (by kernel_rfl)) (fun _ _ _ h => h) (Or.inl ⟨by rfl, ?_⟩) ?_ ?_
                                 rotate_left
                                 ·intro w'
                                  go_simp
                                  with_reducible rfl
                                 rotate_left
                                 ·simp only [Act.put, List.setIfInBounds_toArray, List.set_cons_zero, List.set_cons_succ, i64_w, i32_w]
                                  rfl
                                 refine pure_ (i := 4) (N := some 196) (v := ?_) (a' := ?_) #[true,true,true,true,true,false,false,false,false,false,false,false,false,false,false,false,false,false,false,false,false,false,false,false,false,false] rfl rfl (any_of HT_.out (by kernel_rfl)) (fun _ _ _ h => h) (Or.inl ⟨by rfl, ?_⟩) ?_ ?_
                                 rotate_left
                                 ·intro w'
                                  go_simp
                                  with_reducible rfl
                                 rotate_left
                                 ·simp only [Act.put, List.setIfInBounds_toArray, List.set_cons_zero, List.set_cons_succ, i64_w, i32_w]
                                  rfl
                                 refine pure_ (i := 5) (N := some 197) (v := ?_) (a' := ?_) #[true,true,true,true,true,true,false,false,false,false,false,false,false,false,false,false,false,false,false,false,false,false,false,false,false,false] rfl rfl (any_of HT_.out (by kernel_rfl)) (fun _ _ _ h => h) (Or.inl ⟨by rfl, ?_⟩) ?_ ?_
                                 rotate_left
                                 ·intro w'
                                  go_simp
                                  with_reducible rfl
                                 rotate_left
                                 ·simp only [Act.put, List.setIfInBounds_toArray, List.set_cons_zero, List.set_cons_succ, i64_w, i32_w]
                                  rfl
                                 refine pure_ (i := 6) (N := some 198) (v := ?_) (a' := ?_) #[true,true,true,true,true,true,true,false,false,false,false,false,false,false,false,false,false,false,false,false,false,false,false,false,false,false] rfl rfl (any_of HT_.out (by kernel_rfl)) (fun _ _ _ h => h) (Or.inl ⟨by rfl, ?_⟩) ?_ ?_
                                 rotate_left
                                 ·intro w'
                                  go_simp
                                  with_reducible rfl
                                 rotate_left
                                 ·simp only [Act.put, List.setIfInBounds_toArray, List.set_cons_zero, List.set_cons_succ, i64_w, i32_w]
                                  rfl
                                 refine pure_ (i := 8) (N := some 200) (v := ?_) (a' := ?_) #[true,true,true,true,true,true,true,false,true,false,false,false,false,false,false,false,false,false,false,false,false,false,false,false,false,false] rfl rfl (any_of HT_.out (by kernel_rfl)) (fun _ _ _ h => h) (Or.inl ⟨by rfl, ?_⟩) ?_ ?_
                                 rotate_left
                                 ·intro w'
                                  go_simp
                                  with_reducible rfl
                                 rotate_left
                                 ·simp only [Act.put, List.setIfInBounds_toArray, List.set_cons_zero, List.set_cons_succ, i64_w, i32_w]
                                  rfl
                                 refine pure_ (i := 9) (N := some 201) (v := ?_) (a' := ?_) #[true,true,true,true,true,true,true,false,true,true,false,false,false,false,false,false,false,false,false,false,false,false,false,false,false,false] rfl rfl (any_of HT_.out (by kernel_rfl)) (fun _ _ _ h => h) (Or.inl ⟨by rfl, ?_⟩) ?_ ?_
                                 rotate_left
                                 ·intro w'
                                  go_simp
                                  with_reducible rfl
                                 rotate_left
                                 ·simp only [Act.put, List.setIfInBounds_toArray, List.set_cons_zero, List.set_cons_succ, i64_w, i32_w]
                                  rfl
                                 refine pure_ (i := 10) (N := some 202) (v := ?_) (a' := ?_) #[true,true,true,true,true,true,true,false,true,true,true,false,false,false,false,false,false,false,false,false,false,false,false,false,false,false] rfl rfl (any_of HT_.out (by kernel_rfl)) (fun _ _ _ h => h) (Or.inl ⟨by rfl, ?_⟩) ?_ ?_
                                 rotate_left
                                 ·intro w'
                                  go_simp
                                  with_reducible rfl
                                 rotate_left
                                 ·simp only [Act.put, List.setIfInBounds_toArray, List.set_cons_zero, List.set_cons_succ, i64_w, i32_w]
                                  rfl
                                 refine pure_ (i := 13) (N := some 205) (v := ?_) (a' := ?_) #[true,true,true,true,true,true,true,false,true,true,true,false,false,true,false,false,false,false,false,false,false,false,false,false,false,false] rfl rfl (any_of HT_.out (by kernel_rfl)) (fun _ _ _ h => h) (Or.inl ⟨by rfl, ?_⟩) ?_ ?_
                                 rotate_left
                                 ·intro w'
                                  go_simp
                                  with_reducible rfl
                                 rotate_left
                                 ·simp only [Act.put, List.setIfInBounds_toArray, List.set_cons_zero, List.set_cons_succ, i64_w, i32_w]
                                  rfl
                                 refine pure_ (i := 14) (N := some 206) (v := ?_) (a' := ?_) #[true,true,true,true,true,true,true,false,true,true,true,false,false,true,true,false,false,false,false,false,false,false,false,false,false,false] rfl rfl (any_of HT_.out (by kernel_rfl)) (fun _ _ _ h => h) (Or.inl ⟨by rfl, ?_⟩) ?_ ?_
                                 rotate_left
                                 ·intro w'
                                  go_simp
                                  with_reducible rfl
                                 rotate_left
                                 ·simp only [Act.put, List.setIfInBounds_toArray, List.set_cons_zero, List.set_cons_succ, i64_w, i32_w]
                                  rfl
                                 refine pure_ (i := 15) (N := some 207) (v := ?_) (a' := ?_) #[true,true,true,true,true,true,true,false,true,true,true,false,false,true,true,true,false,false,false,false,false,false,false,false,false,false] rfl rfl (any_of HT_.out (by kernel_rfl)) (fun _ _ _ h => h) (Or.inl ⟨by rfl, ?_⟩) ?_ ?_
                                 rotate_left
                                 ·intro w'
                                  go_simp
                                  with_reducible rfl
                                 rotate_left
                                 ·simp only [Act.put, List.setIfInBounds_toArray, List.set_cons_zero, List.set_cons_succ, i64_w, i32_w]
                                  rfl
                                 refine pure_ (i := 17) (N := some 209) (v := ?_) (a' := ?_) #[true,true,true,true,true,true,true,false,true,true,true,false,false,true,true,true,false,true,false,false,false,false,false,false,false,false] rfl rfl (any_of HT_.out (by kernel_rfl)) (fun _ _ _ h => h) (Or.inl ⟨by rfl, ?_⟩) ?_ ?_
                                 rotate_left
                                 ·intro w'
                                  go_simp
                                  with_reducible rfl
                                 rotate_left
                                 ·simp only [Act.put, List.setIfInBounds_toArray, List.set_cons_zero, List.set_cons_succ, i64_w, i32_w]
                                  rfl
                                 refine pure_ (i := 18) (N := some 210) (v := ?_) (a' := ?_) #[true,true,true,true,true,true,true,false,true,true,true,false,false,true,true,true,false,true,true,false,false,false,false,false,false,false] rfl rfl (any_of HT_.out (by kernel_rfl)) (fun _ _ _ h => h) (Or.inl ⟨by rfl, ?_⟩) ?_ ?_
                                 rotate_left
                                 ·intro w'
                                  go_simp
                                  with_reducible rfl
                                 rotate_left
                                 ·simp only [Act.put, List.setIfInBounds_toArray, List.set_cons_zero, List.set_cons_succ, i64_w, i32_w]
                                  rfl
                                 refine pure_ (i := 19) (N := some 211) (v := ?_) (a' := ?_) #[true,true,true,true,true,true,true,false,true,true,true,false,false,true,true,true,false,true,true,true,false,false,false,false,false,false] rfl rfl (any_of HT_.out (by kernel_rfl)) (fun _ _ _ h => h) (Or.inl ⟨by rfl, ?_⟩) ?_ ?_
                                 rotate_left
                                 ·intro w'
                                  go_simp
                                  with_reducible rfl
                                 rotate_left
                                 ·simp only [Act.put, List.setIfInBounds_toArray, List.set_cons_zero, List.set_cons_succ, i64_w, i32_w]
                                  rfl
                                 refine take_ (i := 7) (N := some 199) (v := ?_) (a' := ?_) #[true,true,true,true,true,true,true,true,true,true,true,false,false,true,true,true,false,true,true,true,false,false,false,false,false,false] rfl rfl (take_ofW HT_.out HW_.out (by kernel_rfl)) (fun _ _ _ h => h) (Or.inl ⟨by rfl, ?_⟩) hHeld ?_ ?_
                                 rotate_left
                                 ·rintro w' ⟨s0, s1, s2, s3⟩
                                  go_simp
                                  with_reducible rfl
                                 rotate_left
                                 ·simp only [Act.put, List.setIfInBounds_toArray, List.set_cons_zero, List.set_cons_succ, i64_w, i32_w]
                                  rfl
                                 refine take_ (i := 11) (N := some 203) (v := ?_) (a' := ?_) #[true,true,true,true,true,true,true,true,true,true,true,true,false,true,true,true,false,true,true,true,false,false,false,false,false,false] rfl rfl (take_ofW HT_.out HW_.out (by kernel_rfl)) (fun _ _ _ h => h) (Or.inl ⟨by rfl, ?_⟩) hHeld ?_ ?_
                                 rotate_left
                                 ·rintro w' ⟨s0, s1, s2, s3⟩
                                  go_simp
                                  with_reducible rfl
                                 rotate_left
                                 ·simp only [Act.put, List.setIfInBounds_toArray, List.set_cons_zero, List.set_cons_succ, i64_w, i32_w]
                                  rfl
                                 refine pure_ (i := 12) (N := some 204) (v := ?_) (a' := ?_) #[true,true,true,true,true,true,true,true,true,true,true,true,true,true,true,true,false,true,true,true,false,false,false,false,false,false] rfl rfl (any_of HT_.out (by kernel_rfl)) (fun _ _ _ h => h) (Or.inl ⟨by rfl, ?_⟩) ?_ ?_
                                 rotate_left
                                 ·intro w'
                                  go_simp
                                  with_reducible rfl
                                 rotate_left
                                 ·simp only [Act.put, List.setIfInBounds_toArray, List.set_cons_zero, List.set_cons_succ, i64_w, i32_w]
                                  rfl
                                 refine take_ (i := 16) (N := some 208) (v := ?_) (a' := ?_) #[true,true,true,true,true,true,true,true,true,true,true,true,true,true,true,true,true,true,true,true,false,false,false,false,false,false] rfl rfl (take_ofW HT_.out HW_.out (by kernel_rfl)) (fun _ _ _ h => h) (Or.inl ⟨by rfl, ?_⟩) hHeld ?_ ?_
                                 rotate_left
                                 ·rintro w' ⟨s0, s1, s2, s3⟩
                                  go_simp
                                  with_reducible rfl
                                 rotate_left
                                 ·simp only [Act.put, List.setIfInBounds_toArray, List.set_cons_zero, List.set_cons_succ, i64_w, i32_w]
                                  rfl
                                 refine take_ (i := 20) (N := some 212) (v := ?_) (a' := ?_) #[true,true,true,true,true,true,true,true,true,true,true,true,true,true,true,true,true,true,true,true,true,false,false,false,false,false] rfl rfl (take_ofW HT_.out HW_.out (by kernel_rfl)) (fun _ _ _ h => h) (Or.inl ⟨by rfl, ?_⟩) hHeld ?_ ?_
                                 rotate_left
                                 ·rintro w' ⟨s0, s1, s2, s3⟩
                                  go_simp
                                  with_reducible rfl
                                 rotate_left
                                 ·simp only [Act.put, List.setIfInBounds_toArray, List.set_cons_zero, List.set_cons_succ, i64_w, i32_w]
                                  rfl
                                 refine pure_ (i := 21) (N := some 213) (v := ?_) (a' := ?_) #[true,true,true,true,true,true,true,true,true,true,true,true,true,true,true,true,true,true,true,true,true,true,false,false,false,false] rfl rfl (any_of HT_.out (by kernel_rfl)) (fun _ _ _ h => h) (Or.inl ⟨by rfl, ?_⟩) ?_ ?_
                                 rotate_left
                                 ·intro w'
                                  go_simp
                                  with_reducible rfl
                                 rotate_left
                                 ·simp only [Act.put, List.setIfInBounds_toArray, List.set_cons_zero, List.set_cons_succ, i64_w, i32_w]
                                  rfl
                                 refine pure_ (i := 22) (N := some 214) (v := ?_) (a' := ?_) #[true,true,true,true,true,true,true,true,true,true,true,true,true,true,true,true,true,true,true,true,true,true,true,false,false,false] rfl rfl (any_of HT_.out (by kernel_rfl)) (fun _ _ _ h => h) (Or.inl ⟨by rfl, ?_⟩) ?_ ?_
                                 rotate_left
                                 ·intro w'
                                  go_simp
                                  with_reducible rfl
                                 rotate_left
                                 ·simp only [Act.put, List.setIfInBounds_toArray, List.set_cons_zero, List.set_cons_succ, i64_w, i32_w]
                                  rfl
                                 refine last_ (i := 23) (N := none) #[true,true,true,true,true,true,true,true,true,true,true,true,true,true,true,true,true,true,true,true,true,true,true,true,false,false] rfl rfl (one_of HT_.out (by kernel_rfl)) (by decide) (fun K hK => ?_)
                                 refine skip_ (w1 := ?_) (by rfl) rfl ?_ ?_
                                 rotate_left
                                 ·go_simp
                                  rfl
                                 refine hK.out _ _ ?_
                                 clear hK K
                                 refine pure_ (i := 24) (N := some 215) (v := ?_) (a' := ?_) #[true,true,true,true,true,true,true,true,true,true,true,true,true,true,true,true,true,true,true,true,true,true,true,true,true,false] rfl rfl (any_of HT_.out (by kernel_rfl)) (fun _ _ _ h => h) (Or.inl ⟨by rfl, ?_⟩) ?_ ?_
                                 rotate_left
                                 ·intro w'
                                  go_simp
                                  with_reducible rfl
                                 rotate_left
                                 ·simp only [Act.put, List.setIfInBounds_toArray, List.set_cons_zero, List.set_cons_succ, i64_w, i32_w]
                                  rfl
                                 refine last_ (i := 25) (N := none) #[true,true,true,true,true,true,true,true,true,true,true,true,true,true,true,true,true,true,true,true,true,true,true,true,true,true] rfl rfl (one_of HT_.out (by kernel_rfl)) (by decide) (fun K hK => ?_)
                                 refine skip_ (w1 := ?_) (by rfl) rfl ?_ ?_
                                 rotate_left
                                 ·go_simp
                                  rfl
                                 refine hK.out _ _ ?_
                                 clear hK K
                                 refine done_ (done_of HT_.out (by kernel_rfl)) ?_
                                 obtain ⟨Ao95, co95, eo95⟩ := Kd.R_slice HO_17.out
                                 subst eo95
                                 try go_wp2_with (first | ((with_reducible refine gate_callee (f := 32) rfl ?_); refine goesL_ (some 218) rfl rfl Tryz.func32 (by kernel_rfl) rfl #[.slice Ao71 x11_3.length co71, .slice Ao95 t677.length co95] rfl (by (try simp only [List.map_toArray, List.map_cons, List.map_nil]); first | done | rfl | (simp only [List.length_drop, List.length_take]; rfl)) ?_; (with_reducible refine (txn_Apply.calls _ _ x11_3 _ _ t677 t692 _ ?side1 ?side2 ?side3 ?side4 A91.out).mono ?_); (case side1 => refine (Kd.R_reads' (e := 61) (base := w.heap.size) (ok := fun k_ => True) (n := x11_3.length) (c := co71) ?_).2.2; exact (by (with_reducible repeat (first | apply Kd.R_alloc | apply Kd.R_drewN | apply Kd.R_drew)); exact (Kd.R_mono (Kd.R_far (p := ⟨go89, ((rd l2 x14_3) : Int).toNat, none⟩) (Kd.R_far (p := ⟨go89, ((rd l1 x14_3) : Int).toNat, none⟩) (Kd.R_types HO_11.out GG89.out (by decide)) (fun _ hk => hk.2) (.int .i64 (wrap64 ((rd x9_3 (rd l1 x14_3)) - (rd l3 x14_3))))) (fun _ hk => hk.2) (.int .i64 (wrap64 ((rd x9_3 (rd l2 x14_3)) + (rd l3 x14_3))))) (fun _ h_ => h_.1)))); (case side2 => exact (Kd.R_reads' HO_11.out).2.1); (case side3 => refine (Kd.R_reads' (e := 69) (base := w.heap.size) (ok := fun k_ => True) (n := t677.length) (c := co95) ?_).2.2; exact (by (with_reducible repeat (first | apply Kd.R_alloc | apply Kd.R_drewN | apply Kd.R_drew)); exact (Kd.R_mono (Kd.R_far (p := ⟨go89, ((rd l2 x14_3) : Int).toNat, none⟩) (Kd.R_far (p := ⟨go89, ((rd l1 x14_3) : Int).toNat, none⟩) (Kd.R_types HO_17.out GG89.out (by decide)) (fun _ hk => hk.2) (.int .i64 (wrap64 ((rd x9_3 (rd l1 x14_3)) - (rd l3 x14_3))))) (fun _ hk => hk.2) (.int .i64 (wrap64 ((rd x9_3 (rd l2 x14_3)) + (rd l3 x14_3))))) (fun _ h_ => h_.1)))); (case side4 => exact (Kd.R_reads' HO_17.out).2.1); rintro e w96 ⟨v693, rfl, ho0, hb⟩; refine ⟨_, rfl, ?_⟩; have n0_ := Aside0.mk (Kd.R_below (by (with_reducible repeat (first | apply Kd.R_alloc | apply Kd.R_drewN | apply Kd.R_drew)); exact HQ94.out) hb); have n1_ := Aside0.mk (Kd.R_below (by (with_reducible repeat (first | apply Kd.R_alloc | apply Kd.R_drewN | apply Kd.R_drew)); exact (Kd.R_mono (Kd.R_far (p := ⟨go89, ((rd l2 x14_3) : Int).toNat, none⟩) (Kd.R_far (p := ⟨go89, ((rd l1 x14_3) : Int).toNat, none⟩) (Kd.R_types HO_10.out GG89.out (by decide)) (fun _ hk => hk.2) (.int .i64 (wrap64 ((rd x9_3 (rd l1 x14_3)) - (rd l3 x14_3))))) (fun _ hk => hk.2) (.int .i64 (wrap64 ((rd x9_3 (rd l2 x14_3)) + (rd l3 x14_3))))) (fun _ h_ => h_.1))) hb); have n2_ := Aside0.mk (Kd.R_elder' (by (with_reducible repeat (first | apply Kd.R_alloc | apply Kd.R_drewN | apply Kd.R_drew)); exact (Kd.R_mono (Kd.R_far (p := ⟨go89, ((rd l2 x14_3) : Int).toNat, none⟩) (Kd.R_far (p := ⟨go89, ((rd l1 x14_3) : Int).toNat, none⟩) (Kd.R_types HO_11.out GG89.out (by decide)) (fun _ hk => hk.2) (.int .i64 (wrap64 ((rd x9_3 (rd l1 x14_3)) - (rd l3 x14_3))))) (fun _ hk => hk.2) (.int .i64 (wrap64 ((rd x9_3 (rd l2 x14_3)) + (rd l3 x14_3))))) (fun _ h_ => h_.1))) (Kd.R_base ho0) hb); have n3_ := Aside0.mk (Kd.R_below (by (with_reducible repeat (first | apply Kd.R_alloc | apply Kd.R_drewN | apply Kd.R_drew)); exact (Kd.R_mono (Kd.R_far (p := ⟨go89, ((rd l2 x14_3) : Int).toNat, none⟩) (Kd.R_far (p := ⟨go89, ((rd l1 x14_3) : Int).toNat, none⟩) (Kd.R_types HO_17.out GG89.out (by decide)) (fun _ hk => hk.2) (.int .i64 (wrap64 ((rd x9_3 (rd l1 x14_3)) - (rd l3 x14_3))))) (fun _ hk => hk.2) (.int .i64 (wrap64 ((rd x9_3 (rd l2 x14_3)) + (rd l3 x14_3))))) (fun _ h_ => h_.1))) hb); have n4_ := Aside0.mk (Kd.R_lower (Kd.R_new' ho0 (Kd.R_lt (by (with_reducible repeat (first | apply Kd.R_alloc | apply Kd.R_drewN | apply Kd.R_drew)); exact (Kd.R_mono (Kd.R_far (p := ⟨go89, ((rd l2 x14_3) : Int).toNat, none⟩) (Kd.R_far (p := ⟨go89, ((rd l1 x14_3) : Int).toNat, none⟩) (Kd.R_types HO_11.out GG89.out (by decide)) (fun _ hk => hk.2) (.int .i64 (wrap64 ((rd x9_3 (rd l1 x14_3)) - (rd l3 x14_3))))) (fun _ hk => hk.2) (.int .i64 (wrap64 ((rd x9_3 (rd l2 x14_3)) + (rd l3 x14_3))))) (fun _ h_ => h_.1))))) (below_size (by repeat (first | (with_reducible first | exact HB.out | apply below_alloc | apply pw_below_drewN | apply below_drew1 | refine below_set ?_ GB89.out | refine below_set ?_ GB89.out) | exact HB.out)))); have n5_ := Aside0.mk (below_step (by repeat (first | (with_reducible first | exact HB.out | apply below_alloc | apply pw_below_drewN | apply below_drew1 | refine below_set ?_ GB89.out | refine below_set ?_ GB89.out) | exact HB.out)) hb); clear HO_9; clear HO_10; clear HO_11; clear HO_17; clear HB; have HO_9 := n0_; have HO_10 := n1_; have HO_11 := n2_; have HO_17 := n3_; have HO694 := n4_; have HB := n5_; clear n0_ n1_ n2_ n3_ n4_ n5_; (try clear hb); (try clear hb2); (try clear hk); (try clear hi); (try clear ho0)))
                                 (try simp only [← hl9_3])
                                 go_roundg kj64
                                 case measure => have := HJ5.out; have := HK2.out; have := HK3.out; have := HJ43.out; have := HJ64.out; omega
                                 case rel => exact ⟨(y691), (t692), (wrap64 (x14_3 + 1)), (by first | rfl | (rw [bl_gt] <;> rfl) | (simp; done) | (simp [*]; done)), H', ⟨by have := HJ5.out; have := HK2.out; have := HK3.out; have := HJ43.out; have := HJ64.out; omega⟩, ⟨by (try simp only [hl9_3]); (with_reducible repeat (first | apply Kd.R_alloc | apply Kd.R_drewN | apply Kd.R_drew)); exact HO_9.out⟩, ⟨by (try simp only [hl9_3]); (with_reducible repeat (first | apply Kd.R_alloc | apply Kd.R_drewN | apply Kd.R_drew)); exact HO_10.out⟩, ⟨by (try simp only [hl9_3]); (with_reducible repeat (first | apply Kd.R_alloc | apply Kd.R_drewN | apply Kd.R_drew)); exact Kd.R_mono HO694.out (fun _ hk => trivial)⟩, ⟨by repeat (first | (with_reducible first | exact HB.out | apply below_alloc | apply pw_below_drewN | apply below_drew1) | exact HB.out)⟩⟩
                                ·rw [if_neg c88] at H
                                 exact absurd H (by simp)
                               ·rw [if_neg c87] at H
                                exact absurd H (by simp)
                              ·rw [if_neg c86] at H
                               exact absurd H (by simp)
                             ·rw [if_neg c85] at H
                              exact absurd H (by simp)
                            ·rw [if_neg c84] at H
                             exact absurd H (by simp)
                           ·rw [if_neg c83] at H
                            exact absurd H (by simp)
                          ·rw [if_neg c82] at H
                           have c82b0 : (decide ((rd x9_3 (rd l1 x14_3)) ≥ (rd l3 x14_3))) = false := by simpa using c82
                           clear c82
                           replace H := Option.bind_eq_some_iff.mp H
                           obtain ⟨t695, A970, H⟩ := H
                           replace H : (folkmootlaw08_TxnSum.l1 kj64 l1 l2 l3 x9_3 y652 t695 x12_2 (wrap64 (x14_3 + 1))) = some r := H
                           have A97 := Aside0.mk A970
                           clear A970
                           have H' := Aside0.mk H
                           clear H
                           obtain ⟨Ao98, co98, eo98⟩ := Kd.R_slice HO_17.out
                           subst eo98
                           (first | rw [c82b0] | (simp only [i64_w, i32_w]; rw [c82b0]) | skip)
                           go_wp2_with (first | ((with_reducible refine gate_callee (f := 32) rfl ?_); refine goesL_ (some 218) rfl rfl Tryz.func32 (by kernel_rfl) rfl #[.slice Ao71 x11_3.length co71, .slice Ao98 t677.length co98] rfl (by (try simp only [List.map_toArray, List.map_cons, List.map_nil]); first | done | rfl | (simp only [List.length_drop, List.length_take]; rfl)) ?_; (with_reducible refine (txn_Apply.calls _ _ x11_3 _ _ t677 t695 _ ?side1 ?side2 ?side3 ?side4 A97.out).mono ?_); (case side1 => repeat (first | exact (Kd.R_reads' HO_11.out).2.2 | (with_reducible refine Kd.C_alloc ?_ _) | (with_reducible refine Kd.C_drewN ?_ _) | (with_reducible refine Kd.C_drew ?_))); (case side2 => exact (Kd.R_reads' HO_11.out).2.1); (case side3 => repeat (first | exact (Kd.R_reads' HO_17.out).2.2 | (with_reducible refine Kd.C_alloc ?_ _) | (with_reducible refine Kd.C_drewN ?_ _) | (with_reducible refine Kd.C_drew ?_))); (case side4 => exact (Kd.R_reads' HO_17.out).2.1); rintro e w99 ⟨v696, rfl, ho0, hb⟩; refine ⟨_, rfl, ?_⟩; have n0_ := Aside0.mk (Kd.R_below (by (with_reducible repeat (first | apply Kd.R_alloc | apply Kd.R_drewN | apply Kd.R_drew)); exact HO_9.out) hb); have n1_ := Aside0.mk (Kd.R_below (by (with_reducible repeat (first | apply Kd.R_alloc | apply Kd.R_drewN | apply Kd.R_drew)); exact HO_10.out) hb); have n2_ := Aside0.mk (Kd.R_elder' (by (with_reducible repeat (first | apply Kd.R_alloc | apply Kd.R_drewN | apply Kd.R_drew)); exact HO_11.out) (Kd.R_base ho0) hb); have n3_ := Aside0.mk (Kd.R_below (by (with_reducible repeat (first | apply Kd.R_alloc | apply Kd.R_drewN | apply Kd.R_drew)); exact HO_17.out) hb); have n4_ := Aside0.mk (Kd.R_lower (Kd.R_new' ho0 (Kd.R_lt (by (with_reducible repeat (first | apply Kd.R_alloc | apply Kd.R_drewN | apply Kd.R_drew)); exact HO_11.out))) (below_size (by repeat (first | (with_reducible first | exact HB.out | apply below_alloc | apply pw_below_drewN | apply below_drew1) | exact HB.out)))); have n5_ := Aside0.mk (below_step (by repeat (first | (with_reducible first | exact HB.out | apply below_alloc | apply pw_below_drewN | apply below_drew1) | exact HB.out)) hb); clear HO_9; clear HO_10; clear HO_11; clear HO_17; clear HB; have HO_9 := n0_; have HO_10 := n1_; have HO_11 := n2_; have HO_17 := n3_; have HO697 := n4_; have HB := n5_; clear n0_ n1_ n2_ n3_ n4_ n5_; (try clear hb); (try clear hb2); (try clear hk); (try clear hi); (try clear ho0)))
                           (try simp only [← hl9_3])
                           go_roundg kj64
                           case measure => have := HJ5.out; have := HK2.out; have := HK3.out; have := HJ43.out; have := HJ64.out; omega
                           case rel => exact ⟨(x9_3), (t695), (wrap64 (x14_3 + 1)), (by first | rfl | (rw [bl_gt] <;> rfl) | (simp; done) | (simp [*]; done)), H', ⟨by have := HJ5.out; have := HK2.out; have := HK3.out; have := HJ43.out; have := HJ64.out; omega⟩, ⟨by (try simp only [hl9_3]); (with_reducible repeat (first | apply Kd.R_alloc | apply Kd.R_drewN | apply Kd.R_drew)); exact HO_9.out⟩, ⟨by (try simp only [hl9_3]); (with_reducible repeat (first | apply Kd.R_alloc | apply Kd.R_drewN | apply Kd.R_drew)); exact HO_10.out⟩, ⟨by (try simp only [hl9_3]); (with_reducible repeat (first | apply Kd.R_alloc | apply Kd.R_drewN | apply Kd.R_drew)); exact Kd.R_mono HO697.out (fun _ hk => trivial)⟩, ⟨by repeat (first | (with_reducible first | exact HB.out | apply below_alloc | apply pw_below_drewN | apply below_drew1) | exact HB.out)⟩⟩
                      ·rw [if_neg c64] at H
                       exact absurd H (by simp)
                     ·rw [if_neg c61] at H
                      exact absurd H (by simp)
                    ·rw [if_neg c60] at H
                     exact absurd H (by simp)
                   ·rw [if_neg c59] at H
                    exact absurd H (by simp)
                  ·rw [if_neg c58] at H
                   exact absurd H (by simp)
                 ·rw [if_neg c57] at H
                  exact absurd H (by simp)
                ·rw [if_neg c56] at H
                 exact absurd H (by simp)
            ·rw [if_neg c43] at H
             exact absurd H (by simp)
           ·rw [if_neg c42] at H
            exact absurd H (by simp)
          ·rw [if_neg c41] at H
           have c41b0 : decide (x14_3 < (l1.length : Int)) = false := decide_eq_false c41
           clear c41
           have H' := Aside0.mk H
           clear H
           go_wp2
           go_loopg [20, 21] k3 (fun kq v20 v21 w' => ∃ (x20_4 : Int) (x21_4 : Int), v20 = .int .i64 x20_4 ∧ v21 = .int .i64 x21_4 ∧ Aside0 (folkmootlaw08_TxnSum.l2 kq x9_3 y652 x11_3 x12_2 x20_4 x21_4 = some r) ∧ Aside0 (kq ≤ k3) ∧ Aside0 (Kd.R (Kd.int .i64) 3 w' w.heap.size (fun _ => True) (.slice Ao40 x9_3.length co40) x9_3) ∧ Aside0 (Kd.R Kd.string 9 w' w.heap.size (fun _ => True) v653 y652) ∧ Aside0 (Kd.R k61 61 w' w.heap.size (fun _ => True) u11 x11_3) ∧ Aside0 (Below w.heap.size w w'))
           case atStart => exact ⟨(0), (0), (by first | rfl | (rw [bl_gt] <;> rfl) | (simp; done) | (simp [*]; done)), (by first | rfl | (rw [bl_gt] <;> rfl) | (simp; done) | (simp [*]; done)), H', ⟨Nat.le_refl _⟩, ⟨by (try simp only [hl9_3]); (with_reducible repeat (first | apply Kd.R_alloc | apply Kd.R_drewN | apply Kd.R_drew)); exact HO_9.out⟩, ⟨by (try simp only [hl9_3]); (with_reducible repeat (first | apply Kd.R_alloc | apply Kd.R_drewN | apply Kd.R_drew)); exact HO_10.out⟩, ⟨by (try simp only [hl9_3]); (with_reducible repeat (first | apply Kd.R_alloc | apply Kd.R_drewN | apply Kd.R_drew)); exact HO_11.out⟩, ⟨by repeat (first | (with_reducible first | exact HB.out | apply below_alloc | apply pw_below_drewN | apply below_drew1) | exact HB.out)⟩⟩
           case round => as_aux_lemma =>
            clear H'
            try clear c1
            try clear c2
            try clear p2
            try clear c3
            try clear c4
            try clear c5
            try clear c6
            try clear p6
            try clear q6
            try clear hx6
            try clear qi6
            try clear c7
            try clear c8
            try clear p8
            try clear q8
            try clear hx8
            try clear hf8
            try clear p9
            try clear q9
            try clear hx9
            try clear hf9
            try clear c14
            try clear c26
            try clear c32
            try clear c36
            try clear c41
            try clear c41b0
            try clear c42
            try clear c43
            try clear c53
            try clear c56
            try clear c56b0
            try clear c57
            try clear c57b0
            try clear c58
            try clear c58b0
            try clear c59
            try clear c59b0
            try clear c60
            try clear c60b0
            try clear c61
            try clear c61b0
            try clear c64
            try clear c64b0
            try clear p64
            try clear q65
            try clear p66
            try clear q66
            try clear p67
            try clear q67
            try clear hx67
            try clear c68
            try clear p68
            try clear q68
            try clear hx68
            try clear qi68
            try clear c74
            try clear c74b0
            try clear c74b1
            try clear c75
            try clear c75b0
            try clear c75b1
            try clear c76
            try clear c76b0
            try clear c76b1
            try clear c76b2
            try clear c81
            try clear c82
            try clear c82b0
            try clear c83
            try clear c83b0
            try clear c84
            try clear c84b0
            try clear c85
            try clear c85b0
            try clear c86
            try clear c86b0
            try clear c87
            try clear c87b0
            try clear c88
            try clear c88b0
            try clear p89
            try clear q89
            try clear hx89
            try clear hf89
            try clear p90
            try clear q90
            try clear hx90
            try clear hf90
            try clear hx670_0
            try clear hx671_0
            try clear hx672_0
            try clear hx683_0
            try clear hx684_0
            try clear hx685_0
            try clear hx685_1
            try clear hx685_2
            try clear hx686_0
            try clear hx687_0
            try clear hx688_0
            try clear hx689_0
            try clear hx89_0
            try clear hx90_0
            try clear p2
            try clear p6
            try clear p66
            try clear p667
            try clear p668
            try clear p67
            try clear p670
            try clear p671
            try clear p672
            try clear p68
            try clear p683
            try clear p684
            try clear p685
            try clear p686
            try clear p687
            try clear p688
            try clear p689
            try clear p89
            try clear p90
            try clear q6
            try clear q65
            try clear q655
            try clear q656
            try clear q658
            try clear q659
            try clear q66
            try clear q660
            try clear q665
            try clear q666
            try clear q667
            try clear q668
            try clear q67
            try clear q670
            try clear q671
            try clear q672
            try clear q68
            try clear q683
            try clear q684
            try clear q685
            try clear q686
            try clear q687
            try clear q688
            try clear q689
            try clear q89
            try clear q90
            obtain ⟨x20_4, x21_4, rfl, rfl, HA, HK4, HO_9, HO_10, HO_11, HB⟩ := hrel
            cases gk with
            | zero => exact absurd HA.out (by simp [folkmootlaw08_TxnSum.l2])
            | succ k4 =>
             have H := HA.out
             clear HA
             simp only [folkmootlaw08_TxnSum.l2] at H
             by_cases c100 : x21_4 < (x9_3.length : Int)
             ·rw [if_pos c100] at H
              have c100b0 : decide (x21_4 < (x9_3.length : Int)) = true := decide_eq_true c100
              clear c100
              by_cases c101 : 0 ≤ x21_4
              ·rw [if_pos c101] at H
               have c101b0 : decide (0 ≤ x21_4) = true := decide_eq_true c101
               clear c101
               by_cases c102 : x21_4 ≥ (x11_3.length : Int)
               ·rw [if_pos c102] at H
                have c102b0 : decide ((x11_3.length : Int) ≤ x21_4) = true := decide_eq_true c102
                clear c102
                obtain rfl := Option.some.inj H
                have p698 : 0 ≤ (x21_4 : Int) := of_decide_eq_true (by first | (with_reducible assumption) | assumption)
                have q698 : x21_4 < (x9_3.length : Int) := of_decide_eq_true (by first | (with_reducible assumption) | assumption)
                obtain ⟨ad698, e698, hx698_0⟩ := Kd.at_int (Kd.R_reads' HO_9.out).2.2 x21_4 p698 q698
                cases e698
                replace p698 := eq_true p698
                replace q698 := eq_true q698
                try go_wp2
                have n0_ := Aside0.mk (Kd.R_drew HO_9.out)
                have n1_ := Aside0.mk (Kd.R_drew HO_10.out)
                have n2_ := Aside0.mk (Kd.R_drew HO_11.out)
                have n3_ := Aside0.mk (below_drew1 HB.out)
                clear HO_9
                clear HO_10
                clear HO_11
                clear HB
                have HO_9 := n0_
                have HO_10 := n1_
                have HO_11 := n2_
                have HB := n3_
                clear n0_ n1_ n2_ n3_
                obtain ⟨Ao104, co104, eo104⟩ := Kd.R_slice HO_11.out
                (first | subst eo104 | (injection eo104 with f1_ f2_ f3_; have f4_ := f1_.symm; have f5_ := f3_.symm; clear f1_ f2_ f3_; subst f4_; subst f5_))
                refine start_ (n := 21) (S := fun w' => True) (ds := []) #[false,false,false,false,false,false,false,false,false,false,false,false,false,false,false,false,false,false,false,false,false] (by kernel_rfl) rfl rfl trivial (fun hHeld => ?_); refine with_tabW folkmootlaw08_TxnSum.tab32 folkmootlaw08_TxnSum.bits32 (fun HT_ HW_ => ?_)
                generalize wr.drew = w103 at HO_9 HO_10 HO_11 HB hHeld ⊢
                refine pure_ (i := 0) (N := some 231) (v := ?_) (a' := ?_) #[true,false,false,false,false,false,false,false,false,false,false,false,false,false,false,false,false,false,false,false,false] rfl rfl (any_of HT_.out (by kernel_rfl)) (fun _ _ _ h => h) (Or.inl ⟨by rfl, ?_⟩) ?_ ?_
                rotate_left
                ·intro w'
                 go_simp
                 with_reducible rfl
                rotate_left
                ·simp only [Act.put, List.setIfInBounds_toArray, List.set_cons_zero, List.set_cons_succ, i64_w, i32_w]
                 rfl
                refine pure_ (i := 1) (N := some 232) (v := ?_) (a' := ?_) #[true,true,false,false,false,false,false,false,false,false,false,false,false,false,false,false,false,false,false,false,false] rfl rfl (any_of HT_.out (by kernel_rfl)) (fun _ _ _ h => h) (Or.inl ⟨by rfl, ?_⟩) ?_ ?_
                rotate_left
                ·intro w'
                 go_simp
                 with_reducible rfl
                rotate_left
                ·simp only [Act.put, List.setIfInBounds_toArray, List.set_cons_zero, List.set_cons_succ, i64_w, i32_w]
                 rfl
                refine pure_ (i := 2) (N := some 233) (v := ?_) (a' := ?_) #[true,true,true,false,false,false,false,false,false,false,false,false,false,false,false,false,false,false,false,false,false] rfl rfl (any_of HT_.out (by kernel_rfl)) (fun _ _ _ h => h) (Or.inl ⟨by rfl, ?_⟩) ?_ ?_
                rotate_left
                ·intro w'
                 go_simp
                 with_reducible rfl
                rotate_left
                ·simp only [Act.put, List.setIfInBounds_toArray, List.set_cons_zero, List.set_cons_succ, i64_w, i32_w]
                 rfl
                refine pure_ (i := 3) (N := some 234) (v := ?_) (a' := ?_) #[true,true,true,true,false,false,false,false,false,false,false,false,false,false,false,false,false,false,false,false,false] rfl rfl (any_of HT_.out (by kernel_rfl)) (fun _ _ _ h => h) (Or.inl ⟨by rfl, ?_⟩) ?_ ?_
                rotate_left
                ·intro w'
                 go_simp
                 with_reducible rfl
                rotate_left
                ·simp only [Act.put, List.setIfInBounds_toArray, List.set_cons_zero, List.set_cons_succ, i64_w, i32_w]
                 rfl
                refine pure_ (i := 4) (N := some 235) (v := ?_) (a' := ?_) #[true,true,true,true,true,false,false,false,false,false,false,false,false,false,false,false,false,false,false,false,false] rfl rfl (any_of HT_.out (by kernel_rfl)) (fun _ _ _ h => h) (Or.inl ⟨by rfl, ?_⟩) ?_ ?_
                rotate_left
                ·intro w'
                 go_simp
                 with_reducible rfl
                rotate_left
                ·simp only [Act.put, List.setIfInBounds_toArray, List.set_cons_zero, List.set_cons_succ, i64_w, i32_w]
                 rfl
                refine pure_ (i := 5) (N := some 236) (v := undef) (a' := ?_) #[true,true,true,true,true,true,false,false,false,false,false,false,false,false,false,false,false,false,false,false,false] rfl rfl (any_of HT_.out (by kernel_rfl)) (fun _ _ _ h => h) (Or.inr ⟨by rfl, rfl⟩) ?_ ?_
                rotate_left
                ·simp only [Act.put, List.setIfInBounds_toArray, List.set_cons_zero, List.set_cons_succ, i64_w, i32_w]
                 rfl
                refine pure_ (i := 6) (N := some 237) (v := undef) (a' := ?_) #[true,true,true,true,true,true,true,false,false,false,false,false,false,false,false,false,false,false,false,false,false] rfl rfl (any_of HT_.out (by kernel_rfl)) (fun _ _ _ h => h) (Or.inr ⟨by rfl, rfl⟩) ?_ ?_
                rotate_left
                ·simp only [Act.put, List.setIfInBounds_toArray, List.set_cons_zero, List.set_cons_succ, i64_w, i32_w]
                 rfl
                refine pure_ (i := 7) (N := some 238) (v := undef) (a' := ?_) #[true,true,true,true,true,true,true,true,false,false,false,false,false,false,false,false,false,false,false,false,false] rfl rfl (any_of HT_.out (by kernel_rfl)) (fun _ _ _ h => h) (Or.inr ⟨by rfl, rfl⟩) ?_ ?_
                rotate_left
                ·simp only [Act.put, List.setIfInBounds_toArray, List.set_cons_zero, List.set_cons_succ, i64_w, i32_w]
                 rfl
                refine pure_ (i := 8) (N := some 239) (v := undef) (a' := ?_) #[true,true,true,true,true,true,true,true,true,false,false,false,false,false,false,false,false,false,false,false,false] rfl rfl (any_of HT_.out (by kernel_rfl)) (fun _ _ _ h => h) (Or.inr ⟨by rfl, rfl⟩) ?_ ?_
                rotate_left
                ·simp only [Act.put, List.setIfInBounds_toArray, List.set_cons_zero, List.set_cons_succ, i64_w, i32_w]
                 rfl
                refine pure_ (i := 9) (N := some 240) (v := undef) (a' := ?_) #[true,true,true,true,true,true,true,true,true,true,false,false,false,false,false,false,false,false,false,false,false] rfl rfl (any_of HT_.out (by kernel_rfl)) (fun _ _ _ h => h) (Or.inr ⟨by rfl, rfl⟩) ?_ ?_
                rotate_left
                ·simp only [Act.put, List.setIfInBounds_toArray, List.set_cons_zero, List.set_cons_succ, i64_w, i32_w]
                 rfl
                refine pure_ (i := 10) (N := some 241) (v := undef) (a' := ?_) #[true,true,true,true,true,true,true,true,true,true,true,false,false,false,false,false,false,false,false,false,false] rfl rfl (any_of HT_.out (by kernel_rfl)) (fun _ _ _ h => h) (Or.inr ⟨by rfl, rfl⟩) ?_ ?_
                rotate_left
                ·simp only [Act.put, List.setIfInBounds_toArray, List.set_cons_zero, List.set_cons_succ, i64_w, i32_w]
                 rfl
                refine pure_ (i := 11) (N := some 242) (v := undef) (a' := ?_) #[true,true,true,true,true,true,true,true,true,true,true,true,false,false,false,false,false,false,false,false,false] rfl rfl (any_of HT_.out (by kernel_rfl)) (fun _ _ _ h => h) (Or.inr ⟨by rfl, rfl⟩) ?_ ?_
                rotate_left
                ·simp only [Act.put, List.setIfInBounds_toArray, List.set_cons_zero, List.set_cons_succ, i64_w, i32_w]
                 rfl
                refine pure_ (i := 12) (N := some 243) (v := undef) (a' := ?_) #[true,true,true,true,true,true,true,true,true,true,true,true,true,false,false,false,false,false,false,false,false] rfl rfl (any_of HT_.out (by kernel_rfl)) (fun _ _ _ h => h) (Or.inr ⟨by rfl, rfl⟩) ?_ ?_
                rotate_left
                ·simp only [Act.put, List.setIfInBounds_toArray, List.set_cons_zero, List.set_cons_succ, i64_w, i32_w]
                 rfl
                refine pure_ (i := 13) (N := some 244) (v := undef) (a' := ?_) #[true,true,true,true,true,true,true,true,true,true,true,true,true,true,false,false,false,false,false,false,false] rfl rfl (any_of HT_.out (by kernel_rfl)) (fun _ _ _ h => h) (Or.inr ⟨by rfl, rfl⟩) ?_ ?_
                rotate_left
                ·simp only [Act.put, List.setIfInBounds_toArray, List.set_cons_zero, List.set_cons_succ, i64_w, i32_w]
                 rfl
                refine pure_ (i := 14) (N := some 245) (v := undef) (a' := ?_) #[true,true,true,true,true,true,true,true,true,true,true,true,true,true,true,false,false,false,false,false,false] rfl rfl (any_of HT_.out (by kernel_rfl)) (fun _ _ _ h => h) (Or.inr ⟨by rfl, rfl⟩) ?_ ?_
                rotate_left
                ·simp only [Act.put, List.setIfInBounds_toArray, List.set_cons_zero, List.set_cons_succ, i64_w, i32_w]
                 rfl
                refine pure_ (i := 15) (N := some 246) (v := undef) (a' := ?_) #[true,true,true,true,true,true,true,true,true,true,true,true,true,true,true,true,false,false,false,false,false] rfl rfl (any_of HT_.out (by kernel_rfl)) (fun _ _ _ h => h) (Or.inr ⟨by rfl, rfl⟩) ?_ ?_
                rotate_left
                ·simp only [Act.put, List.setIfInBounds_toArray, List.set_cons_zero, List.set_cons_succ, i64_w, i32_w]
                 rfl
                refine pure_ (i := 16) (N := some 247) (v := undef) (a' := ?_) #[true,true,true,true,true,true,true,true,true,true,true,true,true,true,true,true,true,false,false,false,false] rfl rfl (any_of HT_.out (by kernel_rfl)) (fun _ _ _ h => h) (Or.inr ⟨by rfl, rfl⟩) ?_ ?_
                rotate_left
                ·simp only [Act.put, List.setIfInBounds_toArray, List.set_cons_zero, List.set_cons_succ, i64_w, i32_w]
                 rfl
                refine pure_ (i := 17) (N := some 248) (v := undef) (a' := ?_) #[true,true,true,true,true,true,true,true,true,true,true,true,true,true,true,true,true,true,false,false,false] rfl rfl (any_of HT_.out (by kernel_rfl)) (fun _ _ _ h => h) (Or.inr ⟨by rfl, rfl⟩) ?_ ?_
                rotate_left
                ·simp only [Act.put, List.setIfInBounds_toArray, List.set_cons_zero, List.set_cons_succ, i64_w, i32_w]
                 rfl
                refine pure_ (i := 18) (N := some 249) (v := undef) (a' := ?_) #[true,true,true,true,true,true,true,true,true,true,true,true,true,true,true,true,true,true,true,false,false] rfl rfl (any_of HT_.out (by kernel_rfl)) (fun _ _ _ h => h) (Or.inr ⟨by rfl, rfl⟩) ?_ ?_
                rotate_left
                ·simp only [Act.put, List.setIfInBounds_toArray, List.set_cons_zero, List.set_cons_succ, i64_w, i32_w]
                 rfl
                refine pure_ (i := 19) (N := some 250) (v := undef) (a' := ?_) #[true,true,true,true,true,true,true,true,true,true,true,true,true,true,true,true,true,true,true,true,false] rfl rfl (any_of HT_.out (by kernel_rfl)) (fun _ _ _ h => h) (Or.inr ⟨by rfl, rfl⟩) ?_ ?_
                rotate_left
                ·simp only [Act.put, List.setIfInBounds_toArray, List.set_cons_zero, List.set_cons_succ, i64_w, i32_w]
                 rfl
                refine pure_ (i := 20) (N := some 251) (v := ?_) (a' := ?_) #[true,true,true,true,true,true,true,true,true,true,true,true,true,true,true,true,true,true,true,true,true] rfl rfl (any_of HT_.out (by kernel_rfl)) (fun _ _ _ h => h) (Or.inl ⟨by rfl, ?_⟩) ?_ ?_
                rotate_left
                ·intro w'
                 go_simp
                 with_reducible rfl
                rotate_left
                ·simp only [Act.put, List.setIfInBounds_toArray, List.set_cons_zero, List.set_cons_succ, i64_w, i32_w]
                 rfl
                refine done_ (done_of HT_.out (by kernel_rfl)) ?_
                try go_wp2
                go_ret
                exact ⟨by first | rfl | (rw [bl_gt] <;> rfl) | (simp [errW_none, errW_some] <;> rfl) | (simp [*, errW_none, errW_some] <;> rfl), by repeat (first | (with_reducible first | exact HB.out | apply below_alloc | apply pw_below_drewN | apply below_drew1) | exact HB.out)⟩
               ·rw [if_neg c102] at H
                have c102b0 : decide ((x11_3.length : Int) ≤ x21_4) = false := decide_eq_false c102
                clear c102
                by_cases c105 : x21_4 < (x11_3.length : Int)
                ·rw [if_pos c105] at H
                 have c105b0 : decide (x21_4 < (x11_3.length : Int)) = true := decide_eq_true c105
                 clear c105
                 by_cases c106 : x21_4 < (y652.length : Int)
                 ·rw [if_pos c106] at H
                  have c106b0 : decide (x21_4 < (y652.length : Int)) = true := decide_eq_true c106
                  clear c106
                  replace H := Option.bind_eq_some_iff.mp H
                  obtain ⟨t702, A1070, H⟩ := H
                  replace H : (if (!((((rd_T61 x11_3 x21_4).f0).toList) == ((rdOf ByteArray.empty y652 x21_4).toList)) || (!(((rd_T61 x11_3 x21_4).f1) == t702))) = true then (some false) else (folkmootlaw08_TxnSum.l2 k4 x9_3 y652 x11_3 x12_2 (wrap64 (x20_4 + (rd x9_3 x21_4))) (wrap64 (x21_4 + 1)))) = some r := H
                  have A107 := Aside0.mk A1070
                  clear A1070
                  by_cases c108 : (!((((rd_T61 x11_3 x21_4).f0).toList) == ((rdOf ByteArray.empty y652 x21_4).toList)) || (!(((rd_T61 x11_3 x21_4).f1) == t702))) = true
                  ·rw [if_pos c108] at H
                   have c108b0 : (!((((rd_T61 x11_3 x21_4).f0).toList) == ((rdOf ByteArray.empty y652 x21_4).toList)) || (!(((rd_T61 x11_3 x21_4).f1) == t702))) = true := c108
                   clear c108
                   obtain rfl := Option.some.inj H
                   have p698 : 0 ≤ (x21_4 : Int) := of_decide_eq_true (by first | (with_reducible assumption) | assumption)
                   have q698 : x21_4 < (x9_3.length : Int) := of_decide_eq_true (by first | (with_reducible assumption) | assumption)
                   obtain ⟨ad698, e698, hx698_0⟩ := Kd.at_int (Kd.R_reads' HO_9.out).2.2 x21_4 p698 q698
                   cases e698
                   replace p698 := eq_true p698
                   replace q698 := eq_true q698
                   try go_wp2
                   have n0_ := Aside0.mk (Kd.R_drew HO_9.out)
                   have n1_ := Aside0.mk (Kd.R_drew HO_10.out)
                   have n2_ := Aside0.mk (Kd.R_drew HO_11.out)
                   have n3_ := Aside0.mk (below_drew1 HB.out)
                   clear HO_9
                   clear HO_10
                   clear HO_11
                   clear HB
                   have HO_9 := n0_
                   have HO_10 := n1_
                   have HO_11 := n2_
                   have HB := n3_
                   clear n0_ n1_ n2_ n3_
                   obtain ⟨Ao110, co110, eo110⟩ := Kd.R_slice HO_11.out
                   (first | subst eo110 | (injection eo110 with f1_ f2_ f3_; have f4_ := f1_.symm; have f5_ := f3_.symm; clear f1_ f2_ f3_; subst f4_; subst f5_))
                   have p699 : 0 ≤ (x21_4 : Int) := of_decide_eq_true (by first | (with_reducible assumption) | assumption)
                   have q699 : x21_4 < (x11_3.length : Int) := of_decide_eq_true (by first | (with_reducible assumption) | assumption)
                   obtain ⟨ad699, e699, hx699_0, hx699_1⟩ := at_T61 (Kd.R_reads' HO_11.out).2.2 x21_4 p699 q699
                   cases e699
                   replace p699 := eq_true p699
                   replace q699 := eq_true q699
                   obtain ⟨Ao111, co111, eo111⟩ := Kd.R_slice HO_10.out
                   (first | subst eo111 | (injection eo111 with f1_ f2_ f3_; have f4_ := f1_.symm; have f5_ := f3_.symm; clear f1_ f2_ f3_; subst f4_; subst f5_))
                   have p700 : 0 ≤ (x21_4 : Int) := of_decide_eq_true (by first | (with_reducible assumption) | assumption)
                   have q700 : x21_4 < (y652.length : Int) := of_decide_eq_true (by first | (with_reducible assumption) | assumption)
                   obtain ⟨ad700, e700, hx700_0⟩ := Kd.at_string (Kd.R_reads' HO_10.out).2.2 x21_4 p700 q700
                   cases e700
                   replace p700 := eq_true p700
                   replace q700 := eq_true q700
                   have p701 : 0 ≤ (x21_4 : Int) := of_decide_eq_true (by first | (with_reducible assumption) | assumption)
                   have q701 : x21_4 < (x9_3.length : Int) := of_decide_eq_true (by first | (with_reducible assumption) | assumption)
                   obtain ⟨ad701, e701, hx701_0⟩ := Kd.at_int (Kd.R_reads' HO_9.out).2.2 x21_4 p701 q701
                   obtain rfl : ad698 = ad701 := (by injection e701)
                   replace p701 := eq_true p701
                   replace q701 := eq_true q701
                   refine start_ (n := 21) (S := fun w' => w'.cell? (ad699.add ((x21_4).toNat * 2)) = some (.string ((rd_T61 x11_3 x21_4).f0)) ∧ w'.cell? ⟨(ad699.add ((x21_4).toNat * 2)).block, (ad699.add ((x21_4).toNat * 2)).off + 1, none⟩ = some (.int .u64 ((rd_T61 x11_3 x21_4).f1)) ∧ w'.cell? (ad700.add (x21_4).toNat) = some (.string (rdOf ByteArray.empty y652 x21_4)) ∧ w'.cell? (ad698.add (x21_4).toNat) = some (.int .i64 (rd x9_3 x21_4))) (ds := []) #[false,false,false,false,false,false,false,false,false,false,false,false,false,false,false,false,false,false,false,false,false] (by kernel_rfl) rfl rfl ⟨hx699_0, hx699_1, hx700_0, hx701_0⟩ (fun hHeld => ?_); refine with_tabW folkmootlaw08_TxnSum.tab32 folkmootlaw08_TxnSum.bits32 (fun HT_ HW_ => ?_)
                   generalize wr.drew = w109 at HO_9 HO_10 HO_11 HB hx699_0 hx699_1 hx700_0 hx701_0 hHeld ⊢
                   refine pure_ (i := 0) (N := some 231) (v := ?_) (a' := ?_) #[true,false,false,false,false,false,false,false,false,false,false,false,false,false,false,false,false,false,false,false,false] rfl rfl (any_of HT_.out (by kernel_rfl)) (fun _ _ _ h => h) (Or.inl ⟨by rfl, ?_⟩) ?_ ?_
                   rotate_left
                   ·intro w'
                    go_simp
                    with_reducible rfl
                   rotate_left
                   ·simp only [Act.put, List.setIfInBounds_toArray, List.set_cons_zero, List.set_cons_succ, i64_w, i32_w]
                    rfl
                   refine pure_ (i := 1) (N := some 232) (v := ?_) (a' := ?_) #[true,true,false,false,false,false,false,false,false,false,false,false,false,false,false,false,false,false,false,false,false] rfl rfl (any_of HT_.out (by kernel_rfl)) (fun _ _ _ h => h) (Or.inl ⟨by rfl, ?_⟩) ?_ ?_
                   rotate_left
                   ·intro w'
                    go_simp
                    with_reducible rfl
                   rotate_left
                   ·simp only [Act.put, List.setIfInBounds_toArray, List.set_cons_zero, List.set_cons_succ, i64_w, i32_w]
                    rfl
                   refine pure_ (i := 2) (N := some 233) (v := ?_) (a' := ?_) #[true,true,true,false,false,false,false,false,false,false,false,false,false,false,false,false,false,false,false,false,false] rfl rfl (any_of HT_.out (by kernel_rfl)) (fun _ _ _ h => h) (Or.inl ⟨by rfl, ?_⟩) ?_ ?_
                   rotate_left
                   ·intro w'
                    go_simp
                    with_reducible rfl
                   rotate_left
                   ·simp only [Act.put, List.setIfInBounds_toArray, List.set_cons_zero, List.set_cons_succ, i64_w, i32_w]
                    rfl
                   refine pure_ (i := 3) (N := some 234) (v := ?_) (a' := ?_) #[true,true,true,true,false,false,false,false,false,false,false,false,false,false,false,false,false,false,false,false,false] rfl rfl (any_of HT_.out (by kernel_rfl)) (fun _ _ _ h => h) (Or.inl ⟨by rfl, ?_⟩) ?_ ?_
                   rotate_left
                   ·intro w'
                    go_simp
                    with_reducible rfl
                   rotate_left
                   ·simp only [Act.put, List.setIfInBounds_toArray, List.set_cons_zero, List.set_cons_succ, i64_w, i32_w]
                    rfl
                   refine pure_ (i := 4) (N := some 235) (v := ?_) (a' := ?_) #[true,true,true,true,true,false,false,false,false,false,false,false,false,false,false,false,false,false,false,false,false] rfl rfl (any_of HT_.out (by kernel_rfl)) (fun _ _ _ h => h) (Or.inl ⟨by rfl, ?_⟩) ?_ ?_
                   rotate_left
                   ·intro w'
                    go_simp
                    with_reducible rfl
                   rotate_left
                   ·simp only [Act.put, List.setIfInBounds_toArray, List.set_cons_zero, List.set_cons_succ, i64_w, i32_w]
                    rfl
                   refine pure_ (i := 5) (N := some 236) (v := ?_) (a' := ?_) #[true,true,true,true,true,true,false,false,false,false,false,false,false,false,false,false,false,false,false,false,false] rfl rfl (any_of HT_.out (by kernel_rfl)) (fun _ _ _ h => h) (Or.inl ⟨by rfl, ?_⟩) ?_ ?_
                   rotate_left
                   ·intro w'
                    go_simp
                    with_reducible rfl
                   rotate_left
                   ·simp only [Act.put, List.setIfInBounds_toArray, List.set_cons_zero, List.set_cons_succ, i64_w, i32_w]
                    rfl
                   refine pure_ (i := 6) (N := some 237) (v := ?_) (a' := ?_) #[true,true,true,true,true,true,true,false,false,false,false,false,false,false,false,false,false,false,false,false,false] rfl rfl (any_of HT_.out (by kernel_rfl)) (fun _ _ _ h => h) (Or.inl ⟨by rfl, ?_⟩) ?_ ?_
                   rotate_left
                   ·intro w'
                    go_simp
                    with_reducible rfl
                   rotate_left
                   ·simp only [Act.put, List.setIfInBounds_toArray, List.set_cons_zero, List.set_cons_succ, i64_w, i32_w]
                    rfl
                   refine pure_ (i := 7) (N := some 238) (v := ?_) (a' := ?_) #[true,true,true,true,true,true,true,true,false,false,false,false,false,false,false,false,false,false,false,false,false] rfl rfl (any_of HT_.out (by kernel_rfl)) (fun _ _ _ h => h) (Or.inl ⟨by rfl, ?_⟩) ?_ ?_
                   rotate_left
                   ·intro w'
                    go_simp
                    with_reducible rfl
                   rotate_left
                   ·simp only [Act.put, List.setIfInBounds_toArray, List.set_cons_zero, List.set_cons_succ, i64_w, i32_w]
                    rfl
                   refine pure_ (i := 9) (N := some 240) (v := ?_) (a' := ?_) #[true,true,true,true,true,true,true,true,false,true,false,false,false,false,false,false,false,false,false,false,false] rfl rfl (any_of HT_.out (by kernel_rfl)) (fun _ _ _ h => h) (Or.inl ⟨by rfl, ?_⟩) ?_ ?_
                   rotate_left
                   ·intro w'
                    go_simp
                    with_reducible rfl
                   rotate_left
                   ·simp only [Act.put, List.setIfInBounds_toArray, List.set_cons_zero, List.set_cons_succ, i64_w, i32_w]
                    rfl
                   refine pure_ (i := 10) (N := some 241) (v := ?_) (a' := ?_) #[true,true,true,true,true,true,true,true,false,true,true,false,false,false,false,false,false,false,false,false,false] rfl rfl (any_of HT_.out (by kernel_rfl)) (fun _ _ _ h => h) (Or.inl ⟨by rfl, ?_⟩) ?_ ?_
                   rotate_left
                   ·intro w'
                    go_simp
                    with_reducible rfl
                   rotate_left
                   ·simp only [Act.put, List.setIfInBounds_toArray, List.set_cons_zero, List.set_cons_succ, i64_w, i32_w]
                    rfl
                   refine pure_ (i := 11) (N := some 242) (v := ?_) (a' := ?_) #[true,true,true,true,true,true,true,true,false,true,true,true,false,false,false,false,false,false,false,false,false] rfl rfl (any_of HT_.out (by kernel_rfl)) (fun _ _ _ h => h) (Or.inl ⟨by rfl, ?_⟩) ?_ ?_
                   rotate_left
                   ·intro w'
                    go_simp
                    with_reducible rfl
                   rotate_left
                   ·simp only [Act.put, List.setIfInBounds_toArray, List.set_cons_zero, List.set_cons_succ, i64_w, i32_w]
                    rfl
                   refine pure_ (i := 13) (N := some 244) (v := ?_) (a' := ?_) #[true,true,true,true,true,true,true,true,false,true,true,true,false,true,false,false,false,false,false,false,false] rfl rfl (any_of HT_.out (by kernel_rfl)) (fun _ _ _ h => h) (Or.inl ⟨by rfl, ?_⟩) ?_ ?_
                   rotate_left
                   ·intro w'
                    go_simp
                    with_reducible rfl
                   rotate_left
                   ·simp only [Act.put, List.setIfInBounds_toArray, List.set_cons_zero, List.set_cons_succ, i64_w, i32_w]
                    rfl
                   refine pure_ (i := 14) (N := some 245) (v := ?_) (a' := ?_) #[true,true,true,true,true,true,true,true,false,true,true,true,false,true,true,false,false,false,false,false,false] rfl rfl (any_of HT_.out (by kernel_rfl)) (fun _ _ _ h => h) (Or.inl ⟨by rfl, ?_⟩) ?_ ?_
                   rotate_left
                   ·intro w'
                    go_simp
                    with_reducible rfl
                   rotate_left
                   ·simp only [Act.put, List.setIfInBounds_toArray, List.set_cons_zero, List.set_cons_succ, i64_w, i32_w]
                    rfl
                   refine pure_ (i := 15) (N := some 246) (v := ?_) (a' := ?_) #[true,true,true,true,true,true,true,true,false,true,true,true,false,true,true,true,false,false,false,false,false] rfl rfl (any_of HT_.out (by kernel_rfl)) (fun _ _ _ h => h) (Or.inl ⟨by rfl, ?_⟩) ?_ ?_
                   rotate_left
                   ·intro w'
                    go_simp
                    with_reducible rfl
                   rotate_left
                   ·simp only [Act.put, List.setIfInBounds_toArray, List.set_cons_zero, List.set_cons_succ, i64_w, i32_w]
                    rfl
                   refine take_ (i := 8) (N := some 239) (v := ?_) (a' := ?_) #[true,true,true,true,true,true,true,true,true,true,true,true,false,true,true,true,false,false,false,false,false] rfl rfl (take_ofW HT_.out HW_.out (by kernel_rfl)) (fun _ _ _ h => h) (Or.inl ⟨by rfl, ?_⟩) hHeld ?_ ?_
                   rotate_left
                   ·rintro w' ⟨s0, s1, s2, s3⟩
                    go_simp
                    with_reducible rfl
                   rotate_left
                   ·simp only [Act.put, List.setIfInBounds_toArray, List.set_cons_zero, List.set_cons_succ, i64_w, i32_w]
                    rfl
                   refine take_ (i := 12) (N := some 243) (v := ?_) (a' := ?_) #[true,true,true,true,true,true,true,true,true,true,true,true,true,true,true,true,false,false,false,false,false] rfl rfl (take_ofW HT_.out HW_.out (by kernel_rfl)) (fun _ _ _ h => h) (Or.inl ⟨by rfl, ?_⟩) hHeld ?_ ?_
                   rotate_left
                   ·rintro w' ⟨s0, s1, s2, s3⟩
                    go_simp
                    with_reducible rfl
                   rotate_left
                   ·simp only [Act.put, List.setIfInBounds_toArray, List.set_cons_zero, List.set_cons_succ, i64_w, i32_w]
                    rfl
                   refine take_ (i := 16) (N := some 247) (v := ?_) (a' := ?_) #[true,true,true,true,true,true,true,true,true,true,true,true,true,true,true,true,true,false,false,false,false] rfl rfl (take_ofW HT_.out HW_.out (by kernel_rfl)) (fun _ _ _ h => h) (Or.inl ⟨by rfl, ?_⟩) hHeld ?_ ?_
                   rotate_left
                   ·rintro w' ⟨s0, s1, s2, s3⟩
                    go_simp
                    with_reducible rfl
                   rotate_left
                   ·simp only [Act.put, List.setIfInBounds_toArray, List.set_cons_zero, List.set_cons_succ, i64_w, i32_w]
                    rfl
                   refine one_ (i := 17) (N := some 248) #[true,true,true,true,true,true,true,true,true,true,true,true,true,true,true,true,true,true,false,false,false] rfl rfl (one_of HT_.out (by kernel_rfl)) (by decide) (fun K hK => ?_)
                   refine goes_ Tryz.func36 (by kernel_rfl) rfl #[.int .i64 (rd x9_3 x21_4)] (by rfl) rfl rfl (by (try simp only [List.map_toArray, List.map_cons, List.map_nil]); first | done | rfl | (simp only [List.length_drop, List.length_take]; rfl)) ?_
                   with_reducible refine (folkmootref07_Of.calls (rd x9_3 x21_4) t702 _ A107.out).mono ?_
                   rintro e w' ⟨rfl, ⟨nd, rfl⟩⟩
                   refine ⟨_, rfl, ?_⟩
                   refine hK.out _ _ ⟨hHeld.1, hHeld.2.1, hHeld.2.2.1, hHeld.2.2.2⟩ (fun hHeld => ?_)
                   clear hK K
                   refine norm_ (a' := ?_) ?_ ?_
                   rotate_left
                   ·show Act.put _ (some 248) _ = _
                    simp only [Act.put, List.setIfInBounds_toArray, List.set_cons_zero, List.set_cons_succ, i64_w, i32_w]
                    rfl
                   refine pure_ (i := 18) (N := some 249) (v := ?_) (a' := ?_) #[true,true,true,true,true,true,true,true,true,true,true,true,true,true,true,true,true,true,true,false,false] rfl rfl (any_of HT_.out (by kernel_rfl)) (fun _ _ _ h => h) (Or.inl ⟨by rfl, ?_⟩) ?_ ?_
                   rotate_left
                   ·intro w'
                    go_simp
                    with_reducible rfl
                   rotate_left
                   ·simp only [Act.put, List.setIfInBounds_toArray, List.set_cons_zero, List.set_cons_succ, i64_w, i32_w]
                    rfl
                   refine pure_ (i := 19) (N := some 250) (v := ?_) (a' := ?_) #[true,true,true,true,true,true,true,true,true,true,true,true,true,true,true,true,true,true,true,true,false] rfl rfl (any_of HT_.out (by kernel_rfl)) (fun _ _ _ h => h) (Or.inl ⟨by rfl, ?_⟩) ?_ ?_
                   rotate_left
                   ·intro w'
                    go_simp
                    with_reducible rfl
                   rotate_left
                   ·simp only [Act.put, List.setIfInBounds_toArray, List.set_cons_zero, List.set_cons_succ, i64_w, i32_w]
                    rfl
                   refine pure_ (i := 20) (N := some 251) (v := ?_) (a' := ?_) #[true,true,true,true,true,true,true,true,true,true,true,true,true,true,true,true,true,true,true,true,true] rfl rfl (any_of HT_.out (by kernel_rfl)) (fun _ _ _ h => h) (Or.inl ⟨by rfl, ?_⟩) ?_ ?_
                   rotate_left
                   ·intro w'
                    go_simp
                    with_reducible rfl
                   rotate_left
                   ·simp only [Act.put, List.setIfInBounds_toArray, List.set_cons_zero, List.set_cons_succ, i64_w, i32_w]
                    rfl
                   refine done_ (done_of HT_.out (by kernel_rfl)) ?_
                   try go_wp2
                   go_ret
                   exact ⟨by first | rfl | (rw [bl_gt] <;> rfl) | (simp [errW_none, errW_some] <;> rfl) | (simp [*, errW_none, errW_some] <;> rfl), by repeat (first | (with_reducible first | exact HB.out | apply below_alloc | apply pw_below_drewN | apply below_drew1) | exact HB.out)⟩
                  ·rw [if_neg c108] at H
                   have c108b0 : (!((((rd_T61 x11_3 x21_4).f0).toList) == ((rdOf ByteArray.empty y652 x21_4).toList)) || (!(((rd_T61 x11_3 x21_4).f1) == t702))) = false := by simpa using c108
                   clear c108
                   have H' := Aside0.mk H
                   clear H
                   have p698 : 0 ≤ (x21_4 : Int) := of_decide_eq_true (by first | (with_reducible assumption) | assumption)
                   have q698 : x21_4 < (x9_3.length : Int) := of_decide_eq_true (by first | (with_reducible assumption) | assumption)
                   obtain ⟨ad698, e698, hx698_0⟩ := Kd.at_int (Kd.R_reads' HO_9.out).2.2 x21_4 p698 q698
                   cases e698
                   replace p698 := eq_true p698
                   replace q698 := eq_true q698
                   try go_wp2
                   have n0_ := Aside0.mk (Kd.R_drew HO_9.out)
                   have n1_ := Aside0.mk (Kd.R_drew HO_10.out)
                   have n2_ := Aside0.mk (Kd.R_drew HO_11.out)
                   have n3_ := Aside0.mk (below_drew1 HB.out)
                   clear HO_9
                   clear HO_10
                   clear HO_11
                   clear HB
                   have HO_9 := n0_
                   have HO_10 := n1_
                   have HO_11 := n2_
                   have HB := n3_
                   clear n0_ n1_ n2_ n3_
                   obtain ⟨Ao113, co113, eo113⟩ := Kd.R_slice HO_11.out
                   (first | subst eo113 | (injection eo113 with f1_ f2_ f3_; have f4_ := f1_.symm; have f5_ := f3_.symm; clear f1_ f2_ f3_; subst f4_; subst f5_))
                   have p699 : 0 ≤ (x21_4 : Int) := of_decide_eq_true (by first | (with_reducible assumption) | assumption)
                   have q699 : x21_4 < (x11_3.length : Int) := of_decide_eq_true (by first | (with_reducible assumption) | assumption)
                   obtain ⟨ad699, e699, hx699_0, hx699_1⟩ := at_T61 (Kd.R_reads' HO_11.out).2.2 x21_4 p699 q699
                   cases e699
                   replace p699 := eq_true p699
                   replace q699 := eq_true q699
                   obtain ⟨Ao114, co114, eo114⟩ := Kd.R_slice HO_10.out
                   (first | subst eo114 | (injection eo114 with f1_ f2_ f3_; have f4_ := f1_.symm; have f5_ := f3_.symm; clear f1_ f2_ f3_; subst f4_; subst f5_))
                   have p700 : 0 ≤ (x21_4 : Int) := of_decide_eq_true (by first | (with_reducible assumption) | assumption)
                   have q700 : x21_4 < (y652.length : Int) := of_decide_eq_true (by first | (with_reducible assumption) | assumption)
                   obtain ⟨ad700, e700, hx700_0⟩ := Kd.at_string (Kd.R_reads' HO_10.out).2.2 x21_4 p700 q700
                   cases e700
                   replace p700 := eq_true p700
                   replace q700 := eq_true q700
                   have p701 : 0 ≤ (x21_4 : Int) := of_decide_eq_true (by first | (with_reducible assumption) | assumption)
                   have q701 : x21_4 < (x9_3.length : Int) := of_decide_eq_true (by first | (with_reducible assumption) | assumption)
                   obtain ⟨ad701, e701, hx701_0⟩ := Kd.at_int (Kd.R_reads' HO_9.out).2.2 x21_4 p701 q701
                   obtain rfl : ad698 = ad701 := (by injection e701)
                   replace p701 := eq_true p701
                   replace q701 := eq_true q701
                   refine start_ (n := 21) (S := fun w' => w'.cell? (ad699.add ((x21_4).toNat * 2)) = some (.string ((rd_T61 x11_3 x21_4).f0)) ∧ w'.cell? ⟨(ad699.add ((x21_4).toNat * 2)).block, (ad699.add ((x21_4).toNat * 2)).off + 1, none⟩ = some (.int .u64 ((rd_T61 x11_3 x21_4).f1)) ∧ w'.cell? (ad700.add (x21_4).toNat) = some (.string (rdOf ByteArray.empty y652 x21_4)) ∧ w'.cell? (ad698.add (x21_4).toNat) = some (.int .i64 (rd x9_3 x21_4))) (ds := []) #[false,false,false,false,false,false,false,false,false,false,false,false,false,false,false,false,false,false,false,false,false] (by kernel_rfl) rfl rfl ⟨hx699_0, hx699_1, hx700_0, hx701_0⟩ (fun hHeld => ?_); refine with_tabW folkmootlaw08_TxnSum.tab32 folkmootlaw08_TxnSum.bits32 (fun HT_ HW_ => ?_)
                   generalize wr.drew = w112 at HO_9 HO_10 HO_11 HB hx699_0 hx699_1 hx700_0 hx701_0 hHeld ⊢
                   refine pure_ (i := 0) (N := some 231) (v := ?_) (a' := ?_) #[true,false,false,false,false,false,false,false,false,false,false,false,false,false,false,false,false,false,false,false,false] rfl rfl (any_of HT_.out (by kernel_rfl)) (fun _ _ _ h => h) (Or.inl ⟨by rfl, ?_⟩) ?_ ?_
                   rotate_left
                   ·intro w'
                    go_simp
                    with_reducible rfl
                   rotate_left
                   ·simp only [Act.put, List.setIfInBounds_toArray, List.set_cons_zero, List.set_cons_succ, i64_w, i32_w]
                    rfl
                   refine pure_ (i := 1) (N := some 232) (v := ?_) (a' := ?_) #[true,true,false,false,false,false,false,false,false,false,false,false,false,false,false,false,false,false,false,false,false] rfl rfl (any_of HT_.out (by kernel_rfl)) (fun _ _ _ h => h) (Or.inl ⟨by rfl, ?_⟩) ?_ ?_
                   rotate_left
                   ·intro w'
                    go_simp
                    with_reducible rfl
                   rotate_left
                   ·simp only [Act.put, List.setIfInBounds_toArray, List.set_cons_zero, List.set_cons_succ, i64_w, i32_w]
                    rfl
                   refine pure_ (i := 2) (N := some 233) (v := ?_) (a' := ?_) #[true,true,true,false,false,false,false,false,false,false,false,false,false,false,false,false,false,false,false,false,false] rfl rfl (any_of HT_.out (by kernel_rfl)) (fun _ _ _ h => h) (Or.inl ⟨by rfl, ?_⟩) ?_ ?_
                   rotate_left
                   ·intro w'
                    go_simp
                    with_reducible rfl
                   rotate_left
                   ·simp only [Act.put, List.setIfInBounds_toArray, List.set_cons_zero, List.set_cons_succ, i64_w, i32_w]
                    rfl
                   refine pure_ (i := 3) (N := some 234) (v := ?_) (a' := ?_) #[true,true,true,true,false,false,false,false,false,false,false,false,false,false,false,false,false,false,false,false,false] rfl rfl (any_of HT_.out (by kernel_rfl)) (fun _ _ _ h => h) (Or.inl ⟨by rfl, ?_⟩) ?_ ?_
                   rotate_left
                   ·intro w'
                    go_simp
                    with_reducible rfl
                   rotate_left
                   ·simp only [Act.put, List.setIfInBounds_toArray, List.set_cons_zero, List.set_cons_succ, i64_w, i32_w]
                    rfl
                   refine pure_ (i := 4) (N := some 235) (v := ?_) (a' := ?_) #[true,true,true,true,true,false,false,false,false,false,false,false,false,false,false,false,false,false,false,false,false] rfl rfl (any_of HT_.out (by kernel_rfl)) (fun _ _ _ h => h) (Or.inl ⟨by rfl, ?_⟩) ?_ ?_
                   rotate_left
                   ·intro w'
                    go_simp
                    with_reducible rfl
                   rotate_left
                   ·simp only [Act.put, List.setIfInBounds_toArray, List.set_cons_zero, List.set_cons_succ, i64_w, i32_w]
                    rfl
                   refine pure_ (i := 5) (N := some 236) (v := ?_) (a' := ?_) #[true,true,true,true,true,true,false,false,false,false,false,false,false,false,false,false,false,false,false,false,false] rfl rfl (any_of HT_.out (by kernel_rfl)) (fun _ _ _ h => h) (Or.inl ⟨by rfl, ?_⟩) ?_ ?_
                   rotate_left
                   ·intro w'
                    go_simp
                    with_reducible rfl
                   rotate_left
                   ·simp only [Act.put, List.setIfInBounds_toArray, List.set_cons_zero, List.set_cons_succ, i64_w, i32_w]
                    rfl
                   refine pure_ (i := 6) (N := some 237) (v := ?_) (a' := ?_) #[true,true,true,true,true,true,true,false,false,false,false,false,false,false,false,false,false,false,false,false,false] rfl rfl (any_of HT_.out (by kernel_rfl)) (fun _ _ _ h => h) (Or.inl ⟨by rfl, ?_⟩) ?_ ?_
                   rotate_left
                   ·intro w'
                    go_simp
                    with_reducible rfl
                   rotate_left
                   ·simp only [Act.put, List.setIfInBounds_toArray, List.set_cons_zero, List.set_cons_succ, i64_w, i32_w]
                    rfl
                   refine pure_ (i := 7) (N := some 238) (v := ?_) (a' := ?_) #[true,true,true,true,true,true,true,true,false,false,false,false,false,false,false,false,false,false,false,false,false] rfl rfl (any_of HT_.out (by kernel_rfl)) (fun _ _ _ h => h) (Or.inl ⟨by rfl, ?_⟩) ?_ ?_
                   rotate_left
                   ·intro w'
                    go_simp
                    with_reducible rfl
                   rotate_left
                   ·simp only [Act.put, List.setIfInBounds_toArray, List.set_cons_zero, List.set_cons_succ, i64_w, i32_w]
                    rfl
                   refine pure_ (i := 9) (N := some 240) (v := ?_) (a' := ?_) #[true,true,true,true,true,true,true,true,false,true,false,false,false,false,false,false,false,false,false,false,false] rfl rfl (any_of HT_.out (by kernel_rfl)) (fun _ _ _ h => h) (Or.inl ⟨by rfl, ?_⟩) ?_ ?_
                   rotate_left
                   ·intro w'
                    go_simp
                    with_reducible rfl
                   rotate_left
                   ·simp only [Act.put, List.setIfInBounds_toArray, List.set_cons_zero, List.set_cons_succ, i64_w, i32_w]
                    rfl
                   refine pure_ (i := 10) (N := some 241) (v := ?_) (a' := ?_) #[true,true,true,true,true,true,true,true,false,true,true,false,false,false,false,false,false,false,false,false,false] rfl rfl (any_of HT_.out (by kernel_rfl)) (fun _ _ _ h => h) (Or.inl ⟨by rfl, ?_⟩) ?_ ?_
                   rotate_left
                   ·intro w'
                    go_simp
                    with_reducible rfl
                   rotate_left
                   ·simp only [Act.put, List.setIfInBounds_toArray, List.set_cons_zero, List.set_cons_succ, i64_w, i32_w]
                    rfl
                   refine pure_ (i := 11) (N := some 242) (v := ?_) (a' := ?_) #[true,true,true,true,true,true,true,true,false,true,true,true,false,false,false,false,false,false,false,false,false] rfl rfl (any_of HT_.out (by kernel_rfl)) (fun _ _ _ h => h) (Or.inl ⟨by rfl, ?_⟩) ?_ ?_
                   rotate_left
                   ·intro w'
                    go_simp
                    with_reducible rfl
                   rotate_left
                   ·simp only [Act.put, List.setIfInBounds_toArray, List.set_cons_zero, List.set_cons_succ, i64_w, i32_w]
                    rfl
                   refine pure_ (i := 13) (N := some 244) (v := ?_) (a' := ?_) #[true,true,true,true,true,true,true,true,false,true,true,true,false,true,false,false,false,false,false,false,false] rfl rfl (any_of HT_.out (by kernel_rfl)) (fun _ _ _ h => h) (Or.inl ⟨by rfl, ?_⟩) ?_ ?_
                   rotate_left
                   ·intro w'
                    go_simp
                    with_reducible rfl
                   rotate_left
                   ·simp only [Act.put, List.setIfInBounds_toArray, List.set_cons_zero, List.set_cons_succ, i64_w, i32_w]
                    rfl
                   refine pure_ (i := 14) (N := some 245) (v := ?_) (a' := ?_) #[true,true,true,true,true,true,true,true,false,true,true,true,false,true,true,false,false,false,false,false,false] rfl rfl (any_of HT_.out (by kernel_rfl)) (fun _ _ _ h => h) (Or.inl ⟨by rfl, ?_⟩) ?_ ?_
                   rotate_left
                   ·intro w'
                    go_simp
                    with_reducible rfl
                   rotate_left
                   ·simp only [Act.put, List.setIfInBounds_toArray, List.set_cons_zero, List.set_cons_succ, i64_w, i32_w]
                    rfl
                   refine pure_ (i := 15) (N := some 246) (v := ?_) (a' := ?_) #[true,true,true,true,true,true,true,true,false,true,true,true,false,true,true,true,false,false,false,false,false] rfl rfl (any_of HT_.out (by kernel_rfl)) (fun _ _ _ h => h) (Or.inl ⟨by rfl, ?_⟩) ?_ ?_
                   rotate_left
                   ·intro w'
                    go_simp
                    with_reducible rfl
                   rotate_left
                   ·simp only [Act.put, List.setIfInBounds_toArray, List.set_cons_zero, List.set_cons_succ, i64_w, i32_w]
                    rfl
                   refine take_ (i := 8) (N := some 239) (v := ?_) (a' := ?_) #[true,true,true,true,true,true,true,true,true,true,true,true,false,true,true,true,false,false,false,false,false] rfl rfl (take_ofW HT_.out HW_.out (by kernel_rfl)) (fun _ _ _ h => h) (Or.inl ⟨by rfl, ?_⟩) hHeld ?_ ?_
                   rotate_left
                   ·rintro w' ⟨s0, s1, s2, s3⟩
                    go_simp
                    with_reducible rfl
                   rotate_left
                   ·simp only [Act.put, List.setIfInBounds_toArray, List.set_cons_zero, List.set_cons_succ, i64_w, i32_w]
                    rfl
                   refine take_ (i := 12) (N := some 243) (v := ?_) (a' := ?_) #[true,true,true,true,true,true,true,true,true,true,true,true,true,true,true,true,false,false,false,false,false] rfl rfl (take_ofW HT_.out HW_.out (by kernel_rfl)) (fun _ _ _ h => h) (Or.inl ⟨by rfl, ?_⟩) hHeld ?_ ?_
                   rotate_left
                   ·rintro w' ⟨s0, s1, s2, s3⟩
                    go_simp
                    with_reducible rfl
                   rotate_left
                   ·simp only [Act.put, List.setIfInBounds_toArray, List.set_cons_zero, List.set_cons_succ, i64_w, i32_w]
                    rfl
                   refine take_ (i := 16) (N := some 247) (v := ?_) (a' := ?_) #[true,true,true,true,true,true,true,true,true,true,true,true,true,true,true,true,true,false,false,false,false] rfl rfl (take_ofW HT_.out HW_.out (by kernel_rfl)) (fun _ _ _ h => h) (Or.inl ⟨by rfl, ?_⟩) hHeld ?_ ?_
                   rotate_left
                   ·rintro w' ⟨s0, s1, s2, s3⟩
                    go_simp
                    with_reducible rfl
                   rotate_left
                   ·simp only [Act.put, List.setIfInBounds_toArray, List.set_cons_zero, List.set_cons_succ, i64_w, i32_w]
                    rfl
                   refine one_ (i := 17) (N := some 248) #[true,true,true,true,true,true,true,true,true,true,true,true,true,true,true,true,true,true,false,false,false] rfl rfl (one_of HT_.out (by kernel_rfl)) (by decide) (fun K hK => ?_)
                   refine goes_ Tryz.func36 (by kernel_rfl) rfl #[.int .i64 (rd x9_3 x21_4)] (by rfl) rfl rfl (by (try simp only [List.map_toArray, List.map_cons, List.map_nil]); first | done | rfl | (simp only [List.length_drop, List.length_take]; rfl)) ?_
                   with_reducible refine (folkmootref07_Of.calls (rd x9_3 x21_4) t702 _ A107.out).mono ?_
                   rintro e w' ⟨rfl, ⟨nd, rfl⟩⟩
                   refine ⟨_, rfl, ?_⟩
                   refine hK.out _ _ ⟨hHeld.1, hHeld.2.1, hHeld.2.2.1, hHeld.2.2.2⟩ (fun hHeld => ?_)
                   clear hK K
                   refine norm_ (a' := ?_) ?_ ?_
                   rotate_left
                   ·show Act.put _ (some 248) _ = _
                    simp only [Act.put, List.setIfInBounds_toArray, List.set_cons_zero, List.set_cons_succ, i64_w, i32_w]
                    rfl
                   refine pure_ (i := 18) (N := some 249) (v := ?_) (a' := ?_) #[true,true,true,true,true,true,true,true,true,true,true,true,true,true,true,true,true,true,true,false,false] rfl rfl (any_of HT_.out (by kernel_rfl)) (fun _ _ _ h => h) (Or.inl ⟨by rfl, ?_⟩) ?_ ?_
                   rotate_left
                   ·intro w'
                    go_simp
                    with_reducible rfl
                   rotate_left
                   ·simp only [Act.put, List.setIfInBounds_toArray, List.set_cons_zero, List.set_cons_succ, i64_w, i32_w]
                    rfl
                   refine pure_ (i := 19) (N := some 250) (v := ?_) (a' := ?_) #[true,true,true,true,true,true,true,true,true,true,true,true,true,true,true,true,true,true,true,true,false] rfl rfl (any_of HT_.out (by kernel_rfl)) (fun _ _ _ h => h) (Or.inl ⟨by rfl, ?_⟩) ?_ ?_
                   rotate_left
                   ·intro w'
                    go_simp
                    with_reducible rfl
                   rotate_left
                   ·simp only [Act.put, List.setIfInBounds_toArray, List.set_cons_zero, List.set_cons_succ, i64_w, i32_w]
                    rfl
                   refine pure_ (i := 20) (N := some 251) (v := ?_) (a' := ?_) #[true,true,true,true,true,true,true,true,true,true,true,true,true,true,true,true,true,true,true,true,true] rfl rfl (any_of HT_.out (by kernel_rfl)) (fun _ _ _ h => h) (Or.inl ⟨by rfl, ?_⟩) ?_ ?_
                   rotate_left
                   ·intro w'
                    go_simp
                    with_reducible rfl
                   rotate_left
                   ·simp only [Act.put, List.setIfInBounds_toArray, List.set_cons_zero, List.set_cons_succ, i64_w, i32_w]
                    rfl
                   refine done_ (done_of HT_.out (by kernel_rfl)) ?_
                   try go_wp2
                   go_roundg k4
                   case measure => have := HJ5.out; have := HK2.out; have := HK3.out; have := HK4.out; omega
                   case rel => exact ⟨(wrap64 (x20_4 + (rd x9_3 x21_4))), (wrap64 (x21_4 + 1)), (by first | rfl | (rw [bl_gt] <;> rfl) | (simp; done) | (simp [*]; done)), (by first | rfl | (rw [bl_gt] <;> rfl) | (simp; done) | (simp [*]; done)), H', ⟨by have := HJ5.out; have := HK2.out; have := HK3.out; have := HK4.out; omega⟩, ⟨by (try simp only [hl9_3]); (with_reducible repeat (first | apply Kd.R_alloc | apply Kd.R_drewN | apply Kd.R_drew)); exact HO_9.out⟩, ⟨by (try simp only [hl9_3]); (with_reducible repeat (first | apply Kd.R_alloc | apply Kd.R_drewN | apply Kd.R_drew)); exact HO_10.out⟩, ⟨by (try simp only [hl9_3]); (with_reducible repeat (first | apply Kd.R_alloc | apply Kd.R_drewN | apply Kd.R_drew)); exact HO_11.out⟩, ⟨by repeat (first | (with_reducible first | exact HB.out | apply below_alloc | apply pw_below_drewN | apply below_drew1) | exact HB.out)⟩⟩
                 ·rw [if_neg c106] at H
                  exact absurd H (by simp)
                ·rw [if_neg c105] at H
                 exact absurd H (by simp)
              ·rw [if_neg c101] at H
               exact absurd H (by simp)
             ·rw [if_neg c100] at H
              have c100b0 : decide (x21_4 < (x9_3.length : Int)) = false := decide_eq_false c100
              clear c100
              by_cases c115 : x20_4 = x12_2
              ·rw [if_pos c115] at H
               have c115b0 : (x20_4 == x12_2) = true := beq_iff_eq.mpr c115
               have c115b1 : (x20_4 != x12_2) = false := bne_eq_false_iff_eq.mpr c115
               clear c115
               by_cases c116 : (x11_3.length : Int) = (x9_3.length : Int)
               ·rw [if_pos c116] at H
                have c116b0 : ((x11_3.length : Int) == (x9_3.length : Int)) = true := beq_iff_eq.mpr c116
                have c116b1 : ((x11_3.length : Int) != (x9_3.length : Int)) = false := bne_eq_false_iff_eq.mpr c116
                have c116b2 : (x11_3.length == x9_3.length) = true := by first | simpa using c116 | (simp at c116 ⊢; omega)
                clear c116
                replace H := Option.bind_eq_some_iff.mp H
                obtain ⟨t703, A1170, H⟩ := H
                replace H : (some t703) = some r := H
                have A117 := Aside0.mk A1170
                clear A1170
                obtain rfl := Option.some.inj H
                obtain ⟨Ao118, co118, eo118⟩ := Kd.R_slice HO_11.out
                subst eo118
                go_wp2_with (first | (go_at_call 14; (with_reducible refine (folkmootlaw08_live.calls  t703 _ A117.out).mono ?_); rintro e w119 ⟨rfl, hb⟩; have n0_ := Aside0.mk (Kd.R_below (by (with_reducible repeat (first | apply Kd.R_alloc | apply Kd.R_drewN | apply Kd.R_drew)); exact HO_9.out) hb); have n1_ := Aside0.mk (Kd.R_below (by (with_reducible repeat (first | apply Kd.R_alloc | apply Kd.R_drewN | apply Kd.R_drew)); exact HO_10.out) hb); have n2_ := Aside0.mk (Kd.R_below (by (with_reducible repeat (first | apply Kd.R_alloc | apply Kd.R_drewN | apply Kd.R_drew)); exact HO_11.out) hb); have n3_ := Aside0.mk (below_step (by repeat (first | (with_reducible first | exact HB.out | apply below_alloc | apply pw_below_drewN | apply below_drew1) | exact HB.out)) hb); clear HO_9; clear HO_10; clear HO_11; clear HB; have HO_9 := n0_; have HO_10 := n1_; have HO_11 := n2_; have HB := n3_; clear n0_ n1_ n2_ n3_; (try clear hb); (try clear hb2); (try clear hk); (try clear hi)))
                go_ret
                exact ⟨by first | rfl | (rw [bl_gt] <;> rfl) | (simp [errW_none, errW_some] <;> rfl) | (simp [*, errW_none, errW_some] <;> rfl), by repeat (first | (with_reducible first | exact HB.out | apply below_alloc | apply pw_below_drewN | apply below_drew1) | exact HB.out)⟩
               ·rw [if_neg c116] at H
                have c116b0 : ((x11_3.length : Int) == (x9_3.length : Int)) = false := beq_eq_false_iff_ne.mpr c116
                have c116b1 : ((x11_3.length : Int) != (x9_3.length : Int)) = true := bne_iff_ne.mpr c116
                have c116b2 : (x11_3.length == x9_3.length) = false := by first | simpa using c116 | (simp at c116 ⊢; omega)
                obtain rfl := Option.some.inj H
                obtain ⟨Ao120, co120, eo120⟩ := Kd.R_slice HO_11.out
                subst eo120
                go_wp2
                go_ret
                exact ⟨by first | rfl | (rw [bl_gt] <;> rfl) | (simp [errW_none, errW_some] <;> rfl) | (simp [*, errW_none, errW_some] <;> rfl), by repeat (first | (with_reducible first | exact HB.out | apply below_alloc | apply pw_below_drewN | apply below_drew1) | exact HB.out)⟩
              ·rw [if_neg c115] at H
               have c115b0 : (x20_4 == x12_2) = false := beq_eq_false_iff_ne.mpr c115
               have c115b1 : (x20_4 != x12_2) = true := bne_iff_ne.mpr c115
               obtain rfl := Option.some.inj H
               go_wp2
               go_ret
               exact ⟨by first | rfl | (rw [bl_gt] <;> rfl) | (simp [errW_none, errW_some] <;> rfl) | (simp [*, errW_none, errW_some] <;> rfl), by repeat (first | (with_reducible first | exact HB.out | apply below_alloc | apply pw_below_drewN | apply below_drew1) | exact HB.out)⟩
 ·rw [if_neg c5] at H
  exact absurd H (by simp)
def folkmootlaw08_TxnSum.Pure : Prop := ∀ (l0 : List Int) (l1 : List Int) (l2 : List Int) (l3 : List Int), l0.length ≤ maxLen → l0.length * 8 ≤ 140737488351232 → (∀ x ∈ l0, (Lit.int .i64 x).wf = true) → l1.length ≤ maxLen → l1.length * 8 ≤ 140737488351232 → (∀ x ∈ l1, (Lit.int .i64 x).wf = true) → l2.length ≤ maxLen → l2.length * 8 ≤ 140737488351232 → (∀ x ∈ l2, (Lit.int .i64 x).wf = true) → l3.length ≤ maxLen → l3.length * 8 ≤ 140737488351232 → (∀ x ∈ l3, (Lit.int .i64 x).wf = true) → ∃ k, folkmootlaw08_TxnSum.f k l0 l1 l2 l3 = some true
theorem folkmootlaw08_TxnSum.walk (P : folkmootlaw08_TxnSum.Pure) (a0 : Option Addr) (len0 cap0 : Nat) (z0 : List Int) (a1 : Option Addr) (len1 cap1 : Nat) (z1 : List Int) (a2 : Option Addr) (len2 cap2 : Nat) (z2 : List Int) (a3 : Option Addr) (len3 cap3 : Nat) (z3 : List Int) (w : World) (w0 : (a0 = none ∧ len0 = 0 ∧ cap0 = 0 ∧ z0 = []) ∨ ∃ x, a0 = some x ∧ len0 ≤ cap0 ∧ cap0 ≤ maxLen ∧ z0.length = cap0 ∧ (∀ i, i < z0.length → w.cell? (x.add i) = some (.int .i64 (z0.getD i 0))) ∧ ∀ n ∈ z0, (Lit.int .i64 n).wf = true) (y0 : len0 * 8 ≤ 140737488351232) (w1 : (a1 = none ∧ len1 = 0 ∧ cap1 = 0 ∧ z1 = []) ∨ ∃ x, a1 = some x ∧ len1 ≤ cap1 ∧ cap1 ≤ maxLen ∧ z1.length = cap1 ∧ (∀ i, i < z1.length → w.cell? (x.add i) = some (.int .i64 (z1.getD i 0))) ∧ ∀ n ∈ z1, (Lit.int .i64 n).wf = true) (y1 : len1 * 8 ≤ 140737488351232) (w2 : (a2 = none ∧ len2 = 0 ∧ cap2 = 0 ∧ z2 = []) ∨ ∃ x, a2 = some x ∧ len2 ≤ cap2 ∧ cap2 ≤ maxLen ∧ z2.length = cap2 ∧ (∀ i, i < z2.length → w.cell? (x.add i) = some (.int .i64 (z2.getD i 0))) ∧ ∀ n ∈ z2, (Lit.int .i64 n).wf = true) (y2 : len2 * 8 ≤ 140737488351232) (w3 : (a3 = none ∧ len3 = 0 ∧ cap3 = 0 ∧ z3 = []) ∨ ∃ x, a3 = some x ∧ len3 ≤ cap3 ∧ cap3 ≤ maxLen ∧ z3.length = cap3 ∧ (∀ i, i < z3.length → w.cell? (x.add i) = some (.int .i64 (z3.getD i 0))) ∧ ∀ n ∈ z3, (Lit.int .i64 n).wf = true) (y3 : len3 * 8 ≤ 140737488351232) :
  Calls Tryz.prog 5 #[.slice a0 len0 cap0, .slice a1 len1 cap1, .slice a2 len2 cap2, .slice a3 len3 cap3] w fun e w' => e = .returned (.bool true) ∧ Below w.heap.size w w' := by
 obtain ⟨l0, rfl, hr0, hm0, hw0, hc0⟩ := ReadsInt.ofRowC w0
 obtain ⟨l1, rfl, hr1, hm1, hw1, hc1⟩ := ReadsInt.ofRowC w1
 obtain ⟨l2, rfl, hr2, hm2, hw2, hc2⟩ := ReadsInt.ofRowC w2
 obtain ⟨l3, rfl, hr3, hm3, hw3, hc3⟩ := ReadsInt.ofRowC w3
 obtain ⟨k, h⟩ := P l0 l1 l2 l3 hm0 y0 hw0 hm1 y1 hw1 hm2 y2 hw2 hm3 y3 hw3
 refine (folkmootlaw08_TxnSum.calls k _ _ l0 _ _ l1 _ _ l2 _ _ l3 true w (Kd.C_of_reads (d := (0 : Int)) (h1 := fun _ => rfl) hr0) hc0 (Kd.C_of_reads (d := (0 : Int)) (h1 := fun _ => rfl) hr1) hc1 (Kd.C_of_reads (d := (0 : Int)) (h1 := fun _ => rfl) hr2) hc2 (Kd.C_of_reads (d := (0 : Int)) (h1 := fun _ => rfl) hr3) hc3 h).mono ?_
 rintro e w' ⟨rfl, hd⟩
 exact ⟨rfl, hd⟩
end Go.Proofs.YtgmlenpcchhmbaaGreat.P
end
