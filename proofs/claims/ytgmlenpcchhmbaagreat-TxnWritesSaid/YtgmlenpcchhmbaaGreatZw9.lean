/- what the claim's row stands on, part 9. -/
import Derived.Test.YtgmlenpcchhmbaaGreatZw2
import Derived.Test.YtgmlenpcchhmbaaGreatZw4
import Derived.Test.YtgmlenpcchhmbaaGreatZw3
import Derived.Test.YtgmlenpcchhmbaaGreatZw8
section
set_option linter.unusedVariables false
set_option linter.unusedSimpArgs false
namespace Go.Proofs.YtgmlenpcchhmbaaGreat.P
open Go.RowKit Go.Proofs.YtgmlenpcchhmbaaGreatW.PrintWords Go.Proofs.YtgmlenpcchhmbaaGreatW.PrintLast Go.Proofs.YtgmlenpcchhmbaaGreatW.PrintMore
attribute [local go_sem] max2_int min2_int max_two min_two max_three min_three max_four min_four   -- for this text's walks alone
set_option linter.unusedVariables false
set_option linter.unusedSimpArgs false
mutual
def folkmootlaw08_TxnWrites.j0 : Nat → List (S61) → Bool → ByteArray → Int → Bool → ByteArray → Int → Bool → Option (Bool)
 | 0, _, _, _, _, _, _, _, _ => none
 | k + 1, x0, x39, x125000, x125001, x125002, x126000, x126001, x126002 => if x39 = true then ((folkmootlaw08_live.f).bind fun t130 => (some t130)) else ((txn_Apply.f x0 (([(⟨x125000, x125001, x125002⟩ : S69), (⟨x126000, x126001, x126002⟩ : S69)] : List (S69)))).bind fun t134 => ((txn_Apply.f x0 (([(⟨x126000, x126001, x126002⟩ : S69)] : List (S69)))).bind fun t140 => ((txn_Apply.f t140 (([(⟨x125000, x125001, x125002⟩ : S69)] : List (S69)))).bind fun t146 => (if x125000.toList = x126000.toList then (folkmootlaw08_TxnWrites.j1 k x0 t134 false x125000 x125001 x125002 x126000 x126001 x126002) else ((folkmootref08_Pairs.f k t134 t146).bind fun t149 => (folkmootlaw08_TxnWrites.j1 k x0 t134 (!t149) x125000 x125001 x125002 x126000 x126001 x126002))))))
def folkmootlaw08_TxnWrites.j1 : Nat → List (S61) → List (S61) → Bool → ByteArray → Int → Bool → ByteArray → Int → Bool → Option (Bool)
 | 0, _, _, _, _, _, _, _, _, _ => none
 | k + 1, x0, x7, x63, x125000, x125001, x125002, x126000, x126001, x126002 => if x63 = true then (some false) else ((txn_Apply.f x0 (([(⟨x126000, x126001, x126002⟩ : S69)] : List (S69)))).bind fun t153 => (if x125000.toList = x126000.toList then ((folkmootref08_Pairs.f k x7 t153).bind fun t156 => (if t156 = true then ((txn_Apply.f t153 (([(⟨x126000, x126001, x126002⟩ : S69)] : List (S69)))).bind fun t160 => ((folkmootref08_Pairs.f k t160 t153).bind fun t163 => (if t163 = true then (if x126000.size + 1 ≤ 9223372036854775807 then ((txn_Pick.f t153 (([(⟨x126000, x126000 ++ (⟨#[0]⟩ : ByteArray)⟩ : S71)] : List (S71)))).bind fun t167 => (if (((t167.length : Int) == 0) == x126002) = true then ((folkmootlaw08_live.f).bind fun t170 => (some t170)) else (some false))) else (none)) else (some false)))) else (some false))) else ((txn_Apply.f t153 (([(⟨x126000, x126001, x126002⟩ : S69)] : List (S69)))).bind fun t174 => ((folkmootref08_Pairs.f k t174 t153).bind fun t177 => (if t177 = true then (if x126000.size + 1 ≤ 9223372036854775807 then ((txn_Pick.f t153 (([(⟨x126000, x126000 ++ (⟨#[0]⟩ : ByteArray)⟩ : S71)] : List (S71)))).bind fun t181 => (if (((t181.length : Int) == 0) == x126002) = true then ((folkmootlaw08_live.f).bind fun t184 => (some t184)) else (some false))) else (none)) else (some false))))))
end
def folkmootlaw08_TxnWrites.f (k : Nat) (l0 : List (S61)) (a1_0 : ByteArray) (a1_1 : Int) (a1_2 : Bool) (a2_0 : ByteArray) (a2_1 : Int) (a2_2 : Bool) : Option (Bool) := (folkmootlaw08_small.f k ([] : List (S63)) l0).bind fun t126 => (if t126 = true then ((folkmootref08_Data.f k l0).bind fun t127 => (if t127 = true then ((folkmootref03_Key.f a1_0).bind fun t128 => (if t128 = true then ((folkmootref03_Key.f a2_0).bind fun t129 => (if t129 = true then (folkmootlaw08_TxnWrites.j0 k l0 (decide ((wrap64 ((a1_0.size : Int) + (a2_0.size : Int))) > 100)) a1_0 a1_1 a1_2 a2_0 a2_1 a2_2) else (folkmootlaw08_TxnWrites.j0 k l0 true a1_0 a1_1 a1_2 a2_0 a2_1 a2_2))) else (folkmootlaw08_TxnWrites.j0 k l0 true a1_0 a1_1 a1_2 a2_0 a2_1 a2_2))) else (folkmootlaw08_TxnWrites.j0 k l0 true a1_0 a1_1 a1_2 a2_0 a2_1 a2_2))) else (folkmootlaw08_TxnWrites.j0 k l0 true a1_0 a1_1 a1_2 a2_0 a2_1 a2_2))
def folkmootlaw08_TxnWrites.T3 : Bool × List (List Nat × List Nat) := (true, [([], []), ([], []), ([], []), ([1, 2], [1, 2]), ([0, 3], [0, 3]), ([], []), ([], []), ([6], [6]), ([5, 7, 4], [5, 7]), ([], []), ([9], [9]), ([8, 10, 8], [8, 10]), ([4, 11, 0, 1, 2, 3, 4], [4]), ([11, 12, 0, 1, 2, 3, 4, 5, 6, 7, 8, 9, 10, 11, 12], [11])])
def folkmootlaw08_TxnWrites.B3 : List Nat := [0, 0, 0, 6, 15, 0, 0, 64, 255, 0, 512, 2047, 4095, 8191]
theorem folkmootlaw08_TxnWrites.tab3 : rtab .any (opsOf Tryz.f8 3) = folkmootlaw08_TxnWrites.T3 := by kernel_rfl
theorem folkmootlaw08_TxnWrites.bits3 : waitsOk folkmootlaw08_TxnWrites.T3.2 folkmootlaw08_TxnWrites.B3 = true := by kernel_rfl
def folkmootlaw08_TxnWrites.T7 : Bool × List (List Nat × List Nat) := (true, [([], []), ([0], [0]), ([], []), ([2], [2]), ([1, 3], [1, 3]), ([4], [4]), ([5], [5]), ([5], [5]), ([6, 7, 5, 5], [5, 6, 7]), ([5, 8], [5, 8]), ([9, 8], [9]), ([10], [10]), ([10], [10]), ([12, 10], [10, 12]), ([11, 13, 10, 10], [10, 11, 13]), ([10], [10]), ([14, 15, 14, 10], [10, 14, 15]), ([10, 16], [10, 16]), ([17, 16], [17]), ([18], [18]), ([18], [18]), ([20, 18], [18, 20]), ([18], [18]), ([22, 18], [18, 22]), ([23, 18], [18, 23]), ([21, 24, 18], [18, 21, 24]), ([25, 18], [18, 25]), ([19, 26, 18, 18], [18, 19, 26]), ([27, 18], [18, 27]), ([28, 18], [18, 28]), ([18], [18]), ([30, 18], [18, 30]), ([29, 31, 18], [18, 29, 31]), ([18, 32], [18, 32]), ([33, 27], [33]), ([34, 34], [34]), ([34, 35], [34, 35]), ([36, 35, 0, 1, 2, 3, 4, 5, 6, 7, 8, 9, 10, 11, 12, 13, 14, 15, 16, 17, 18, 19, 20, 21, 22, 23, 24, 25, 26, 27, 28, 29, 30, 31, 32, 33, 34, 35, 36], [36])])
def folkmootlaw08_TxnWrites.B7 : List Nat := [0, 1, 0, 4, 15, 31, 63, 63, 255, 511, 1023, 2047, 2047, 6143, 16383, 2047, 65535, 131071, 262143, 524287, 524287, 1572863, 524287, 4718591, 13107199, 33030143, 66584575, 134217727, 268435455, 536870911, 524287, 1074266111, 4294967295, 8589934591, 17179869183, 34359738367, 68719476735, 137438953471]
theorem folkmootlaw08_TxnWrites.tab7 : rtab .any (opsOf Tryz.f8 7) = folkmootlaw08_TxnWrites.T7 := by kernel_rfl
theorem folkmootlaw08_TxnWrites.bits7 : waitsOk folkmootlaw08_TxnWrites.T7.2 folkmootlaw08_TxnWrites.B7 = true := by kernel_rfl
set_option maxHeartbeats 8000000 in
set_option maxRecDepth 100000 in
theorem folkmootlaw08_TxnWrites.calls (k : Nat) (A0 : Option Addr) (c0 : Nat) (l0 : List (S61)) (a1_0 : ByteArray) (a1_1 : Int) (a1_2 : Bool) (a2_0 : ByteArray) (a2_1 : Int) (a2_2 : Bool) (r : Bool) (w : World) (hr0 : Kd.C k61 w A0 l0.length l0) (hc0 : l0.length ≤ c0) (hr_ : Aside0 (r = true)) (h : folkmootlaw08_TxnWrites.f k l0 a1_0 a1_1 a1_2 a2_0 a2_1 a2_2 = some r) :
  Calls Tryz.prog 8 #[.slice A0 l0.length c0, .agg #[.string a1_0, .int .u64 a1_1, .bool a1_2], .agg #[.string a2_0, .int .u64 a2_1, .bool a2_2]] w fun e w' => e = .returned (.bool r) ∧ Below w.heap.size w w' := by
 have hu69 := Tryz.underlying69
 have hu71 := Tryz.underlying71
 have HR0 := Aside0.mk hr0
 have HC0 := Aside0.mk hc0
 clear hr0 hc0
 have HB := Aside0.mk (Below.refl w.heap.size w)
 have H : ((folkmootlaw08_small.f k ([] : List (S63)) l0).bind fun t126 => (if t126 = true then ((folkmootref08_Data.f k l0).bind fun t127 => (if t127 = true then ((folkmootref03_Key.f a1_0).bind fun t128 => (if t128 = true then ((folkmootref03_Key.f a2_0).bind fun t129 => (if t129 = true then (folkmootlaw08_TxnWrites.j0 k l0 (decide ((wrap64 ((a1_0.size : Int) + (a2_0.size : Int))) > 100)) a1_0 a1_1 a1_2 a2_0 a2_1 a2_2) else (folkmootlaw08_TxnWrites.j0 k l0 true a1_0 a1_1 a1_2 a2_0 a2_1 a2_2))) else (folkmootlaw08_TxnWrites.j0 k l0 true a1_0 a1_1 a1_2 a2_0 a2_1 a2_2))) else (folkmootlaw08_TxnWrites.j0 k l0 true a1_0 a1_1 a1_2 a2_0 a2_1 a2_2))) else (folkmootlaw08_TxnWrites.j0 k l0 true a1_0 a1_1 a1_2 a2_0 a2_1 a2_2))) = some r := h
 clear h
 have HC4 := Aside0.mk H
 clear H
 go_enter Tryz.func8, Tryz.ntmps8
 go_upto_region 1 with (first | ((with_reducible refine gate_dst (N := 4) rfl ?_); (try (refine gate_guard (by rfl) ?_; dsimp only)); refine box_event ?hg (N := 4) ?hd (cs := #[.string a1_0, .int .u64 a1_1, .bool a1_2]) (t := 69) ?hr ?_; (case hd => rfl); (case hg => rfl); (case hr => first | (go_simp; done) | (go_simp; rfl)); intro gb124 hg w5 hbox hb; have n0_ := Aside0.mk (below_step (by repeat (first | (with_reducible first | exact HB.out | apply below_alloc | apply pw_below_drewN | apply below_drew1) | exact HB.out)) hb); have n1_ := Aside0.mk (hbox); have n2_ := Aside0.mk ((by rw [hg]; exact (below_size (by repeat (first | (with_reducible first | exact HB.out | apply below_alloc | apply pw_below_drewN | apply below_drew1) | exact HB.out))) : w.heap.size ≤ gb124)); have n3_ := Aside0.mk ((by rw [hg]; exact (below_size (by repeat (first | (with_reducible first | exact HB.out | apply below_alloc | apply pw_below_drewN | apply below_drew1) | exact HB.out))) : w.heap.size ≤ gb124)); clear HB; have HB := n0_; have BK124 := n1_; have GW124 := n2_; have GE124 := n3_; clear n0_ n1_ n2_ n3_; clear hb hbox hg) | ((with_reducible refine gate_dst (N := 5) rfl ?_); (try (refine gate_guard (by rfl) ?_; dsimp only)); refine box_event ?hg (N := 5) ?hd (cs := #[.string a2_0, .int .u64 a2_1, .bool a2_2]) (t := 69) ?hr ?_; (case hd => rfl); (case hg => rfl); (case hr => first | (go_simp; done) | (go_simp; rfl)); intro gb125 hg w6 hbox hb; have n0_ := Aside0.mk (blk_below (g := gb124) (o := .cells #[.string a1_0, .int .u64 a1_1, .bool a1_2] 69 (0, 0)) (by (with_reducible repeat (first | refine blk_drewN ?_ _ | refine blk_drew ?_ | refine blk_alloc ?_ _)); exact BK124.out) hb); have n1_ := Aside0.mk (below_step (by repeat (first | (with_reducible first | exact HB.out | apply below_alloc | apply pw_below_drewN | apply below_drew1 | refine below_set ?_ GE124.out) | exact HB.out)) hb); have n2_ := Aside0.mk (hbox); have n3_ := Aside0.mk ((by rw [hg]; exact (below_size (by repeat (first | (with_reducible first | exact HB.out | apply below_alloc | apply pw_below_drewN | apply below_drew1 | refine below_set ?_ GE124.out) | exact HB.out))) : w.heap.size ≤ gb125)); have n4_ := Aside0.mk ((by rw [hg]; exact (below_size (by repeat (first | (with_reducible first | exact HB.out | apply below_alloc | apply pw_below_drewN | apply below_drew1 | refine below_set ?_ GE124.out) | exact HB.out))) : w.heap.size ≤ gb125)); have n5_ := Aside0.mk ((by rw [hg]; exact Nat.ne_of_lt (blk_lt (g := gb124) (o := .cells #[.string a1_0, .int .u64 a1_1, .bool a1_2] 69 (0, 0)) (by (with_reducible repeat (first | refine blk_drewN ?_ _ | refine blk_drew ?_ | refine blk_alloc ?_ _)); exact BK124.out)) : gb124 ≠ gb125)); have n6_ := Aside0.mk ((by rw [hg]; exact Nat.ne_of_gt (blk_lt (g := gb124) (o := .cells #[.string a1_0, .int .u64 a1_1, .bool a1_2] 69 (0, 0)) (by (with_reducible repeat (first | refine blk_drewN ?_ _ | refine blk_drew ?_ | refine blk_alloc ?_ _)); exact BK124.out)) : gb125 ≠ gb124)); clear BK124; clear HB; have BK124 := n0_; have HB := n1_; have BK125 := n2_; have GW125 := n3_; have GE125 := n4_; have NB124_125 := n5_; have NB125_124 := n6_; clear n0_ n1_ n2_ n3_ n4_ n5_ n6_; clear hb hbox hg))
 (try simp only [Act.put, List.setIfInBounds_toArray, List.set_cons_zero, List.set_cons_succ])
 go_cut [39] (fun v39 wc => ∃ (kq : Nat) (x39_3 : Bool), v39 = .bool x39_3 ∧ Aside0 (folkmootlaw08_TxnWrites.j0 kq l0 x39_3 a1_0 a1_1 a1_2 a2_0 a2_1 a2_2 = some r) ∧ Aside0 (kq ≤ k) ∧ Aside0 (wc.heap[gb124]? = some (.cells #[.string a1_0, .int .u64 a1_1, .bool a1_2] 69 (0, 0))) ∧ Aside0 (wc.heap[gb125]? = some (.cells #[.string a2_0, .int .u64 a2_1, .bool a2_2] 69 (0, 0))) ∧ Aside0 (Below w.heap.size w wc))
 case first =>
  have H := HC4.out
  clear HC4
  replace H := Option.bind_eq_some_iff.mp H
  obtain ⟨t126, A70, H⟩ := H
  replace H : (if t126 = true then ((folkmootref08_Data.f k l0).bind fun t127 => (if t127 = true then ((folkmootref03_Key.f a1_0).bind fun t128 => (if t128 = true then ((folkmootref03_Key.f a2_0).bind fun t129 => (if t129 = true then (folkmootlaw08_TxnWrites.j0 k l0 (decide ((wrap64 ((a1_0.size : Int) + (a2_0.size : Int))) > 100)) a1_0 a1_1 a1_2 a2_0 a2_1 a2_2) else (folkmootlaw08_TxnWrites.j0 k l0 true a1_0 a1_1 a1_2 a2_0 a2_1 a2_2))) else (folkmootlaw08_TxnWrites.j0 k l0 true a1_0 a1_1 a1_2 a2_0 a2_1 a2_2))) else (folkmootlaw08_TxnWrites.j0 k l0 true a1_0 a1_1 a1_2 a2_0 a2_1 a2_2))) else (folkmootlaw08_TxnWrites.j0 k l0 true a1_0 a1_1 a1_2 a2_0 a2_1 a2_2)) = some r := H
  have A7 := Aside0.mk A70
  clear A70
  by_cases c8 : t126 = true
  ·subst c8
   have H1 : ((folkmootref08_Data.f k l0).bind fun t127 => (if t127 = true then ((folkmootref03_Key.f a1_0).bind fun t128 => (if t128 = true then ((folkmootref03_Key.f a2_0).bind fun t129 => (if t129 = true then (folkmootlaw08_TxnWrites.j0 k l0 (decide ((wrap64 ((a1_0.size : Int) + (a2_0.size : Int))) > 100)) a1_0 a1_1 a1_2 a2_0 a2_1 a2_2) else (folkmootlaw08_TxnWrites.j0 k l0 true a1_0 a1_1 a1_2 a2_0 a2_1 a2_2))) else (folkmootlaw08_TxnWrites.j0 k l0 true a1_0 a1_1 a1_2 a2_0 a2_1 a2_2))) else (folkmootlaw08_TxnWrites.j0 k l0 true a1_0 a1_1 a1_2 a2_0 a2_1 a2_2))) = some r := by rw [if_pos rfl] at H; exact H
   clear H
   have H := H1
   clear H1
   replace H := Option.bind_eq_some_iff.mp H
   obtain ⟨t127, A90, H⟩ := H
   replace H : (if t127 = true then ((folkmootref03_Key.f a1_0).bind fun t128 => (if t128 = true then ((folkmootref03_Key.f a2_0).bind fun t129 => (if t129 = true then (folkmootlaw08_TxnWrites.j0 k l0 (decide ((wrap64 ((a1_0.size : Int) + (a2_0.size : Int))) > 100)) a1_0 a1_1 a1_2 a2_0 a2_1 a2_2) else (folkmootlaw08_TxnWrites.j0 k l0 true a1_0 a1_1 a1_2 a2_0 a2_1 a2_2))) else (folkmootlaw08_TxnWrites.j0 k l0 true a1_0 a1_1 a1_2 a2_0 a2_1 a2_2))) else (folkmootlaw08_TxnWrites.j0 k l0 true a1_0 a1_1 a1_2 a2_0 a2_1 a2_2)) = some r := H
   have A9 := Aside0.mk A90
   clear A90
   by_cases c10 : t127 = true
   ·subst c10
    have H1 : ((folkmootref03_Key.f a1_0).bind fun t128 => (if t128 = true then ((folkmootref03_Key.f a2_0).bind fun t129 => (if t129 = true then (folkmootlaw08_TxnWrites.j0 k l0 (decide ((wrap64 ((a1_0.size : Int) + (a2_0.size : Int))) > 100)) a1_0 a1_1 a1_2 a2_0 a2_1 a2_2) else (folkmootlaw08_TxnWrites.j0 k l0 true a1_0 a1_1 a1_2 a2_0 a2_1 a2_2))) else (folkmootlaw08_TxnWrites.j0 k l0 true a1_0 a1_1 a1_2 a2_0 a2_1 a2_2))) = some r := by rw [if_pos rfl] at H; exact H
    clear H
    have H := H1
    clear H1
    replace H := Option.bind_eq_some_iff.mp H
    obtain ⟨t128, A110, H⟩ := H
    replace H : (if t128 = true then ((folkmootref03_Key.f a2_0).bind fun t129 => (if t129 = true then (folkmootlaw08_TxnWrites.j0 k l0 (decide ((wrap64 ((a1_0.size : Int) + (a2_0.size : Int))) > 100)) a1_0 a1_1 a1_2 a2_0 a2_1 a2_2) else (folkmootlaw08_TxnWrites.j0 k l0 true a1_0 a1_1 a1_2 a2_0 a2_1 a2_2))) else (folkmootlaw08_TxnWrites.j0 k l0 true a1_0 a1_1 a1_2 a2_0 a2_1 a2_2)) = some r := H
    have A11 := Aside0.mk A110
    clear A110
    by_cases c12 : t128 = true
    ·subst c12
     have H1 : ((folkmootref03_Key.f a2_0).bind fun t129 => (if t129 = true then (folkmootlaw08_TxnWrites.j0 k l0 (decide ((wrap64 ((a1_0.size : Int) + (a2_0.size : Int))) > 100)) a1_0 a1_1 a1_2 a2_0 a2_1 a2_2) else (folkmootlaw08_TxnWrites.j0 k l0 true a1_0 a1_1 a1_2 a2_0 a2_1 a2_2))) = some r := by rw [if_pos rfl] at H; exact H
     clear H
     have H := H1
     clear H1
     replace H := Option.bind_eq_some_iff.mp H
     obtain ⟨t129, A130, H⟩ := H
     replace H : (if t129 = true then (folkmootlaw08_TxnWrites.j0 k l0 (decide ((wrap64 ((a1_0.size : Int) + (a2_0.size : Int))) > 100)) a1_0 a1_1 a1_2 a2_0 a2_1 a2_2) else (folkmootlaw08_TxnWrites.j0 k l0 true a1_0 a1_1 a1_2 a2_0 a2_1 a2_2)) = some r := H
     have A13 := Aside0.mk A130
     clear A130
     by_cases c14 : t129 = true
     ·subst c14
      have H1 : (folkmootlaw08_TxnWrites.j0 k l0 (decide ((wrap64 ((a1_0.size : Int) + (a2_0.size : Int))) > 100)) a1_0 a1_1 a1_2 a2_0 a2_1 a2_2) = some r := by rw [if_pos rfl] at H; exact H
      clear H
      have H := H1
      clear H1
      have H' := Aside0.mk H
      clear H
      go_wp2_with (first | ((with_reducible refine gate_callee (f := 13) rfl ?_); refine goesL_ (some 11) rfl rfl Tryz.func13 (by kernel_rfl) rfl #[.slice none 0 0, .slice A0 l0.length c0] rfl (by (try simp only [List.map_toArray, List.map_cons, List.map_nil]); first | done | rfl | (simp only [List.length_drop, List.length_take]; rfl)) ?_; (refine (folkmootlaw08_small.calls k _ _ ([] : List (S63)) _ _ l0 true _ ?side1 ?side2 ?side3 ?side4 A7.out).mono ?_); (case side1 => exact Kd.C_nil _ _); (case side2 => exact Nat.le_refl _); (case side3 => repeat (first | exact (Kd.C_below HR0.out HB.out) | (with_reducible refine Kd.C_alloc ?_ _) | (with_reducible refine Kd.C_drewN ?_ _) | (with_reducible refine Kd.C_drew ?_))); (case side4 => exact HC0.out); rintro e w' ⟨rfl, ⟨nd, rfl⟩⟩; refine ⟨_, rfl, ?_⟩) | (go_at_call 24; (with_reducible refine (folkmootref08_Data.calls k _ _ l0 true _ ?side1 ?side2 A9.out).mono ?_); (case side1 => repeat (first | exact (Kd.C_below HR0.out (by repeat (first | (with_reducible first | exact HB.out | apply below_alloc | apply pw_below_drewN | apply below_drew1 | refine below_set ?_ GE124.out | refine below_set ?_ GE125.out) | exact HB.out))) | (with_reducible refine Kd.C_alloc ?_ _) | (with_reducible refine Kd.C_drewN ?_ _) | (with_reducible refine Kd.C_drew ?_))); (case side2 => exact HC0.out); rintro e w15 ⟨rfl, hb⟩; have n0_ := Aside0.mk (blk_below (g := gb124) (o := .cells #[.string a1_0, .int .u64 a1_1, .bool a1_2] 69 (0, 0)) (by (with_reducible repeat (first | refine blk_drewN ?_ _ | refine blk_drew ?_ | refine blk_alloc ?_ _)); exact BK124.out) hb); have n1_ := Aside0.mk (blk_below (g := gb125) (o := .cells #[.string a2_0, .int .u64 a2_1, .bool a2_2] 69 (0, 0)) (by (with_reducible repeat (first | refine blk_drewN ?_ _ | refine blk_drew ?_ | refine blk_alloc ?_ _)); exact BK125.out) hb); have n2_ := Aside0.mk (below_step (by repeat (first | (with_reducible first | exact HB.out | apply below_alloc | apply pw_below_drewN | apply below_drew1 | refine below_set ?_ GE124.out | refine below_set ?_ GE125.out) | exact HB.out)) hb); clear BK124; clear BK125; clear HB; have BK124 := n0_; have BK125 := n1_; have HB := n2_; clear n0_ n1_ n2_; (try clear hb); (try clear hb2); (try clear hk); (try clear hi); have hnb16 := NB124_125.out; have hnc16 := NB125_124.out; have hcz17_0 : w15.cell? ⟨gb124, 0, none⟩ = some (.string a1_0) := (blk_cell BK124.out 0).trans rfl; have hcz17_1 : w15.cell? ⟨gb124, 1, none⟩ = some (.int .u64 a1_1) := (blk_cell BK124.out 1).trans rfl; have hcz17_2 : w15.cell? ⟨gb124, 2, none⟩ = some (.bool a1_2) := (blk_cell BK124.out 2).trans rfl; have hfz17_0 := blk_frozen BK124.out 0; have hfz17_1 := blk_frozen BK124.out 1; have hfz17_2 := blk_frozen BK124.out 2) | (go_at_call 37; (with_reducible refine (folkmootref03_Key.calls a1_0 true _ A11.out).mono ?_); rintro e w' ⟨rfl, ⟨nd, rfl⟩⟩; have hcz18_0 : w15.cell? ⟨gb125, 0, none⟩ = some (.string a2_0) := (blk_cell BK125.out 0).trans rfl; have hcz18_1 : w15.cell? ⟨gb125, 1, none⟩ = some (.int .u64 a2_1) := (blk_cell BK125.out 1).trans rfl; have hcz18_2 : w15.cell? ⟨gb125, 2, none⟩ = some (.bool a2_2) := (blk_cell BK125.out 2).trans rfl; have hfz18_0 := blk_frozen BK125.out 0; have hfz18_1 := blk_frozen BK125.out 1; have hfz18_2 := blk_frozen BK125.out 2) | (go_at_call 37; (with_reducible refine (folkmootref03_Key.calls a2_0 true _ A13.out).mono ?_); rintro e w' ⟨rfl, ⟨nd, rfl⟩⟩))
      go_meet
      case rel => exact ⟨_, (decide ((wrap64 ((a1_0.size : Int) + (a2_0.size : Int))) > 100)), (by first | rfl | (rw [bl_gt] <;> rfl) | (simp; done) | (simp [*]; done)), H', ⟨by first | omega | exact Nat.le_refl _⟩, ⟨by (with_reducible repeat (first | refine blk_drewN ?_ _ | refine blk_drew ?_ | refine blk_alloc ?_ _)); exact BK124.out⟩, ⟨by (with_reducible repeat (first | refine blk_drewN ?_ _ | refine blk_drew ?_ | refine blk_alloc ?_ _)); exact BK125.out⟩, ⟨by repeat (first | (with_reducible first | exact HB.out | apply below_alloc | apply pw_below_drewN | apply below_drew1 | refine below_set ?_ GE124.out | refine below_set ?_ GE125.out) | exact HB.out)⟩⟩
     ·replace c14 := Bool.eq_false_iff.mpr c14
      subst c14
      have H1 : (folkmootlaw08_TxnWrites.j0 k l0 true a1_0 a1_1 a1_2 a2_0 a2_1 a2_2) = some r := by rw [if_neg (show ¬ (false = true) by decide)] at H; exact H
      clear H
      have H := H1
      clear H1
      have H' := Aside0.mk H
      clear H
      go_wp2_with (first | ((with_reducible refine gate_callee (f := 13) rfl ?_); refine goesL_ (some 11) rfl rfl Tryz.func13 (by kernel_rfl) rfl #[.slice none 0 0, .slice A0 l0.length c0] rfl (by (try simp only [List.map_toArray, List.map_cons, List.map_nil]); first | done | rfl | (simp only [List.length_drop, List.length_take]; rfl)) ?_; (refine (folkmootlaw08_small.calls k _ _ ([] : List (S63)) _ _ l0 true _ ?side1 ?side2 ?side3 ?side4 A7.out).mono ?_); (case side1 => exact Kd.C_nil _ _); (case side2 => exact Nat.le_refl _); (case side3 => repeat (first | exact (Kd.C_below HR0.out HB.out) | (with_reducible refine Kd.C_alloc ?_ _) | (with_reducible refine Kd.C_drewN ?_ _) | (with_reducible refine Kd.C_drew ?_))); (case side4 => exact HC0.out); rintro e w' ⟨rfl, ⟨nd, rfl⟩⟩; refine ⟨_, rfl, ?_⟩) | (go_at_call 24; (with_reducible refine (folkmootref08_Data.calls k _ _ l0 true _ ?side1 ?side2 A9.out).mono ?_); (case side1 => repeat (first | exact (Kd.C_below HR0.out (by repeat (first | (with_reducible first | exact HB.out | apply below_alloc | apply pw_below_drewN | apply below_drew1 | refine below_set ?_ GE124.out | refine below_set ?_ GE125.out) | exact HB.out))) | (with_reducible refine Kd.C_alloc ?_ _) | (with_reducible refine Kd.C_drewN ?_ _) | (with_reducible refine Kd.C_drew ?_))); (case side2 => exact HC0.out); rintro e w19 ⟨rfl, hb⟩; have n0_ := Aside0.mk (blk_below (g := gb124) (o := .cells #[.string a1_0, .int .u64 a1_1, .bool a1_2] 69 (0, 0)) (by (with_reducible repeat (first | refine blk_drewN ?_ _ | refine blk_drew ?_ | refine blk_alloc ?_ _)); exact BK124.out) hb); have n1_ := Aside0.mk (blk_below (g := gb125) (o := .cells #[.string a2_0, .int .u64 a2_1, .bool a2_2] 69 (0, 0)) (by (with_reducible repeat (first | refine blk_drewN ?_ _ | refine blk_drew ?_ | refine blk_alloc ?_ _)); exact BK125.out) hb); have n2_ := Aside0.mk (below_step (by repeat (first | (with_reducible first | exact HB.out | apply below_alloc | apply pw_below_drewN | apply below_drew1 | refine below_set ?_ GE124.out | refine below_set ?_ GE125.out) | exact HB.out)) hb); clear BK124; clear BK125; clear HB; have BK124 := n0_; have BK125 := n1_; have HB := n2_; clear n0_ n1_ n2_; (try clear hb); (try clear hb2); (try clear hk); (try clear hi); have hnb20 := NB124_125.out; have hnc20 := NB125_124.out; have hcz21_0 : w19.cell? ⟨gb124, 0, none⟩ = some (.string a1_0) := (blk_cell BK124.out 0).trans rfl; have hcz21_1 : w19.cell? ⟨gb124, 1, none⟩ = some (.int .u64 a1_1) := (blk_cell BK124.out 1).trans rfl; have hcz21_2 : w19.cell? ⟨gb124, 2, none⟩ = some (.bool a1_2) := (blk_cell BK124.out 2).trans rfl; have hfz21_0 := blk_frozen BK124.out 0; have hfz21_1 := blk_frozen BK124.out 1; have hfz21_2 := blk_frozen BK124.out 2) | (go_at_call 37; (with_reducible refine (folkmootref03_Key.calls a1_0 true _ A11.out).mono ?_); rintro e w' ⟨rfl, ⟨nd, rfl⟩⟩; have hcz22_0 : w19.cell? ⟨gb125, 0, none⟩ = some (.string a2_0) := (blk_cell BK125.out 0).trans rfl; have hcz22_1 : w19.cell? ⟨gb125, 1, none⟩ = some (.int .u64 a2_1) := (blk_cell BK125.out 1).trans rfl; have hcz22_2 : w19.cell? ⟨gb125, 2, none⟩ = some (.bool a2_2) := (blk_cell BK125.out 2).trans rfl; have hfz22_0 := blk_frozen BK125.out 0; have hfz22_1 := blk_frozen BK125.out 1; have hfz22_2 := blk_frozen BK125.out 2) | (go_at_call 37; (with_reducible refine (folkmootref03_Key.calls a2_0 false _ A13.out).mono ?_); rintro e w' ⟨rfl, ⟨nd, rfl⟩⟩))
      go_meet
      case rel => exact ⟨_, (true), (by first | rfl | (rw [bl_gt] <;> rfl) | (simp; done) | (simp [*]; done)), H', ⟨by first | omega | exact Nat.le_refl _⟩, ⟨by (with_reducible repeat (first | refine blk_drewN ?_ _ | refine blk_drew ?_ | refine blk_alloc ?_ _)); exact BK124.out⟩, ⟨by (with_reducible repeat (first | refine blk_drewN ?_ _ | refine blk_drew ?_ | refine blk_alloc ?_ _)); exact BK125.out⟩, ⟨by repeat (first | (with_reducible first | exact HB.out | apply below_alloc | apply pw_below_drewN | apply below_drew1 | refine below_set ?_ GE124.out | refine below_set ?_ GE125.out) | exact HB.out)⟩⟩
    ·replace c12 := Bool.eq_false_iff.mpr c12
     subst c12
     have H1 : (folkmootlaw08_TxnWrites.j0 k l0 true a1_0 a1_1 a1_2 a2_0 a2_1 a2_2) = some r := by rw [if_neg (show ¬ (false = true) by decide)] at H; exact H
     clear H
     have H := H1
     clear H1
     have H' := Aside0.mk H
     clear H
     go_wp2_with (first | ((with_reducible refine gate_callee (f := 13) rfl ?_); refine goesL_ (some 11) rfl rfl Tryz.func13 (by kernel_rfl) rfl #[.slice none 0 0, .slice A0 l0.length c0] rfl (by (try simp only [List.map_toArray, List.map_cons, List.map_nil]); first | done | rfl | (simp only [List.length_drop, List.length_take]; rfl)) ?_; (refine (folkmootlaw08_small.calls k _ _ ([] : List (S63)) _ _ l0 true _ ?side1 ?side2 ?side3 ?side4 A7.out).mono ?_); (case side1 => exact Kd.C_nil _ _); (case side2 => exact Nat.le_refl _); (case side3 => repeat (first | exact (Kd.C_below HR0.out HB.out) | (with_reducible refine Kd.C_alloc ?_ _) | (with_reducible refine Kd.C_drewN ?_ _) | (with_reducible refine Kd.C_drew ?_))); (case side4 => exact HC0.out); rintro e w' ⟨rfl, ⟨nd, rfl⟩⟩; refine ⟨_, rfl, ?_⟩) | (go_at_call 24; (with_reducible refine (folkmootref08_Data.calls k _ _ l0 true _ ?side1 ?side2 A9.out).mono ?_); (case side1 => repeat (first | exact (Kd.C_below HR0.out (by repeat (first | (with_reducible first | exact HB.out | apply below_alloc | apply pw_below_drewN | apply below_drew1 | refine below_set ?_ GE124.out | refine below_set ?_ GE125.out) | exact HB.out))) | (with_reducible refine Kd.C_alloc ?_ _) | (with_reducible refine Kd.C_drewN ?_ _) | (with_reducible refine Kd.C_drew ?_))); (case side2 => exact HC0.out); rintro e w23 ⟨rfl, hb⟩; have n0_ := Aside0.mk (blk_below (g := gb124) (o := .cells #[.string a1_0, .int .u64 a1_1, .bool a1_2] 69 (0, 0)) (by (with_reducible repeat (first | refine blk_drewN ?_ _ | refine blk_drew ?_ | refine blk_alloc ?_ _)); exact BK124.out) hb); have n1_ := Aside0.mk (blk_below (g := gb125) (o := .cells #[.string a2_0, .int .u64 a2_1, .bool a2_2] 69 (0, 0)) (by (with_reducible repeat (first | refine blk_drewN ?_ _ | refine blk_drew ?_ | refine blk_alloc ?_ _)); exact BK125.out) hb); have n2_ := Aside0.mk (below_step (by repeat (first | (with_reducible first | exact HB.out | apply below_alloc | apply pw_below_drewN | apply below_drew1 | refine below_set ?_ GE124.out | refine below_set ?_ GE125.out) | exact HB.out)) hb); clear BK124; clear BK125; clear HB; have BK124 := n0_; have BK125 := n1_; have HB := n2_; clear n0_ n1_ n2_; (try clear hb); (try clear hb2); (try clear hk); (try clear hi); have hnb24 := NB124_125.out; have hnc24 := NB125_124.out; have hcz25_0 : w23.cell? ⟨gb124, 0, none⟩ = some (.string a1_0) := (blk_cell BK124.out 0).trans rfl; have hcz25_1 : w23.cell? ⟨gb124, 1, none⟩ = some (.int .u64 a1_1) := (blk_cell BK124.out 1).trans rfl; have hcz25_2 : w23.cell? ⟨gb124, 2, none⟩ = some (.bool a1_2) := (blk_cell BK124.out 2).trans rfl; have hfz25_0 := blk_frozen BK124.out 0; have hfz25_1 := blk_frozen BK124.out 1; have hfz25_2 := blk_frozen BK124.out 2) | (go_at_call 37; (with_reducible refine (folkmootref03_Key.calls a1_0 false _ A11.out).mono ?_); rintro e w' ⟨rfl, ⟨nd, rfl⟩⟩))
     go_meet
     case rel => exact ⟨_, (true), (by first | rfl | (rw [bl_gt] <;> rfl) | (simp; done) | (simp [*]; done)), H', ⟨by first | omega | exact Nat.le_refl _⟩, ⟨by (with_reducible repeat (first | refine blk_drewN ?_ _ | refine blk_drew ?_ | refine blk_alloc ?_ _)); exact BK124.out⟩, ⟨by (with_reducible repeat (first | refine blk_drewN ?_ _ | refine blk_drew ?_ | refine blk_alloc ?_ _)); exact BK125.out⟩, ⟨by repeat (first | (with_reducible first | exact HB.out | apply below_alloc | apply pw_below_drewN | apply below_drew1 | refine below_set ?_ GE124.out | refine below_set ?_ GE125.out) | exact HB.out)⟩⟩
   ·replace c10 := Bool.eq_false_iff.mpr c10
    subst c10
    have H1 : (folkmootlaw08_TxnWrites.j0 k l0 true a1_0 a1_1 a1_2 a2_0 a2_1 a2_2) = some r := by rw [if_neg (show ¬ (false = true) by decide)] at H; exact H
    clear H
    have H := H1
    clear H1
    have H' := Aside0.mk H
    clear H
    go_wp2_with (first | ((with_reducible refine gate_callee (f := 13) rfl ?_); refine goesL_ (some 11) rfl rfl Tryz.func13 (by kernel_rfl) rfl #[.slice none 0 0, .slice A0 l0.length c0] rfl (by (try simp only [List.map_toArray, List.map_cons, List.map_nil]); first | done | rfl | (simp only [List.length_drop, List.length_take]; rfl)) ?_; (refine (folkmootlaw08_small.calls k _ _ ([] : List (S63)) _ _ l0 true _ ?side1 ?side2 ?side3 ?side4 A7.out).mono ?_); (case side1 => exact Kd.C_nil _ _); (case side2 => exact Nat.le_refl _); (case side3 => repeat (first | exact (Kd.C_below HR0.out HB.out) | (with_reducible refine Kd.C_alloc ?_ _) | (with_reducible refine Kd.C_drewN ?_ _) | (with_reducible refine Kd.C_drew ?_))); (case side4 => exact HC0.out); rintro e w' ⟨rfl, ⟨nd, rfl⟩⟩; refine ⟨_, rfl, ?_⟩) | (go_at_call 24; (with_reducible refine (folkmootref08_Data.calls k _ _ l0 false _ ?side1 ?side2 A9.out).mono ?_); (case side1 => repeat (first | exact (Kd.C_below HR0.out (by repeat (first | (with_reducible first | exact HB.out | apply below_alloc | apply pw_below_drewN | apply below_drew1 | refine below_set ?_ GE124.out | refine below_set ?_ GE125.out) | exact HB.out))) | (with_reducible refine Kd.C_alloc ?_ _) | (with_reducible refine Kd.C_drewN ?_ _) | (with_reducible refine Kd.C_drew ?_))); (case side2 => exact HC0.out); rintro e w26 ⟨rfl, hb⟩; have n0_ := Aside0.mk (blk_below (g := gb124) (o := .cells #[.string a1_0, .int .u64 a1_1, .bool a1_2] 69 (0, 0)) (by (with_reducible repeat (first | refine blk_drewN ?_ _ | refine blk_drew ?_ | refine blk_alloc ?_ _)); exact BK124.out) hb); have n1_ := Aside0.mk (blk_below (g := gb125) (o := .cells #[.string a2_0, .int .u64 a2_1, .bool a2_2] 69 (0, 0)) (by (with_reducible repeat (first | refine blk_drewN ?_ _ | refine blk_drew ?_ | refine blk_alloc ?_ _)); exact BK125.out) hb); have n2_ := Aside0.mk (below_step (by repeat (first | (with_reducible first | exact HB.out | apply below_alloc | apply pw_below_drewN | apply below_drew1 | refine below_set ?_ GE124.out | refine below_set ?_ GE125.out) | exact HB.out)) hb); clear BK124; clear BK125; clear HB; have BK124 := n0_; have BK125 := n1_; have HB := n2_; clear n0_ n1_ n2_; (try clear hb); (try clear hb2); (try clear hk); (try clear hi)))
    go_meet
    case rel => exact ⟨_, (true), (by first | rfl | (rw [bl_gt] <;> rfl) | (simp; done) | (simp [*]; done)), H', ⟨by first | omega | exact Nat.le_refl _⟩, ⟨by (with_reducible repeat (first | refine blk_drewN ?_ _ | refine blk_drew ?_ | refine blk_alloc ?_ _)); exact BK124.out⟩, ⟨by (with_reducible repeat (first | refine blk_drewN ?_ _ | refine blk_drew ?_ | refine blk_alloc ?_ _)); exact BK125.out⟩, ⟨by repeat (first | (with_reducible first | exact HB.out | apply below_alloc | apply pw_below_drewN | apply below_drew1 | refine below_set ?_ GE124.out | refine below_set ?_ GE125.out) | exact HB.out)⟩⟩
  ·replace c8 := Bool.eq_false_iff.mpr c8
   subst c8
   have H1 : (folkmootlaw08_TxnWrites.j0 k l0 true a1_0 a1_1 a1_2 a2_0 a2_1 a2_2) = some r := by rw [if_neg (show ¬ (false = true) by decide)] at H; exact H
   clear H
   have H := H1
   clear H1
   have H' := Aside0.mk H
   clear H
   go_wp2_with (first | ((with_reducible refine gate_callee (f := 13) rfl ?_); refine goesL_ (some 11) rfl rfl Tryz.func13 (by kernel_rfl) rfl #[.slice none 0 0, .slice A0 l0.length c0] rfl (by (try simp only [List.map_toArray, List.map_cons, List.map_nil]); first | done | rfl | (simp only [List.length_drop, List.length_take]; rfl)) ?_; (refine (folkmootlaw08_small.calls k _ _ ([] : List (S63)) _ _ l0 false _ ?side1 ?side2 ?side3 ?side4 A7.out).mono ?_); (case side1 => exact Kd.C_nil _ _); (case side2 => exact Nat.le_refl _); (case side3 => repeat (first | exact (Kd.C_below HR0.out HB.out) | (with_reducible refine Kd.C_alloc ?_ _) | (with_reducible refine Kd.C_drewN ?_ _) | (with_reducible refine Kd.C_drew ?_))); (case side4 => exact HC0.out); rintro e w' ⟨rfl, ⟨nd, rfl⟩⟩; refine ⟨_, rfl, ?_⟩))
   go_meet
   case rel => exact ⟨_, (true), (by first | rfl | (rw [bl_gt] <;> rfl) | (simp; done) | (simp [*]; done)), H', ⟨by first | omega | exact Nat.le_refl _⟩, ⟨by (with_reducible repeat (first | refine blk_drewN ?_ _ | refine blk_drew ?_ | refine blk_alloc ?_ _)); exact BK124.out⟩, ⟨by (with_reducible repeat (first | refine blk_drewN ?_ _ | refine blk_drew ?_ | refine blk_alloc ?_ _)); exact BK125.out⟩, ⟨by repeat (first | (with_reducible first | exact HB.out | apply below_alloc | apply pw_below_drewN | apply below_drew1 | refine below_set ?_ GE124.out | refine below_set ?_ GE125.out) | exact HB.out)⟩⟩
 case rest =>
  clear HC4
  try clear c1
  try clear c2
  try clear p2
  try clear p6
  try clear c8
  try clear c10
  try clear c12
  try clear c13
  try clear c14
  try clear c16
  try clear c20
  try clear c24
  try clear hcz17_0
  try clear hcz17_1
  try clear hcz17_2
  try clear hcz18_0
  try clear hcz18_1
  try clear hcz18_2
  try clear hcz21_0
  try clear hcz21_1
  try clear hcz21_2
  try clear hcz22_0
  try clear hcz22_1
  try clear hcz22_2
  try clear hcz25_0
  try clear hcz25_1
  try clear hcz25_2
  try clear hfz17_0
  try clear hfz17_1
  try clear hfz17_2
  try clear hfz18_0
  try clear hfz18_1
  try clear hfz18_2
  try clear hfz21_0
  try clear hfz21_1
  try clear hfz21_2
  try clear hfz22_0
  try clear hfz22_1
  try clear hfz22_2
  try clear hfz25_0
  try clear hfz25_1
  try clear hfz25_2
  obtain ⟨kq, x39_3, rfl, HA, HJ3, BK124, BK125, HB⟩ := hcut
  cases kq with
  | zero => exact absurd HA.out (by simp [folkmootlaw08_TxnWrites.j0])
  | succ kj3 =>
   have H := HA.out
   clear HA
   simp only [folkmootlaw08_TxnWrites.j0] at H
   by_cases c27 : x39_3 = true
   ·subst c27
    have H1 : ((folkmootlaw08_live.f).bind fun t130 => (some t130)) = some r := by rw [if_pos rfl] at H; exact H
    clear H
    have H := H1
    clear H1
    replace H := Option.bind_eq_some_iff.mp H
    obtain ⟨t130, A280, H⟩ := H
    replace H : (some t130) = some r := H
    have A28 := Aside0.mk A280
    clear A280
    obtain rfl := Option.some.inj H
    go_wp2_with (first | ((with_reducible refine gate_callee (f := 14) rfl ?_); refine goesL_ (some 40) rfl rfl Tryz.func14 (by kernel_rfl) rfl #[] rfl (by (try simp only [List.map_toArray, List.map_cons, List.map_nil]); first | done | rfl | (simp only [List.length_drop, List.length_take]; rfl)) ?_; (with_reducible refine (folkmootlaw08_live.calls  t130 _ A28.out).mono ?_); rintro e w29 ⟨rfl, hb⟩; refine ⟨_, rfl, ?_⟩; have n0_ := Aside0.mk (blk_below (g := gb124) (o := .cells #[.string a1_0, .int .u64 a1_1, .bool a1_2] 69 (0, 0)) (by (with_reducible repeat (first | refine blk_drewN ?_ _ | refine blk_drew ?_ | refine blk_alloc ?_ _)); exact BK124.out) hb); have n1_ := Aside0.mk (blk_below (g := gb125) (o := .cells #[.string a2_0, .int .u64 a2_1, .bool a2_2] 69 (0, 0)) (by (with_reducible repeat (first | refine blk_drewN ?_ _ | refine blk_drew ?_ | refine blk_alloc ?_ _)); exact BK125.out) hb); have n2_ := Aside0.mk (below_step (by repeat (first | (with_reducible first | exact HB.out | apply below_alloc | apply pw_below_drewN | apply below_drew1 | refine below_set ?_ GE124.out | refine below_set ?_ GE125.out) | exact HB.out)) hb); clear BK124; clear BK125; clear HB; have BK124 := n0_; have BK125 := n1_; have HB := n2_; clear n0_ n1_ n2_; (try clear hb); (try clear hb2); (try clear hk); (try clear hi)))
    go_ret
    exact ⟨by first | rfl | (rw [bl_gt] <;> rfl) | (simp [errW_none, errW_some] <;> rfl) | (simp [*, errW_none, errW_some] <;> rfl), by repeat (first | (with_reducible first | exact HB.out | apply below_alloc | apply pw_below_drewN | apply below_drew1 | refine below_set ?_ GE124.out | refine below_set ?_ GE125.out) | exact HB.out)⟩
   ·replace c27 := Bool.eq_false_iff.mpr c27
    subst c27
    have H1 : ((txn_Apply.f l0 (([(⟨a1_0, a1_1, a1_2⟩ : S69), (⟨a2_0, a2_1, a2_2⟩ : S69)] : List (S69)))).bind fun t134 => ((txn_Apply.f l0 (([(⟨a2_0, a2_1, a2_2⟩ : S69)] : List (S69)))).bind fun t140 => ((txn_Apply.f t140 (([(⟨a1_0, a1_1, a1_2⟩ : S69)] : List (S69)))).bind fun t146 => (if a1_0.toList = a2_0.toList then (folkmootlaw08_TxnWrites.j1 kj3 l0 t134 false a1_0 a1_1 a1_2 a2_0 a2_1 a2_2) else ((folkmootref08_Pairs.f kj3 t134 t146).bind fun t149 => (folkmootlaw08_TxnWrites.j1 kj3 l0 t134 (!t149) a1_0 a1_1 a1_2 a2_0 a2_1 a2_2)))))) = some r := by rw [if_neg (show ¬ (false = true) by decide)] at H; exact H
    clear H
    have H := H1
    clear H1
    obtain ⟨y131, hy131⟩ : ∃ y_ : List (S69), y_ = (([(⟨a1_0, a1_1, a1_2⟩ : S69), (⟨a2_0, a2_1, a2_2⟩ : S69)] : List (S69))) := ⟨_, rfl⟩
    replace H : ((txn_Apply.f l0 y131).bind fun t134 => ((txn_Apply.f l0 (([(⟨a2_0, a2_1, a2_2⟩ : S69)] : List (S69)))).bind fun t140 => ((txn_Apply.f t140 (([(⟨a1_0, a1_1, a1_2⟩ : S69)] : List (S69)))).bind fun t146 => (if a1_0.toList = a2_0.toList then (folkmootlaw08_TxnWrites.j1 kj3 l0 t134 false a1_0 a1_1 a1_2 a2_0 a2_1 a2_2) else ((folkmootref08_Pairs.f kj3 t134 t146).bind fun t149 => (folkmootlaw08_TxnWrites.j1 kj3 l0 t134 (!t149) a1_0 a1_1 a1_2 a2_0 a2_1 a2_2)))))) = some r := by first | (rw [hy131]; with_reducible exact H) | (have H2_ := (Option.bind_some _ _).symm.trans H; rw [hy131]; with_reducible exact H2_) | (have H2_ := (Option.bind_some _ _).symm.trans H; with_reducible exact H2_) | with_reducible exact H | (rw [hy131]; exact H) | exact H
    have Ny131 := Aside0.mk hy131
    clear hy131
    replace H := Option.bind_eq_some_iff.mp H
    obtain ⟨t134, A300, H⟩ := H
    replace H : ((txn_Apply.f l0 (([(⟨a2_0, a2_1, a2_2⟩ : S69)] : List (S69)))).bind fun t140 => ((txn_Apply.f t140 (([(⟨a1_0, a1_1, a1_2⟩ : S69)] : List (S69)))).bind fun t146 => (if a1_0.toList = a2_0.toList then (folkmootlaw08_TxnWrites.j1 kj3 l0 t134 false a1_0 a1_1 a1_2 a2_0 a2_1 a2_2) else ((folkmootref08_Pairs.f kj3 t134 t146).bind fun t149 => (folkmootlaw08_TxnWrites.j1 kj3 l0 t134 (!t149) a1_0 a1_1 a1_2 a2_0 a2_1 a2_2))))) = some r := H
    have A30 := Aside0.mk A300
    clear A300
    obtain ⟨y137, hy137⟩ : ∃ y_ : List (S69), y_ = (([(⟨a2_0, a2_1, a2_2⟩ : S69)] : List (S69))) := ⟨_, rfl⟩
    replace H : ((txn_Apply.f l0 y137).bind fun t140 => ((txn_Apply.f t140 (([(⟨a1_0, a1_1, a1_2⟩ : S69)] : List (S69)))).bind fun t146 => (if a1_0.toList = a2_0.toList then (folkmootlaw08_TxnWrites.j1 kj3 l0 t134 false a1_0 a1_1 a1_2 a2_0 a2_1 a2_2) else ((folkmootref08_Pairs.f kj3 t134 t146).bind fun t149 => (folkmootlaw08_TxnWrites.j1 kj3 l0 t134 (!t149) a1_0 a1_1 a1_2 a2_0 a2_1 a2_2))))) = some r := by first | (rw [hy137]; with_reducible exact H) | (have H2_ := (Option.bind_some _ _).symm.trans H; rw [hy137]; with_reducible exact H2_) | (have H2_ := (Option.bind_some _ _).symm.trans H; with_reducible exact H2_) | with_reducible exact H | (rw [hy137]; exact H) | exact H
    have Ny137 := Aside0.mk hy137
    clear hy137
    replace H := Option.bind_eq_some_iff.mp H
    obtain ⟨t140, A310, H⟩ := H
    replace H : ((txn_Apply.f t140 (([(⟨a1_0, a1_1, a1_2⟩ : S69)] : List (S69)))).bind fun t146 => (if a1_0.toList = a2_0.toList then (folkmootlaw08_TxnWrites.j1 kj3 l0 t134 false a1_0 a1_1 a1_2 a2_0 a2_1 a2_2) else ((folkmootref08_Pairs.f kj3 t134 t146).bind fun t149 => (folkmootlaw08_TxnWrites.j1 kj3 l0 t134 (!t149) a1_0 a1_1 a1_2 a2_0 a2_1 a2_2)))) = some r := H
    have A31 := Aside0.mk A310
    clear A310
    obtain ⟨y143, hy143⟩ : ∃ y_ : List (S69), y_ = (([(⟨a1_0, a1_1, a1_2⟩ : S69)] : List (S69))) := ⟨_, rfl⟩
    replace H : ((txn_Apply.f t140 y143).bind fun t146 => (if a1_0.toList = a2_0.toList then (folkmootlaw08_TxnWrites.j1 kj3 l0 t134 false a1_0 a1_1 a1_2 a2_0 a2_1 a2_2) else ((folkmootref08_Pairs.f kj3 t134 t146).bind fun t149 => (folkmootlaw08_TxnWrites.j1 kj3 l0 t134 (!t149) a1_0 a1_1 a1_2 a2_0 a2_1 a2_2)))) = some r := by first | (rw [hy143]; with_reducible exact H) | (have H2_ := (Option.bind_some _ _).symm.trans H; rw [hy143]; with_reducible exact H2_) | (have H2_ := (Option.bind_some _ _).symm.trans H; with_reducible exact H2_) | with_reducible exact H | (rw [hy143]; exact H) | exact H
    have Ny143 := Aside0.mk hy143
    clear hy143
    replace H := Option.bind_eq_some_iff.mp H
    obtain ⟨t146, A320, H⟩ := H
    replace H : (if a1_0.toList = a2_0.toList then (folkmootlaw08_TxnWrites.j1 kj3 l0 t134 false a1_0 a1_1 a1_2 a2_0 a2_1 a2_2) else ((folkmootref08_Pairs.f kj3 t134 t146).bind fun t149 => (folkmootlaw08_TxnWrites.j1 kj3 l0 t134 (!t149) a1_0 a1_1 a1_2 a2_0 a2_1 a2_2))) = some r := H
    have A32 := Aside0.mk A320
    clear A320
    have HC33 := Aside0.mk H
    clear H
    try go_wp2
    have n0_ := Aside0.mk (blk_drew BK124.out)
    have n1_ := Aside0.mk (blk_drew BK125.out)
    have n2_ := Aside0.mk (below_drew1 HB.out)
    clear BK124
    clear BK125
    clear HB
    have BK124 := n0_
    have BK125 := n1_
    have HB := n2_
    clear n0_ n1_ n2_
    refine start_ (n := 14) (S := fun w' => True) (ds := []) #[false,false,false,false,false,false,false,false,false,false,false,false,false,false] (by kernel_rfl) rfl rfl trivial (fun hHeld => ?_); refine with_tabW folkmootlaw08_TxnWrites.tab3 folkmootlaw08_TxnWrites.bits3 (fun HT_ HW_ => ?_)
    generalize wc.drew = w34 at BK124 BK125 HB hHeld ⊢
    refine pure_ (i := 0) (N := some 41) (v := ?_) (a' := ?_) #[true,false,false,false,false,false,false,false,false,false,false,false,false,false] rfl rfl (any_of HT_.out (by kernel_rfl)) (fun _ _ _ h => h) (Or.inl ⟨by rfl, ?_⟩) ?_ ?_
    rotate_left
    ·intro w'
     go_simp
     with_reducible rfl
    rotate_left
    ·simp only [Act.put, List.setIfInBounds_toArray, List.set_cons_zero, List.set_cons_succ, i64_w, i32_w]
     rfl
    refine pure_ (i := 5) (N := some 46) (v := ?_) (a' := ?_) #[true,false,false,false,false,true,false,false,false,false,false,false,false,false] rfl rfl (any_of HT_.out (by kernel_rfl)) (fun _ _ _ h => h) (Or.inl ⟨by rfl, ?_⟩) ?_ ?_
    rotate_left
    ·intro w'
     go_simp
     with_reducible rfl
    rotate_left
    ·simp only [Act.put, List.setIfInBounds_toArray, List.set_cons_zero, List.set_cons_succ, i64_w, i32_w]
     rfl
    refine inv_at [1, 2, 3, 4, 6, 7, 8, 9, 10, 11, 12, 13] (fun a0_ b a w' => ∃ (v132 : Value) (v135 : Value) (v138 : Value) (v141 : Value) (v144 : Value) (v147 : Value) (m12_ : Value) (m13_ : Value), a = putSel a0_ b [(1, 42, .agg #[.string a1_0, .int .u64 a1_1, .bool a1_2]), (2, 43, .agg #[.string a2_0, .int .u64 a2_1, .bool a2_2]), (3, 44, v132), (4, 45, v135), (6, 47, .agg #[.string a2_0, .int .u64 a2_1, .bool a2_2]), (7, 48, v138), (8, 49, v141), (9, 50, .agg #[.string a1_0, .int .u64 a1_1, .bool a1_2]), (10, 51, v144), (11, 52, v147), (12, 7, m12_), (13, 8, m13_)] ∧ (w'.heap[gb124]? = some (.cells #[.string a1_0, .int .u64 a1_1, .bool a1_2] 69 (0, 0))) ∧ (w'.heap[gb125]? = some (.cells #[.string a2_0, .int .u64 a2_1, .bool a2_2] 69 (0, 0))) ∧ (Below w.heap.size w w') ∧ (b 3 = true → Kd.R k69 69 w' w.heap.size (fun k_ => k_ ≠ gb124 ∧ k_ ≠ gb125) v132 y131) ∧ (b 4 = true → Kd.R k61 61 w' w.heap.size (fun _ => True) v135 t134) ∧ (b 7 = true → Kd.R k69 69 w' w.heap.size (fun k_ => k_ ≠ gb124 ∧ k_ ≠ gb125) v138 y137) ∧ (b 8 = true → Kd.R k61 61 w' w.heap.size (fun _ => True) v141 t140) ∧ (b 10 = true → Kd.R k69 69 w' w.heap.size (fun k_ => k_ ≠ gb124 ∧ k_ ≠ gb125) v144 y143) ∧ (b 11 = true → Kd.R k61 61 w' w.heap.size (fun _ => True) v147 t146) ∧ (b 12 = true → (m12_ : Value) = v135) ∧ (b 13 = true → (m13_ : Value) = v147)) HT_.out HW_.out (by kernel_rfl) (by kernel_rfl) ?_ ?_ ?_
    ·exact ⟨.bool false, .bool false, .bool false, .bool false, .bool false, .bool false, .bool false, .bool false, by simp only [putSel, Bool.false_eq_true, if_false], BK124.out, BK125.out, HB.out, fun h_ => absurd h_ (by decide), fun h_ => absurd h_ (by decide), fun h_ => absurd h_ (by decide), fun h_ => absurd h_ (by decide), fun h_ => absurd h_ (by decide), fun h_ => absurd h_ (by decide), fun h_ => absurd h_ (by decide), fun h_ => absurd h_ (by decide)⟩
    ·skip
     clear BK124 BK125 HB
     refine steps_cons ?_ ?_
     ·rintro b a w' ⟨v132, v135, v138, v141, v144, v147, m12_, m13_, ha, Q_BK124, Q_BK125, Q_HB, Q_HO133, Q_HO136, Q_HO139, Q_HO142, Q_HO145, Q_HO148, Q_X12_, Q_X13_⟩ hb_ hon hoff
      refine ⟨_, rfl, fun K hK => ?_⟩
      have e4 : a.tmps[4]? = some (.pointer (some ⟨gb124, 0, none⟩)) := by rw [ha]; exact (putSel_off rfl).trans rfl
      replace ha := Aside0.mk ha
      have BK124 := Aside0.mk Q_BK124
      have BK125 := Aside0.mk Q_BK125
      have HB := Aside0.mk Q_HB
      have hc0_ : w'.cell? ⟨gb124, 0, none⟩ = some (.string a1_0) := (blk_cell BK124.out 0).trans rfl
      have hc1_ : w'.cell? ⟨gb124, 1, none⟩ = some (.int .u64 a1_1) := (blk_cell BK124.out 1).trans rfl
      have hc2_ : w'.cell? ⟨gb124, 2, none⟩ = some (.bool a1_2) := (blk_cell BK124.out 2).trans rfl
      refine value_ (w1 := w') (v := .agg #[.string a1_0, .int .u64 a1_1, .bool a1_2]) (by rfl) rfl ?_ ?_
      ·go_simp
       (try simp only [i64_w])
       try rfl
      refine hK.out _ _ ⟨v132, v135, v138, v141, v144, v147, m12_, m13_, (by rw [ha.out]; exact putSel_upk 0 hb_ rfl rfl rfl), Q_BK124, Q_BK125, Q_HB, fun h0_ => absurd ((hoff 3 (by kernel_rfl)).symm.trans h0_) (by decide), fun h0_ => absurd ((hoff 4 (by kernel_rfl)).symm.trans h0_) (by decide), Q_HO139, fun h0_ => absurd ((hoff 8 (by kernel_rfl)).symm.trans h0_) (by decide), Q_HO145, fun h0_ => absurd ((hoff 11 (by kernel_rfl)).symm.trans h0_) (by decide), fun h0_ => absurd ((hoff 12 (by kernel_rfl)).symm.trans h0_) (by decide), fun h0_ => absurd ((hoff 13 (by kernel_rfl)).symm.trans h0_) (by decide)⟩
     refine steps_cons ?_ ?_
     ·rintro b a w' ⟨v132, v135, v138, v141, v144, v147, m12_, m13_, ha, Q_BK124, Q_BK125, Q_HB, Q_HO133, Q_HO136, Q_HO139, Q_HO142, Q_HO145, Q_HO148, Q_X12_, Q_X13_⟩ hb_ hon hoff
      refine ⟨_, rfl, fun K hK => ?_⟩
      have e5 : a.tmps[5]? = some (.pointer (some ⟨gb125, 0, none⟩)) := by rw [ha]; exact (putSel_off rfl).trans rfl
      replace ha := Aside0.mk ha
      have BK124 := Aside0.mk Q_BK124
      have BK125 := Aside0.mk Q_BK125
      have HB := Aside0.mk Q_HB
      have hc0_ : w'.cell? ⟨gb125, 0, none⟩ = some (.string a2_0) := (blk_cell BK125.out 0).trans rfl
      have hc1_ : w'.cell? ⟨gb125, 1, none⟩ = some (.int .u64 a2_1) := (blk_cell BK125.out 1).trans rfl
      have hc2_ : w'.cell? ⟨gb125, 2, none⟩ = some (.bool a2_2) := (blk_cell BK125.out 2).trans rfl
      refine value_ (w1 := w') (v := .agg #[.string a2_0, .int .u64 a2_1, .bool a2_2]) (by rfl) rfl ?_ ?_
      ·go_simp
       (try simp only [i64_w])
       try rfl
      refine hK.out _ _ ⟨v132, v135, v138, v141, v144, v147, m12_, m13_, (by rw [ha.out]; exact putSel_upk 1 hb_ rfl rfl rfl), Q_BK124, Q_BK125, Q_HB, fun h0_ => absurd ((hoff 3 (by kernel_rfl)).symm.trans h0_) (by decide), fun h0_ => absurd ((hoff 4 (by kernel_rfl)).symm.trans h0_) (by decide), Q_HO139, fun h0_ => absurd ((hoff 8 (by kernel_rfl)).symm.trans h0_) (by decide), Q_HO145, fun h0_ => absurd ((hoff 11 (by kernel_rfl)).symm.trans h0_) (by decide), fun h0_ => absurd ((hoff 12 (by kernel_rfl)).symm.trans h0_) (by decide), fun h0_ => absurd ((hoff 13 (by kernel_rfl)).symm.trans h0_) (by decide)⟩
     refine steps_cons ?_ ?_
     ·rintro b a w' ⟨v132, v135, v138, v141, v144, v147, m12_, m13_, ha, Q_BK124, Q_BK125, Q_HB, Q_HO133, Q_HO136, Q_HO139, Q_HO142, Q_HO145, Q_HO148, Q_X12_, Q_X13_⟩ hb_ hon hoff
      refine ⟨_, rfl, fun K hK => ?_⟩
      have e42 : a.tmps[42]? = some (.agg #[.string a1_0, .int .u64 a1_1, .bool a1_2]) := by rw [ha]; exact putSel_on (e := (1, 42, .agg #[.string a1_0, .int .u64 a1_1, .bool a1_2])) 0 rfl rfl (hon 1 (by kernel_rfl)) rfl
      have e43 : a.tmps[43]? = some (.agg #[.string a2_0, .int .u64 a2_1, .bool a2_2]) := by rw [ha]; exact putSel_on (e := (2, 43, .agg #[.string a2_0, .int .u64 a2_1, .bool a2_2])) 1 rfl rfl (hon 2 (by kernel_rfl)) rfl
      replace ha := Aside0.mk ha
      have BK124 := Aside0.mk Q_BK124
      have BK125 := Aside0.mk Q_BK125
      have HB := Aside0.mk Q_HB
      refine Kd.R_lit_step k69 _ 69 ?hg (N := 44) ?hd (xs := ([(⟨a1_0, a1_1, a1_2⟩ : S69), (⟨a2_0, a2_1, a2_2⟩ : S69)] : List (S69))) (inner := [.string a1_0, .int .u64 a1_1, .bool a1_2, .string a2_0, .int .u64 a2_1, .bool a2_2]) (ok := fun _ => True) (okp := fun _ => True) ?hr ?hp (fun _ hk => hk) trivial (Below.refl _ _) (Nat.le_refl _) (by simp) ?_; (case hd => rfl); (case hg => rfl); (case hr => first | (go_simp; done) | (go_simp; rfl)); (case hp => exact (Reps.c3 (show Kd.M k69 _ _ _ (⟨a1_0, a1_1, a1_2⟩ : S69) [.string a1_0, .int .u64 a1_1, .bool a1_2] from (k69_mkM _ _ _ (⟨a1_0, a1_1, a1_2⟩ : S69) )) (Reps.c3 (show Kd.M k69 _ _ _ (⟨a2_0, a2_1, a2_2⟩ : S69) [.string a2_0, .int .u64 a2_1, .bool a2_2] from (k69_mkM _ _ _ (⟨a2_0, a2_1, a2_2⟩ : S69) )) (Reps.none _ _))))
      intro v132 w35 ho36 hb hg_ hnew_
      clear hg_ hnew_
      (first | rw [← Ny131.out] at ho36 | (simp only [Int.reduceToNat] at ho36; rw [← Ny131.out] at ho36))
      have n0_ := Aside0.mk (Kd.R_lower (Kd.R_newB (Kd.R_newB ho36 (g := gb124) (o := .cells #[.string a1_0, .int .u64 a1_1, .bool a1_2] 69 (0, 0)) (by (with_reducible repeat (first | refine blk_drewN ?_ _ | refine blk_drew ?_ | refine blk_alloc ?_ _)); exact BK124.out)) (g := gb125) (o := .cells #[.string a2_0, .int .u64 a2_1, .bool a2_2] 69 (0, 0)) (by (with_reducible repeat (first | refine blk_drewN ?_ _ | refine blk_drew ?_ | refine blk_alloc ?_ _)); exact BK125.out)) (below_size (by repeat (first | (with_reducible first | exact HB.out | apply below_alloc | apply pw_below_drewN | apply below_drew1 | refine below_set ?_ GE124.out | refine below_set ?_ GE125.out) | exact HB.out))))
      have n1_ := Aside0.mk (blk_below (g := gb124) (o := .cells #[.string a1_0, .int .u64 a1_1, .bool a1_2] 69 (0, 0)) (by (with_reducible repeat (first | refine blk_drewN ?_ _ | refine blk_drew ?_ | refine blk_alloc ?_ _)); exact BK124.out) hb)
      have n2_ := Aside0.mk (blk_below (g := gb125) (o := .cells #[.string a2_0, .int .u64 a2_1, .bool a2_2] 69 (0, 0)) (by (with_reducible repeat (first | refine blk_drewN ?_ _ | refine blk_drew ?_ | refine blk_alloc ?_ _)); exact BK125.out) hb)
      have n3_ := Aside0.mk (below_step (by repeat (first | (with_reducible first | exact HB.out | apply below_alloc | apply pw_below_drewN | apply below_drew1 | refine below_set ?_ GE124.out | refine below_set ?_ GE125.out) | exact HB.out)) hb)
      have z_HO139 := fun (h0_ : b 7 = true) => (show Kd.R k69 69 w35 w.heap.size (fun k_ => k_ ≠ gb124 ∧ k_ ≠ gb125) v138 y137 from by first | exact (Kd.R_elder' (by (with_reducible repeat (first | apply Kd.R_alloc | apply Kd.R_drewN | apply Kd.R_drew)); exact (Q_HO139 h0_)) (Kd.R_base ho36) hb) | exact Kd.R_mono (Kd.R_elder' (by (with_reducible repeat (first | apply Kd.R_alloc | apply Kd.R_drewN | apply Kd.R_drew)); exact (Q_HO139 h0_)) (Kd.R_base ho36) hb) (fun _ h_ => by first | trivial | exact h_ | exact h_.1))
      have z_HO145 := fun (h0_ : b 10 = true) => (show Kd.R k69 69 w35 w.heap.size (fun k_ => k_ ≠ gb124 ∧ k_ ≠ gb125) v144 y143 from by first | exact (Kd.R_elder' (by (with_reducible repeat (first | apply Kd.R_alloc | apply Kd.R_drewN | apply Kd.R_drew)); exact (Q_HO145 h0_)) (Kd.R_base ho36) hb) | exact Kd.R_mono (Kd.R_elder' (by (with_reducible repeat (first | apply Kd.R_alloc | apply Kd.R_drewN | apply Kd.R_drew)); exact (Q_HO145 h0_)) (Kd.R_base ho36) hb) (fun _ h_ => by first | trivial | exact h_ | exact h_.1))
      clear BK124
      clear BK125
      clear HB
      have HO133 := n0_
      have BK124 := n1_
      have BK125 := n2_
      have HB := n3_
      clear n0_ n1_ n2_ n3_
      clear hb ho36
      refine hK.out _ _ ⟨v132, v135, v138, v141, v144, v147, m12_, m13_, (by rw [ha.out]; exact putSel_upk 2 hb_ rfl rfl rfl), (by (with_reducible repeat (first | refine blk_drewN ?_ _ | refine blk_drew ?_ | refine blk_alloc ?_ _)); exact BK124.out), (by (with_reducible repeat (first | refine blk_drewN ?_ _ | refine blk_drew ?_ | refine blk_alloc ?_ _)); exact BK125.out), (by repeat (first | (with_reducible first | exact HB.out | apply below_alloc | apply pw_below_drewN | apply below_drew1 | refine below_set ?_ GE124.out | refine below_set ?_ GE125.out) | exact HB.out)), fun _ => (by (with_reducible repeat (first | apply Kd.R_alloc | apply Kd.R_drewN | apply Kd.R_drew)); (first | exact Kd.R_mono HO133.out (fun _ hk => ⟨hk.1.2, hk.2⟩) | exact Kd.R_mono HO133.out (fun _ hk => hk.2) | exact Kd.R_mono HO133.out (fun _ _ => trivial) | exact HO133.out)), fun h0_ => absurd ((hoff 4 (by kernel_rfl)).symm.trans h0_) (by decide), z_HO139, fun h0_ => absurd ((hoff 8 (by kernel_rfl)).symm.trans h0_) (by decide), z_HO145, fun h0_ => absurd ((hoff 11 (by kernel_rfl)).symm.trans h0_) (by decide), fun h0_ => absurd ((hoff 12 (by kernel_rfl)).symm.trans h0_) (by decide), fun h0_ => absurd ((hoff 13 (by kernel_rfl)).symm.trans h0_) (by decide)⟩
     refine steps_cons ?_ ?_
     ·rintro b a w' ⟨v132, v135, v138, v141, v144, v147, m12_, m13_, ha, Q_BK124, Q_BK125, Q_HB, Q_HO133, Q_HO136, Q_HO139, Q_HO142, Q_HO145, Q_HO148, Q_X12_, Q_X13_⟩ hb_ hon hoff
      refine ⟨_, rfl, fun K hK => ?_⟩
      have e41 : a.tmps[41]? = some (.slice A0 l0.length c0) := by rw [ha]; exact (putSel_off rfl).trans rfl
      have e44 : a.tmps[44]? = some (v132) := by rw [ha]; exact putSel_on (e := (3, 44, v132)) 2 rfl rfl (hon 3 (by kernel_rfl)) rfl
      replace ha := Aside0.mk ha
      have BK124 := Aside0.mk Q_BK124
      have BK125 := Aside0.mk Q_BK125
      have HB := Aside0.mk Q_HB
      have HO133 := Aside0.mk (Q_HO133 (hon 3 (by kernel_rfl)))
      obtain ⟨Ao38, co38, eo38⟩ := Kd.R_slice HO133.out
      (first | subst eo38 | (injection eo38 with f1_ f2_ f3_; have f4_ := f1_.symm; have f5_ := f3_.symm; clear f1_ f2_ f3_; subst f4_; subst f5_))
      refine goes_ Tryz.func32 (by kernel_rfl) rfl #[.slice A0 l0.length c0, .slice Ao38 y131.length co38] (by rfl) rfl rfl (by first | (simp only [List.map_toArray, List.map_cons, List.map_nil, Act.eval, Array.getD_eq_getD_getElem?, Option.getD_some, e41, e44]; done) | (simp only [List.map_toArray, List.map_cons, List.map_nil, Act.eval, Array.getD_eq_getD_getElem?, Option.getD_some, e41, e44]; rfl)) ?_
      with_reducible refine (txn_Apply.calls _ _ l0 _ _ y131 t134 _ ?side1 ?side2 ?side3 ?side4 A30.out).mono ?_
      (case side1 => repeat (first | exact (Kd.C_below HR0.out HB.out) | (with_reducible refine Kd.C_alloc ?_ _) | (with_reducible refine Kd.C_drewN ?_ _) | (with_reducible refine Kd.C_drew ?_)))
      (case side2 => exact HC0.out)
      (case side3 => repeat (first | exact (Kd.R_reads' HO133.out).2.2 | (with_reducible refine Kd.C_alloc ?_ _) | (with_reducible refine Kd.C_drewN ?_ _) | (with_reducible refine Kd.C_drew ?_)))
      (case side4 => exact (Kd.R_reads' HO133.out).2.1)
      rintro e w39 ⟨v135, rfl, ho0, hb⟩
      refine ⟨_, rfl, ?_⟩
      have n0_ := Aside0.mk (Kd.R_below (by (with_reducible repeat (first | apply Kd.R_alloc | apply Kd.R_drewN | apply Kd.R_drew)); first | exact HO133.out | exact Kd.R_mono HO133.out (fun _ hk => hk.1) | exact Kd.R_mono HO133.out (fun _ _ => trivial)) hb)
      have n1_ := Aside0.mk (Kd.R_lower ho0 (below_size (by repeat (first | (with_reducible first | exact HB.out | apply below_alloc | apply pw_below_drewN | apply below_drew1 | refine below_set ?_ GE124.out | refine below_set ?_ GE125.out) | exact HB.out))))
      have n2_ := Aside0.mk (blk_below (g := gb124) (o := .cells #[.string a1_0, .int .u64 a1_1, .bool a1_2] 69 (0, 0)) (by (with_reducible repeat (first | refine blk_drewN ?_ _ | refine blk_drew ?_ | refine blk_alloc ?_ _)); exact BK124.out) hb)
      have n3_ := Aside0.mk (blk_below (g := gb125) (o := .cells #[.string a2_0, .int .u64 a2_1, .bool a2_2] 69 (0, 0)) (by (with_reducible repeat (first | refine blk_drewN ?_ _ | refine blk_drew ?_ | refine blk_alloc ?_ _)); exact BK125.out) hb)
      have n4_ := Aside0.mk (below_step (by repeat (first | (with_reducible first | exact HB.out | apply below_alloc | apply pw_below_drewN | apply below_drew1 | refine below_set ?_ GE124.out | refine below_set ?_ GE125.out) | exact HB.out)) hb)
      have z_HO139 := fun (h0_ : b 7 = true) => (show Kd.R k69 69 w39 w.heap.size (fun k_ => k_ ≠ gb124 ∧ k_ ≠ gb125) v138 y137 from by first | exact (Kd.R_below (by (with_reducible repeat (first | apply Kd.R_alloc | apply Kd.R_drewN | apply Kd.R_drew)); exact (Q_HO139 h0_)) hb) | exact Kd.R_mono (Kd.R_below (by (with_reducible repeat (first | apply Kd.R_alloc | apply Kd.R_drewN | apply Kd.R_drew)); exact (Q_HO139 h0_)) hb) (fun _ h_ => by first | trivial | exact h_ | exact h_.1))
      have z_HO145 := fun (h0_ : b 10 = true) => (show Kd.R k69 69 w39 w.heap.size (fun k_ => k_ ≠ gb124 ∧ k_ ≠ gb125) v144 y143 from by first | exact (Kd.R_below (by (with_reducible repeat (first | apply Kd.R_alloc | apply Kd.R_drewN | apply Kd.R_drew)); exact (Q_HO145 h0_)) hb) | exact Kd.R_mono (Kd.R_below (by (with_reducible repeat (first | apply Kd.R_alloc | apply Kd.R_drewN | apply Kd.R_drew)); exact (Q_HO145 h0_)) hb) (fun _ h_ => by first | trivial | exact h_ | exact h_.1))
      clear HO133
      clear BK124
      clear BK125
      clear HB
      have HO133 := n0_
      have HO136 := n1_
      have BK124 := n2_
      have BK125 := n3_
      have HB := n4_
      clear n0_ n1_ n2_ n3_ n4_
      (try clear hb)
      (try clear hb2)
      (try clear hk)
      (try clear hi)
      (try clear ho0)
      refine hK.out _ _ ⟨.slice Ao38 y131.length co38, v135, v138, v141, v144, v147, m12_, m13_, (by rw [ha.out]; exact putSel_upk 3 hb_ rfl rfl rfl), (by (with_reducible repeat (first | refine blk_drewN ?_ _ | refine blk_drew ?_ | refine blk_alloc ?_ _)); exact BK124.out), (by (with_reducible repeat (first | refine blk_drewN ?_ _ | refine blk_drew ?_ | refine blk_alloc ?_ _)); exact BK125.out), (by repeat (first | (with_reducible first | exact HB.out | apply below_alloc | apply pw_below_drewN | apply below_drew1 | refine below_set ?_ GE124.out | refine below_set ?_ GE125.out) | exact HB.out)), fun _ => (by (with_reducible repeat (first | apply Kd.R_alloc | apply Kd.R_drewN | apply Kd.R_drew)); first | exact HO133.out | exact Kd.R_mono HO133.out (fun _ hk => hk.1) | exact Kd.R_mono HO133.out (fun _ _ => trivial)), fun _ => (by (with_reducible repeat (first | apply Kd.R_alloc | apply Kd.R_drewN | apply Kd.R_drew)); first | exact HO136.out | exact Kd.R_mono HO136.out (fun _ hk => hk.1) | exact Kd.R_mono HO136.out (fun _ _ => trivial)), z_HO139, fun h0_ => absurd ((hoff 8 (by kernel_rfl)).symm.trans h0_) (by decide), z_HO145, fun h0_ => absurd ((hoff 11 (by kernel_rfl)).symm.trans h0_) (by decide), fun h0_ => absurd ((hoff 12 (by kernel_rfl)).symm.trans h0_) (by decide), fun h0_ => absurd ((hoff 13 (by kernel_rfl)).symm.trans h0_) (by decide)⟩
     refine steps_cons ?_ ?_
     ·rintro b a w' ⟨v132, v135, v138, v141, v144, v147, m12_, m13_, ha, Q_BK124, Q_BK125, Q_HB, Q_HO133, Q_HO136, Q_HO139, Q_HO142, Q_HO145, Q_HO148, Q_X12_, Q_X13_⟩ hb_ hon hoff
      refine ⟨_, rfl, fun K hK => ?_⟩
      have e5 : a.tmps[5]? = some (.pointer (some ⟨gb125, 0, none⟩)) := by rw [ha]; exact (putSel_off rfl).trans rfl
      replace ha := Aside0.mk ha
      have BK124 := Aside0.mk Q_BK124
      have BK125 := Aside0.mk Q_BK125
      have HB := Aside0.mk Q_HB
      have hc0_ : w'.cell? ⟨gb125, 0, none⟩ = some (.string a2_0) := (blk_cell BK125.out 0).trans rfl
      have hc1_ : w'.cell? ⟨gb125, 1, none⟩ = some (.int .u64 a2_1) := (blk_cell BK125.out 1).trans rfl
      have hc2_ : w'.cell? ⟨gb125, 2, none⟩ = some (.bool a2_2) := (blk_cell BK125.out 2).trans rfl
      refine value_ (w1 := w') (v := .agg #[.string a2_0, .int .u64 a2_1, .bool a2_2]) (by rfl) rfl ?_ ?_
      ·go_simp
       (try simp only [i64_w])
       try rfl
      refine hK.out _ _ ⟨v132, v135, v138, v141, v144, v147, m12_, m13_, (by rw [ha.out]; exact putSel_upk 4 hb_ rfl rfl rfl), Q_BK124, Q_BK125, Q_HB, Q_HO133, Q_HO136, fun h0_ => absurd ((hoff 7 (by kernel_rfl)).symm.trans h0_) (by decide), fun h0_ => absurd ((hoff 8 (by kernel_rfl)).symm.trans h0_) (by decide), Q_HO145, fun h0_ => absurd ((hoff 11 (by kernel_rfl)).symm.trans h0_) (by decide), fun h0_ => absurd ((hoff 12 (by kernel_rfl)).symm.trans h0_) (by decide), fun h0_ => absurd ((hoff 13 (by kernel_rfl)).symm.trans h0_) (by decide)⟩
     refine steps_cons ?_ ?_
     ·rintro b a w' ⟨v132, v135, v138, v141, v144, v147, m12_, m13_, ha, Q_BK124, Q_BK125, Q_HB, Q_HO133, Q_HO136, Q_HO139, Q_HO142, Q_HO145, Q_HO148, Q_X12_, Q_X13_⟩ hb_ hon hoff
      refine ⟨_, rfl, fun K hK => ?_⟩
      have e47 : a.tmps[47]? = some (.agg #[.string a2_0, .int .u64 a2_1, .bool a2_2]) := by rw [ha]; exact putSel_on (e := (6, 47, .agg #[.string a2_0, .int .u64 a2_1, .bool a2_2])) 4 rfl rfl (hon 6 (by kernel_rfl)) rfl
      replace ha := Aside0.mk ha
      have BK124 := Aside0.mk Q_BK124
      have BK125 := Aside0.mk Q_BK125
      have HB := Aside0.mk Q_HB
      refine Kd.R_lit_step k69 _ 69 ?hg (N := 48) ?hd (xs := ([(⟨a2_0, a2_1, a2_2⟩ : S69)] : List (S69))) (inner := [.string a2_0, .int .u64 a2_1, .bool a2_2]) (ok := fun _ => True) (okp := fun _ => True) ?hr ?hp (fun _ hk => hk) trivial (Below.refl _ _) (Nat.le_refl _) (by simp) ?_; (case hd => rfl); (case hg => rfl); (case hr => first | (go_simp; done) | (go_simp; rfl)); (case hp => exact (Reps.c3 (show Kd.M k69 _ _ _ (⟨a2_0, a2_1, a2_2⟩ : S69) [.string a2_0, .int .u64 a2_1, .bool a2_2] from (k69_mkM _ _ _ (⟨a2_0, a2_1, a2_2⟩ : S69) )) (Reps.none _ _)))
      intro v138 w35 ho36 hb hg_ hnew_
      clear hg_ hnew_
      (first | rw [← Ny137.out] at ho36 | (simp only [Int.reduceToNat] at ho36; rw [← Ny137.out] at ho36))
      have n0_ := Aside0.mk (Kd.R_lower (Kd.R_newB (Kd.R_newB ho36 (g := gb124) (o := .cells #[.string a1_0, .int .u64 a1_1, .bool a1_2] 69 (0, 0)) (by (with_reducible repeat (first | refine blk_drewN ?_ _ | refine blk_drew ?_ | refine blk_alloc ?_ _)); exact BK124.out)) (g := gb125) (o := .cells #[.string a2_0, .int .u64 a2_1, .bool a2_2] 69 (0, 0)) (by (with_reducible repeat (first | refine blk_drewN ?_ _ | refine blk_drew ?_ | refine blk_alloc ?_ _)); exact BK125.out)) (below_size (by repeat (first | (with_reducible first | exact HB.out | apply below_alloc | apply pw_below_drewN | apply below_drew1 | refine below_set ?_ GE124.out | refine below_set ?_ GE125.out) | exact HB.out))))
      have n1_ := Aside0.mk (blk_below (g := gb124) (o := .cells #[.string a1_0, .int .u64 a1_1, .bool a1_2] 69 (0, 0)) (by (with_reducible repeat (first | refine blk_drewN ?_ _ | refine blk_drew ?_ | refine blk_alloc ?_ _)); exact BK124.out) hb)
      have n2_ := Aside0.mk (blk_below (g := gb125) (o := .cells #[.string a2_0, .int .u64 a2_1, .bool a2_2] 69 (0, 0)) (by (with_reducible repeat (first | refine blk_drewN ?_ _ | refine blk_drew ?_ | refine blk_alloc ?_ _)); exact BK125.out) hb)
      have n3_ := Aside0.mk (below_step (by repeat (first | (with_reducible first | exact HB.out | apply below_alloc | apply pw_below_drewN | apply below_drew1 | refine below_set ?_ GE124.out | refine below_set ?_ GE125.out) | exact HB.out)) hb)
      have z_HO133 := fun (h0_ : b 3 = true) => (show Kd.R k69 69 w35 w.heap.size (fun k_ => k_ ≠ gb124 ∧ k_ ≠ gb125) v132 y131 from by first | exact (Kd.R_elder' (by (with_reducible repeat (first | apply Kd.R_alloc | apply Kd.R_drewN | apply Kd.R_drew)); exact (Q_HO133 h0_)) (Kd.R_base ho36) hb) | exact Kd.R_mono (Kd.R_elder' (by (with_reducible repeat (first | apply Kd.R_alloc | apply Kd.R_drewN | apply Kd.R_drew)); exact (Q_HO133 h0_)) (Kd.R_base ho36) hb) (fun _ h_ => by first | trivial | exact h_ | exact h_.1))
      have z_HO136 := fun (h0_ : b 4 = true) => (show Kd.R k61 61 w35 w.heap.size (fun _ => True) v135 t134 from by first | exact (Kd.R_below (by (with_reducible repeat (first | apply Kd.R_alloc | apply Kd.R_drewN | apply Kd.R_drew)); exact (Q_HO136 h0_)) hb) | exact Kd.R_mono (Kd.R_below (by (with_reducible repeat (first | apply Kd.R_alloc | apply Kd.R_drewN | apply Kd.R_drew)); exact (Q_HO136 h0_)) hb) (fun _ h_ => by first | trivial | exact h_ | exact h_.1))
      have z_HO145 := fun (h0_ : b 10 = true) => (show Kd.R k69 69 w35 w.heap.size (fun k_ => k_ ≠ gb124 ∧ k_ ≠ gb125) v144 y143 from by first | exact (Kd.R_elder' (by (with_reducible repeat (first | apply Kd.R_alloc | apply Kd.R_drewN | apply Kd.R_drew)); exact (Q_HO145 h0_)) (Kd.R_base ho36) hb) | exact Kd.R_mono (Kd.R_elder' (by (with_reducible repeat (first | apply Kd.R_alloc | apply Kd.R_drewN | apply Kd.R_drew)); exact (Q_HO145 h0_)) (Kd.R_base ho36) hb) (fun _ h_ => by first | trivial | exact h_ | exact h_.1))
      clear BK124
      clear BK125
      clear HB
      have HO139 := n0_
      have BK124 := n1_
      have BK125 := n2_
      have HB := n3_
      clear n0_ n1_ n2_ n3_
      clear hb ho36
      refine hK.out _ _ ⟨v132, v135, v138, v141, v144, v147, m12_, m13_, (by rw [ha.out]; exact putSel_upk 5 hb_ rfl rfl rfl), (by (with_reducible repeat (first | refine blk_drewN ?_ _ | refine blk_drew ?_ | refine blk_alloc ?_ _)); exact BK124.out), (by (with_reducible repeat (first | refine blk_drewN ?_ _ | refine blk_drew ?_ | refine blk_alloc ?_ _)); exact BK125.out), (by repeat (first | (with_reducible first | exact HB.out | apply below_alloc | apply pw_below_drewN | apply below_drew1 | refine below_set ?_ GE124.out | refine below_set ?_ GE125.out) | exact HB.out)), z_HO133, z_HO136, fun _ => (by (with_reducible repeat (first | apply Kd.R_alloc | apply Kd.R_drewN | apply Kd.R_drew)); (first | exact Kd.R_mono HO139.out (fun _ hk => ⟨hk.1.2, hk.2⟩) | exact Kd.R_mono HO139.out (fun _ hk => hk.2) | exact Kd.R_mono HO139.out (fun _ _ => trivial) | exact HO139.out)), fun h0_ => absurd ((hoff 8 (by kernel_rfl)).symm.trans h0_) (by decide), z_HO145, fun h0_ => absurd ((hoff 11 (by kernel_rfl)).symm.trans h0_) (by decide), fun h0_ => absurd ((hoff 12 (by kernel_rfl)).symm.trans h0_) (by decide), fun h0_ => absurd ((hoff 13 (by kernel_rfl)).symm.trans h0_) (by decide)⟩
     refine steps_cons ?_ ?_
     ·rintro b a w' ⟨v132, v135, v138, v141, v144, v147, m12_, m13_, ha, Q_BK124, Q_BK125, Q_HB, Q_HO133, Q_HO136, Q_HO139, Q_HO142, Q_HO145, Q_HO148, Q_X12_, Q_X13_⟩ hb_ hon hoff
      refine ⟨_, rfl, fun K hK => ?_⟩
      have e46 : a.tmps[46]? = some (.slice A0 l0.length c0) := by rw [ha]; exact (putSel_off rfl).trans rfl
      have e48 : a.tmps[48]? = some (v138) := by rw [ha]; exact putSel_on (e := (7, 48, v138)) 5 rfl rfl (hon 7 (by kernel_rfl)) rfl
      replace ha := Aside0.mk ha
      have BK124 := Aside0.mk Q_BK124
      have BK125 := Aside0.mk Q_BK125
      have HB := Aside0.mk Q_HB
      have HO133 := Aside0.mk (Q_HO133 (hon 3 (by kernel_rfl)))
      have HO136 := Aside0.mk (Q_HO136 (hon 4 (by kernel_rfl)))
      have HO139 := Aside0.mk (Q_HO139 (hon 7 (by kernel_rfl)))
      obtain ⟨Ao42, co42, eo42⟩ := Kd.R_slice HO139.out
      (first | subst eo42 | (injection eo42 with f1_ f2_ f3_; have f4_ := f1_.symm; have f5_ := f3_.symm; clear f1_ f2_ f3_; subst f4_; subst f5_))
      refine goes_ Tryz.func32 (by kernel_rfl) rfl #[.slice A0 l0.length c0, .slice Ao42 y137.length co42] (by rfl) rfl rfl (by first | (simp only [List.map_toArray, List.map_cons, List.map_nil, Act.eval, Array.getD_eq_getD_getElem?, Option.getD_some, e46, e48]; done) | (simp only [List.map_toArray, List.map_cons, List.map_nil, Act.eval, Array.getD_eq_getD_getElem?, Option.getD_some, e46, e48]; rfl)) ?_
      with_reducible refine (txn_Apply.calls _ _ l0 _ _ y137 t140 _ ?side1 ?side2 ?side3 ?side4 A31.out).mono ?_
      (case side1 => repeat (first | exact (Kd.C_below HR0.out HB.out) | (with_reducible refine Kd.C_alloc ?_ _) | (with_reducible refine Kd.C_drewN ?_ _) | (with_reducible refine Kd.C_drew ?_)))
      (case side2 => exact HC0.out)
      (case side3 => repeat (first | exact (Kd.R_reads' HO139.out).2.2 | (with_reducible refine Kd.C_alloc ?_ _) | (with_reducible refine Kd.C_drewN ?_ _) | (with_reducible refine Kd.C_drew ?_)))
      (case side4 => exact (Kd.R_reads' HO139.out).2.1)
      rintro e w43 ⟨v141, rfl, ho0, hb⟩
      refine ⟨_, rfl, ?_⟩
      have n0_ := Aside0.mk (Kd.R_below (by (with_reducible repeat (first | apply Kd.R_alloc | apply Kd.R_drewN | apply Kd.R_drew)); first | exact HO133.out | exact Kd.R_mono HO133.out (fun _ hk => hk.1) | exact Kd.R_mono HO133.out (fun _ _ => trivial)) hb)
      have n1_ := Aside0.mk (Kd.R_elder' (by (with_reducible repeat (first | apply Kd.R_alloc | apply Kd.R_drewN | apply Kd.R_drew)); first | exact HO136.out | exact Kd.R_mono HO136.out (fun _ hk => hk.1) | exact Kd.R_mono HO136.out (fun _ _ => trivial)) (Kd.R_base ho0) hb)
      have n2_ := Aside0.mk (Kd.R_below (by (with_reducible repeat (first | apply Kd.R_alloc | apply Kd.R_drewN | apply Kd.R_drew)); first | exact HO139.out | exact Kd.R_mono HO139.out (fun _ hk => hk.1) | exact Kd.R_mono HO139.out (fun _ _ => trivial)) hb)
      have n3_ := Aside0.mk (Kd.R_lower (Kd.R_new' ho0 (Kd.R_lt (by (with_reducible repeat (first | apply Kd.R_alloc | apply Kd.R_drewN | apply Kd.R_drew)); first | exact HO136.out | exact Kd.R_mono HO136.out (fun _ hk => hk.1) | exact Kd.R_mono HO136.out (fun _ _ => trivial)))) (below_size (by repeat (first | (with_reducible first | exact HB.out | apply below_alloc | apply pw_below_drewN | apply below_drew1 | refine below_set ?_ GE124.out | refine below_set ?_ GE125.out) | exact HB.out))))
      have n4_ := Aside0.mk (blk_below (g := gb124) (o := .cells #[.string a1_0, .int .u64 a1_1, .bool a1_2] 69 (0, 0)) (by (with_reducible repeat (first | refine blk_drewN ?_ _ | refine blk_drew ?_ | refine blk_alloc ?_ _)); exact BK124.out) hb)
      have n5_ := Aside0.mk (blk_below (g := gb125) (o := .cells #[.string a2_0, .int .u64 a2_1, .bool a2_2] 69 (0, 0)) (by (with_reducible repeat (first | refine blk_drewN ?_ _ | refine blk_drew ?_ | refine blk_alloc ?_ _)); exact BK125.out) hb)
      have n6_ := Aside0.mk (below_step (by repeat (first | (with_reducible first | exact HB.out | apply below_alloc | apply pw_below_drewN | apply below_drew1 | refine below_set ?_ GE124.out | refine below_set ?_ GE125.out) | exact HB.out)) hb)
      have z_HO145 := fun (h0_ : b 10 = true) => (show Kd.R k69 69 w43 w.heap.size (fun k_ => k_ ≠ gb124 ∧ k_ ≠ gb125) v144 y143 from by first | exact (Kd.R_below (by (with_reducible repeat (first | apply Kd.R_alloc | apply Kd.R_drewN | apply Kd.R_drew)); exact (Q_HO145 h0_)) hb) | exact Kd.R_mono (Kd.R_below (by (with_reducible repeat (first | apply Kd.R_alloc | apply Kd.R_drewN | apply Kd.R_drew)); exact (Q_HO145 h0_)) hb) (fun _ h_ => by first | trivial | exact h_ | exact h_.1))
      clear HO133
      clear HO136
      clear HO139
      clear BK124
      clear BK125
      clear HB
      have HO133 := n0_
      have HO136 := n1_
      have HO139 := n2_
      have HO142 := n3_
      have BK124 := n4_
      have BK125 := n5_
      have HB := n6_
      clear n0_ n1_ n2_ n3_ n4_ n5_ n6_
      (try clear hb)
      (try clear hb2)
      (try clear hk)
      (try clear hi)
      (try clear ho0)
      refine hK.out _ _ ⟨v132, v135, .slice Ao42 y137.length co42, v141, v144, v147, m12_, m13_, (by rw [ha.out]; exact putSel_upk 6 hb_ rfl rfl rfl), (by (with_reducible repeat (first | refine blk_drewN ?_ _ | refine blk_drew ?_ | refine blk_alloc ?_ _)); exact BK124.out), (by (with_reducible repeat (first | refine blk_drewN ?_ _ | refine blk_drew ?_ | refine blk_alloc ?_ _)); exact BK125.out), (by repeat (first | (with_reducible first | exact HB.out | apply below_alloc | apply pw_below_drewN | apply below_drew1 | refine below_set ?_ GE124.out | refine below_set ?_ GE125.out) | exact HB.out)), fun _ => (by (with_reducible repeat (first | apply Kd.R_alloc | apply Kd.R_drewN | apply Kd.R_drew)); first | exact HO133.out | exact Kd.R_mono HO133.out (fun _ hk => hk.1) | exact Kd.R_mono HO133.out (fun _ _ => trivial)), fun _ => (by (with_reducible repeat (first | apply Kd.R_alloc | apply Kd.R_drewN | apply Kd.R_drew)); (first | exact Kd.R_mono HO136.out (fun _ hk => hk.2) | exact Kd.R_mono HO136.out (fun _ _ => trivial) | exact HO136.out)), fun _ => (by (with_reducible repeat (first | apply Kd.R_alloc | apply Kd.R_drewN | apply Kd.R_drew)); first | exact HO139.out | exact Kd.R_mono HO139.out (fun _ hk => hk.1) | exact Kd.R_mono HO139.out (fun _ _ => trivial)), fun _ => (by (with_reducible repeat (first | apply Kd.R_alloc | apply Kd.R_drewN | apply Kd.R_drew)); (first | exact Kd.R_mono HO142.out (fun _ hk => hk.2) | exact Kd.R_mono HO142.out (fun _ _ => trivial) | exact HO142.out)), z_HO145, fun h0_ => absurd ((hoff 11 (by kernel_rfl)).symm.trans h0_) (by decide), fun h0_ => absurd ((hoff 12 (by kernel_rfl)).symm.trans h0_) (by decide), fun h0_ => absurd ((hoff 13 (by kernel_rfl)).symm.trans h0_) (by decide)⟩
     refine steps_cons ?_ ?_
     ·rintro b a w' ⟨v132, v135, v138, v141, v144, v147, m12_, m13_, ha, Q_BK124, Q_BK125, Q_HB, Q_HO133, Q_HO136, Q_HO139, Q_HO142, Q_HO145, Q_HO148, Q_X12_, Q_X13_⟩ hb_ hon hoff
      refine ⟨_, rfl, fun K hK => ?_⟩
      have e4 : a.tmps[4]? = some (.pointer (some ⟨gb124, 0, none⟩)) := by rw [ha]; exact (putSel_off rfl).trans rfl
      replace ha := Aside0.mk ha
      have BK124 := Aside0.mk Q_BK124
      have BK125 := Aside0.mk Q_BK125
      have HB := Aside0.mk Q_HB
      have hc0_ : w'.cell? ⟨gb124, 0, none⟩ = some (.string a1_0) := (blk_cell BK124.out 0).trans rfl
      have hc1_ : w'.cell? ⟨gb124, 1, none⟩ = some (.int .u64 a1_1) := (blk_cell BK124.out 1).trans rfl
      have hc2_ : w'.cell? ⟨gb124, 2, none⟩ = some (.bool a1_2) := (blk_cell BK124.out 2).trans rfl
      refine value_ (w1 := w') (v := .agg #[.string a1_0, .int .u64 a1_1, .bool a1_2]) (by rfl) rfl ?_ ?_
      ·go_simp
       (try simp only [i64_w])
       try rfl
      refine hK.out _ _ ⟨v132, v135, v138, v141, v144, v147, m12_, m13_, (by rw [ha.out]; exact putSel_upk 7 hb_ rfl rfl rfl), Q_BK124, Q_BK125, Q_HB, Q_HO133, Q_HO136, Q_HO139, Q_HO142, fun h0_ => absurd ((hoff 10 (by kernel_rfl)).symm.trans h0_) (by decide), fun h0_ => absurd ((hoff 11 (by kernel_rfl)).symm.trans h0_) (by decide), fun h0_ => absurd ((hoff 12 (by kernel_rfl)).symm.trans h0_) (by decide), fun h0_ => absurd ((hoff 13 (by kernel_rfl)).symm.trans h0_) (by decide)⟩
     refine steps_cons ?_ ?_
     ·rintro b a w' ⟨v132, v135, v138, v141, v144, v147, m12_, m13_, ha, Q_BK124, Q_BK125, Q_HB, Q_HO133, Q_HO136, Q_HO139, Q_HO142, Q_HO145, Q_HO148, Q_X12_, Q_X13_⟩ hb_ hon hoff
      refine ⟨_, rfl, fun K hK => ?_⟩
      have e50 : a.tmps[50]? = some (.agg #[.string a1_0, .int .u64 a1_1, .bool a1_2]) := by rw [ha]; exact putSel_on (e := (9, 50, .agg #[.string a1_0, .int .u64 a1_1, .bool a1_2])) 7 rfl rfl (hon 9 (by kernel_rfl)) rfl
      replace ha := Aside0.mk ha
      have BK124 := Aside0.mk Q_BK124
      have BK125 := Aside0.mk Q_BK125
      have HB := Aside0.mk Q_HB
      refine Kd.R_lit_step k69 _ 69 ?hg (N := 51) ?hd (xs := ([(⟨a1_0, a1_1, a1_2⟩ : S69)] : List (S69))) (inner := [.string a1_0, .int .u64 a1_1, .bool a1_2]) (ok := fun _ => True) (okp := fun _ => True) ?hr ?hp (fun _ hk => hk) trivial (Below.refl _ _) (Nat.le_refl _) (by simp) ?_; (case hd => rfl); (case hg => rfl); (case hr => first | (go_simp; done) | (go_simp; rfl)); (case hp => exact (Reps.c3 (show Kd.M k69 _ _ _ (⟨a1_0, a1_1, a1_2⟩ : S69) [.string a1_0, .int .u64 a1_1, .bool a1_2] from (k69_mkM _ _ _ (⟨a1_0, a1_1, a1_2⟩ : S69) )) (Reps.none _ _)))
      intro v144 w35 ho36 hb hg_ hnew_
      clear hg_ hnew_
      (first | rw [← Ny143.out] at ho36 | (simp only [Int.reduceToNat] at ho36; rw [← Ny143.out] at ho36))
      have n0_ := Aside0.mk (Kd.R_lower (Kd.R_newB (Kd.R_newB ho36 (g := gb124) (o := .cells #[.string a1_0, .int .u64 a1_1, .bool a1_2] 69 (0, 0)) (by (with_reducible repeat (first | refine blk_drewN ?_ _ | refine blk_drew ?_ | refine blk_alloc ?_ _)); exact BK124.out)) (g := gb125) (o := .cells #[.string a2_0, .int .u64 a2_1, .bool a2_2] 69 (0, 0)) (by (with_reducible repeat (first | refine blk_drewN ?_ _ | refine blk_drew ?_ | refine blk_alloc ?_ _)); exact BK125.out)) (below_size (by repeat (first | (with_reducible first | exact HB.out | apply below_alloc | apply pw_below_drewN | apply below_drew1 | refine below_set ?_ GE124.out | refine below_set ?_ GE125.out) | exact HB.out))))
      have n1_ := Aside0.mk (blk_below (g := gb124) (o := .cells #[.string a1_0, .int .u64 a1_1, .bool a1_2] 69 (0, 0)) (by (with_reducible repeat (first | refine blk_drewN ?_ _ | refine blk_drew ?_ | refine blk_alloc ?_ _)); exact BK124.out) hb)
      have n2_ := Aside0.mk (blk_below (g := gb125) (o := .cells #[.string a2_0, .int .u64 a2_1, .bool a2_2] 69 (0, 0)) (by (with_reducible repeat (first | refine blk_drewN ?_ _ | refine blk_drew ?_ | refine blk_alloc ?_ _)); exact BK125.out) hb)
      have n3_ := Aside0.mk (below_step (by repeat (first | (with_reducible first | exact HB.out | apply below_alloc | apply pw_below_drewN | apply below_drew1 | refine below_set ?_ GE124.out | refine below_set ?_ GE125.out) | exact HB.out)) hb)
      have z_HO133 := fun (h0_ : b 3 = true) => (show Kd.R k69 69 w35 w.heap.size (fun k_ => k_ ≠ gb124 ∧ k_ ≠ gb125) v132 y131 from by first | exact (Kd.R_elder' (by (with_reducible repeat (first | apply Kd.R_alloc | apply Kd.R_drewN | apply Kd.R_drew)); exact (Q_HO133 h0_)) (Kd.R_base ho36) hb) | exact Kd.R_mono (Kd.R_elder' (by (with_reducible repeat (first | apply Kd.R_alloc | apply Kd.R_drewN | apply Kd.R_drew)); exact (Q_HO133 h0_)) (Kd.R_base ho36) hb) (fun _ h_ => by first | trivial | exact h_ | exact h_.1))
      have z_HO136 := fun (h0_ : b 4 = true) => (show Kd.R k61 61 w35 w.heap.size (fun _ => True) v135 t134 from by first | exact (Kd.R_below (by (with_reducible repeat (first | apply Kd.R_alloc | apply Kd.R_drewN | apply Kd.R_drew)); exact (Q_HO136 h0_)) hb) | exact Kd.R_mono (Kd.R_below (by (with_reducible repeat (first | apply Kd.R_alloc | apply Kd.R_drewN | apply Kd.R_drew)); exact (Q_HO136 h0_)) hb) (fun _ h_ => by first | trivial | exact h_ | exact h_.1))
      have z_HO139 := fun (h0_ : b 7 = true) => (show Kd.R k69 69 w35 w.heap.size (fun k_ => k_ ≠ gb124 ∧ k_ ≠ gb125) v138 y137 from by first | exact (Kd.R_elder' (by (with_reducible repeat (first | apply Kd.R_alloc | apply Kd.R_drewN | apply Kd.R_drew)); exact (Q_HO139 h0_)) (Kd.R_base ho36) hb) | exact Kd.R_mono (Kd.R_elder' (by (with_reducible repeat (first | apply Kd.R_alloc | apply Kd.R_drewN | apply Kd.R_drew)); exact (Q_HO139 h0_)) (Kd.R_base ho36) hb) (fun _ h_ => by first | trivial | exact h_ | exact h_.1))
      have z_HO142 := fun (h0_ : b 8 = true) => (show Kd.R k61 61 w35 w.heap.size (fun _ => True) v141 t140 from by first | exact (Kd.R_below (by (with_reducible repeat (first | apply Kd.R_alloc | apply Kd.R_drewN | apply Kd.R_drew)); exact (Q_HO142 h0_)) hb) | exact Kd.R_mono (Kd.R_below (by (with_reducible repeat (first | apply Kd.R_alloc | apply Kd.R_drewN | apply Kd.R_drew)); exact (Q_HO142 h0_)) hb) (fun _ h_ => by first | trivial | exact h_ | exact h_.1))
      clear BK124
      clear BK125
      clear HB
      have HO145 := n0_
      have BK124 := n1_
      have BK125 := n2_
      have HB := n3_
      clear n0_ n1_ n2_ n3_
      clear hb ho36
      refine hK.out _ _ ⟨v132, v135, v138, v141, v144, v147, m12_, m13_, (by rw [ha.out]; exact putSel_upk 8 hb_ rfl rfl rfl), (by (with_reducible repeat (first | refine blk_drewN ?_ _ | refine blk_drew ?_ | refine blk_alloc ?_ _)); exact BK124.out), (by (with_reducible repeat (first | refine blk_drewN ?_ _ | refine blk_drew ?_ | refine blk_alloc ?_ _)); exact BK125.out), (by repeat (first | (with_reducible first | exact HB.out | apply below_alloc | apply pw_below_drewN | apply below_drew1 | refine below_set ?_ GE124.out | refine below_set ?_ GE125.out) | exact HB.out)), z_HO133, z_HO136, z_HO139, z_HO142, fun _ => (by (with_reducible repeat (first | apply Kd.R_alloc | apply Kd.R_drewN | apply Kd.R_drew)); (first | exact Kd.R_mono HO145.out (fun _ hk => ⟨hk.1.2, hk.2⟩) | exact Kd.R_mono HO145.out (fun _ hk => hk.2) | exact Kd.R_mono HO145.out (fun _ _ => trivial) | exact HO145.out)), fun h0_ => absurd ((hoff 11 (by kernel_rfl)).symm.trans h0_) (by decide), fun h0_ => absurd ((hoff 12 (by kernel_rfl)).symm.trans h0_) (by decide), fun h0_ => absurd ((hoff 13 (by kernel_rfl)).symm.trans h0_) (by decide)⟩
     refine steps_cons ?_ ?_
     ·rintro b a w' ⟨v132, v135, v138, v141, v144, v147, m12_, m13_, ha, Q_BK124, Q_BK125, Q_HB, Q_HO133, Q_HO136, Q_HO139, Q_HO142, Q_HO145, Q_HO148, Q_X12_, Q_X13_⟩ hb_ hon hoff
      refine ⟨_, rfl, fun K hK => ?_⟩
      have e49 : a.tmps[49]? = some (v141) := by rw [ha]; exact putSel_on (e := (8, 49, v141)) 6 rfl rfl (hon 8 (by kernel_rfl)) rfl
      have e51 : a.tmps[51]? = some (v144) := by rw [ha]; exact putSel_on (e := (10, 51, v144)) 8 rfl rfl (hon 10 (by kernel_rfl)) rfl
      replace ha := Aside0.mk ha
      have BK124 := Aside0.mk Q_BK124
      have BK125 := Aside0.mk Q_BK125
      have HB := Aside0.mk Q_HB
      have HO133 := Aside0.mk (Q_HO133 (hon 3 (by kernel_rfl)))
      have HO136 := Aside0.mk (Q_HO136 (hon 4 (by kernel_rfl)))
      have HO139 := Aside0.mk (Q_HO139 (hon 7 (by kernel_rfl)))
      have HO142 := Aside0.mk (Q_HO142 (hon 8 (by kernel_rfl)))
      have HO145 := Aside0.mk (Q_HO145 (hon 10 (by kernel_rfl)))
      obtain ⟨Ao46, co46, eo46⟩ := Kd.R_slice HO142.out
      (first | subst eo46 | (injection eo46 with f1_ f2_ f3_; have f4_ := f1_.symm; have f5_ := f3_.symm; clear f1_ f2_ f3_; subst f4_; subst f5_))
      obtain ⟨Ao47, co47, eo47⟩ := Kd.R_slice HO145.out
      (first | subst eo47 | (injection eo47 with f1_ f2_ f3_; have f4_ := f1_.symm; have f5_ := f3_.symm; clear f1_ f2_ f3_; subst f4_; subst f5_))
      refine goes_ Tryz.func32 (by kernel_rfl) rfl #[.slice Ao46 t140.length co46, .slice Ao47 y143.length co47] (by rfl) rfl rfl (by first | (simp only [List.map_toArray, List.map_cons, List.map_nil, Act.eval, Array.getD_eq_getD_getElem?, Option.getD_some, e49, e51]; done) | (simp only [List.map_toArray, List.map_cons, List.map_nil, Act.eval, Array.getD_eq_getD_getElem?, Option.getD_some, e49, e51]; rfl)) ?_
      with_reducible refine (txn_Apply.calls _ _ t140 _ _ y143 t146 _ ?side1 ?side2 ?side3 ?side4 A32.out).mono ?_
      (case side1 => repeat (first | exact (Kd.R_reads' HO142.out).2.2 | (with_reducible refine Kd.C_alloc ?_ _) | (with_reducible refine Kd.C_drewN ?_ _) | (with_reducible refine Kd.C_drew ?_)))
      (case side2 => exact (Kd.R_reads' HO142.out).2.1)
      (case side3 => repeat (first | exact (Kd.R_reads' HO145.out).2.2 | (with_reducible refine Kd.C_alloc ?_ _) | (with_reducible refine Kd.C_drewN ?_ _) | (with_reducible refine Kd.C_drew ?_)))
      (case side4 => exact (Kd.R_reads' HO145.out).2.1)
      rintro e w48 ⟨v147, rfl, ho0, hb⟩
      refine ⟨_, rfl, ?_⟩
      have n0_ := Aside0.mk (Kd.R_below (by (with_reducible repeat (first | apply Kd.R_alloc | apply Kd.R_drewN | apply Kd.R_drew)); first | exact HO133.out | exact Kd.R_mono HO133.out (fun _ hk => hk.1) | exact Kd.R_mono HO133.out (fun _ _ => trivial)) hb)
      have n1_ := Aside0.mk (Kd.R_elder' (by (with_reducible repeat (first | apply Kd.R_alloc | apply Kd.R_drewN | apply Kd.R_drew)); first | exact HO136.out | exact Kd.R_mono HO136.out (fun _ hk => hk.1) | exact Kd.R_mono HO136.out (fun _ _ => trivial)) (Kd.R_base ho0) hb)
      have n2_ := Aside0.mk (Kd.R_below (by (with_reducible repeat (first | apply Kd.R_alloc | apply Kd.R_drewN | apply Kd.R_drew)); first | exact HO139.out | exact Kd.R_mono HO139.out (fun _ hk => hk.1) | exact Kd.R_mono HO139.out (fun _ _ => trivial)) hb)
      have n3_ := Aside0.mk (Kd.R_elder' (by (with_reducible repeat (first | apply Kd.R_alloc | apply Kd.R_drewN | apply Kd.R_drew)); first | exact HO142.out | exact Kd.R_mono HO142.out (fun _ hk => hk.1) | exact Kd.R_mono HO142.out (fun _ _ => trivial)) (Kd.R_base ho0) hb)
      have n4_ := Aside0.mk (Kd.R_below (by (with_reducible repeat (first | apply Kd.R_alloc | apply Kd.R_drewN | apply Kd.R_drew)); first | exact HO145.out | exact Kd.R_mono HO145.out (fun _ hk => hk.1) | exact Kd.R_mono HO145.out (fun _ _ => trivial)) hb)
      have n5_ := Aside0.mk (Kd.R_lower (Kd.R_new' (Kd.R_new' ho0 (Kd.R_lt (by (with_reducible repeat (first | apply Kd.R_alloc | apply Kd.R_drewN | apply Kd.R_drew)); first | exact HO136.out | exact Kd.R_mono HO136.out (fun _ hk => hk.1) | exact Kd.R_mono HO136.out (fun _ _ => trivial)))) (Kd.R_lt (by (with_reducible repeat (first | apply Kd.R_alloc | apply Kd.R_drewN | apply Kd.R_drew)); first | exact HO142.out | exact Kd.R_mono HO142.out (fun _ hk => hk.1) | exact Kd.R_mono HO142.out (fun _ _ => trivial)))) (below_size (by repeat (first | (with_reducible first | exact HB.out | apply below_alloc | apply pw_below_drewN | apply below_drew1 | refine below_set ?_ GE124.out | refine below_set ?_ GE125.out) | exact HB.out))))
      have n6_ := Aside0.mk (blk_below (g := gb124) (o := .cells #[.string a1_0, .int .u64 a1_1, .bool a1_2] 69 (0, 0)) (by (with_reducible repeat (first | refine blk_drewN ?_ _ | refine blk_drew ?_ | refine blk_alloc ?_ _)); exact BK124.out) hb)
      have n7_ := Aside0.mk (blk_below (g := gb125) (o := .cells #[.string a2_0, .int .u64 a2_1, .bool a2_2] 69 (0, 0)) (by (with_reducible repeat (first | refine blk_drewN ?_ _ | refine blk_drew ?_ | refine blk_alloc ?_ _)); exact BK125.out) hb)
      have n8_ := Aside0.mk (below_step (by repeat (first | (with_reducible first | exact HB.out | apply below_alloc | apply pw_below_drewN | apply below_drew1 | refine below_set ?_ GE124.out | refine below_set ?_ GE125.out) | exact HB.out)) hb)
      clear HO133
      clear HO136
      clear HO139
      clear HO142
      clear HO145
      clear BK124
      clear BK125
      clear HB
      have HO133 := n0_
      have HO136 := n1_
      have HO139 := n2_
      have HO142 := n3_
      have HO145 := n4_
      have HO148 := n5_
      have BK124 := n6_
      have BK125 := n7_
      have HB := n8_
      clear n0_ n1_ n2_ n3_ n4_ n5_ n6_ n7_ n8_
      (try clear hb)
      (try clear hb2)
      (try clear hk)
      (try clear hi)
      (try clear ho0)
      refine hK.out _ _ ⟨v132, v135, v138, .slice Ao46 t140.length co46, .slice Ao47 y143.length co47, v147, m12_, m13_, (by rw [ha.out]; exact putSel_upk 9 hb_ rfl rfl rfl), (by (with_reducible repeat (first | refine blk_drewN ?_ _ | refine blk_drew ?_ | refine blk_alloc ?_ _)); exact BK124.out), (by (with_reducible repeat (first | refine blk_drewN ?_ _ | refine blk_drew ?_ | refine blk_alloc ?_ _)); exact BK125.out), (by repeat (first | (with_reducible first | exact HB.out | apply below_alloc | apply pw_below_drewN | apply below_drew1 | refine below_set ?_ GE124.out | refine below_set ?_ GE125.out) | exact HB.out)), fun _ => (by (with_reducible repeat (first | apply Kd.R_alloc | apply Kd.R_drewN | apply Kd.R_drew)); first | exact HO133.out | exact Kd.R_mono HO133.out (fun _ hk => hk.1) | exact Kd.R_mono HO133.out (fun _ _ => trivial)), fun _ => (by (with_reducible repeat (first | apply Kd.R_alloc | apply Kd.R_drewN | apply Kd.R_drew)); first | exact HO136.out | exact Kd.R_mono HO136.out (fun _ hk => hk.1) | exact Kd.R_mono HO136.out (fun _ _ => trivial)), fun _ => (by (with_reducible repeat (first | apply Kd.R_alloc | apply Kd.R_drewN | apply Kd.R_drew)); first | exact HO139.out | exact Kd.R_mono HO139.out (fun _ hk => hk.1) | exact Kd.R_mono HO139.out (fun _ _ => trivial)), fun _ => (by (with_reducible repeat (first | apply Kd.R_alloc | apply Kd.R_drewN | apply Kd.R_drew)); first | exact HO142.out | exact Kd.R_mono HO142.out (fun _ hk => hk.1) | exact Kd.R_mono HO142.out (fun _ _ => trivial)), fun _ => (by (with_reducible repeat (first | apply Kd.R_alloc | apply Kd.R_drewN | apply Kd.R_drew)); first | exact HO145.out | exact Kd.R_mono HO145.out (fun _ hk => hk.1) | exact Kd.R_mono HO145.out (fun _ _ => trivial)), fun _ => (by (with_reducible repeat (first | apply Kd.R_alloc | apply Kd.R_drewN | apply Kd.R_drew)); (first | exact Kd.R_mono HO148.out (fun _ hk => ⟨hk.1.2, hk.2⟩) | exact Kd.R_mono HO148.out (fun _ hk => hk.2) | exact Kd.R_mono HO148.out (fun _ _ => trivial) | exact HO148.out)), fun h0_ => absurd ((hoff 12 (by kernel_rfl)).symm.trans h0_) (by decide), fun h0_ => absurd ((hoff 13 (by kernel_rfl)).symm.trans h0_) (by decide)⟩
     refine steps_cons ?_ ?_
     ·rintro b a w' ⟨v132, v135, v138, v141, v144, v147, m12_, m13_, ha, Q_BK124, Q_BK125, Q_HB, Q_HO133, Q_HO136, Q_HO139, Q_HO142, Q_HO145, Q_HO148, Q_X12_, Q_X13_⟩ hb_ hon hoff
      refine ⟨_, rfl, fun K hK => ?_⟩
      have e45 : a.tmps[45]? = some (v135) := by rw [ha]; exact putSel_on (e := (4, 45, v135)) 3 rfl rfl (hon 4 (by kernel_rfl)) rfl
      replace ha := Aside0.mk ha
      have BK124 := Aside0.mk Q_BK124
      have BK125 := Aside0.mk Q_BK125
      have HB := Aside0.mk Q_HB
      have HO133 := Aside0.mk (Q_HO133 (hon 3 (by kernel_rfl)))
      have HO136 := Aside0.mk (Q_HO136 (hon 4 (by kernel_rfl)))
      have HO139 := Aside0.mk (Q_HO139 (hon 7 (by kernel_rfl)))
      have HO142 := Aside0.mk (Q_HO142 (hon 8 (by kernel_rfl)))
      have HO145 := Aside0.mk (Q_HO145 (hon 10 (by kernel_rfl)))
      have HO148 := Aside0.mk (Q_HO148 (hon 11 (by kernel_rfl)))
      refine value_ (w1 := w') (v := v135) (by rfl) rfl ?_ ?_
      ·go_simp
       (try simp only [i64_w])
       try rfl
      refine hK.out _ _ ⟨v132, v135, v138, v141, v144, v147, (v135), m13_, (by rw [ha.out]; exact putSel_upk 10 hb_ rfl rfl rfl), Q_BK124, Q_BK125, Q_HB, Q_HO133, Q_HO136, Q_HO139, Q_HO142, Q_HO145, Q_HO148, fun _ => rfl, fun h0_ => absurd ((hoff 13 (by kernel_rfl)).symm.trans h0_) (by decide)⟩
     refine steps_cons ?_ ?_
     ·rintro b a w' ⟨v132, v135, v138, v141, v144, v147, m12_, m13_, ha, Q_BK124, Q_BK125, Q_HB, Q_HO133, Q_HO136, Q_HO139, Q_HO142, Q_HO145, Q_HO148, Q_X12_, Q_X13_⟩ hb_ hon hoff
      refine ⟨_, rfl, fun K hK => ?_⟩
      have e52 : a.tmps[52]? = some (v147) := by rw [ha]; exact putSel_on (e := (11, 52, v147)) 9 rfl rfl (hon 11 (by kernel_rfl)) rfl
      replace ha := Aside0.mk ha
      have BK124 := Aside0.mk Q_BK124
      have BK125 := Aside0.mk Q_BK125
      have HB := Aside0.mk Q_HB
      have HO133 := Aside0.mk (Q_HO133 (hon 3 (by kernel_rfl)))
      have HO136 := Aside0.mk (Q_HO136 (hon 4 (by kernel_rfl)))
      have HO139 := Aside0.mk (Q_HO139 (hon 7 (by kernel_rfl)))
      have HO142 := Aside0.mk (Q_HO142 (hon 8 (by kernel_rfl)))
      have HO145 := Aside0.mk (Q_HO145 (hon 10 (by kernel_rfl)))
      have HO148 := Aside0.mk (Q_HO148 (hon 11 (by kernel_rfl)))
      refine value_ (w1 := w') (v := v147) (by rfl) rfl ?_ ?_
      ·go_simp
       (try simp only [i64_w])
       try rfl
      refine hK.out _ _ ⟨v132, v135, v138, v141, v144, v147, m12_, (v147), (by rw [ha.out]; exact putSel_upk 11 hb_ rfl rfl rfl), Q_BK124, Q_BK125, Q_HB, Q_HO133, Q_HO136, Q_HO139, Q_HO142, Q_HO145, Q_HO148, Q_X12_, fun _ => rfl⟩
     exact steps_nil
    rintro b a w48 hall ⟨v132, v135, v138, v141, v144, v147, m12_, m13_, ha, Q_BK124, Q_BK125, Q_HB, Q_HO133, Q_HO136, Q_HO139, Q_HO142, Q_HO145, Q_HO148, Q_X12_, Q_X13_⟩
    clear BK124 BK125 HB
    have hb1_ := hall 1 (by kernel_rfl)
    have hb2_ := hall 2 (by kernel_rfl)
    have hb3_ := hall 3 (by kernel_rfl)
    have hb4_ := hall 4 (by kernel_rfl)
    have hb6_ := hall 6 (by kernel_rfl)
    have hb7_ := hall 7 (by kernel_rfl)
    have hb8_ := hall 8 (by kernel_rfl)
    have hb9_ := hall 9 (by kernel_rfl)
    have hb10_ := hall 10 (by kernel_rfl)
    have hb11_ := hall 11 (by kernel_rfl)
    have hb12_ := hall 12 (by kernel_rfl)
    have hb13_ := hall 13 (by kernel_rfl)
    subst ha
    obtain rfl := (Q_X12_ hb12_).symm
    obtain rfl := (Q_X13_ hb13_).symm
    simp only [putSel, hb1_, hb2_, hb3_, hb4_, hb6_, hb7_, hb8_, hb9_, hb10_, hb11_, hb12_, hb13_, if_true, Act.put, List.setIfInBounds_toArray, List.set_cons_zero, List.set_cons_succ]
    have BK124 := Aside0.mk Q_BK124
    clear Q_BK124
    have BK125 := Aside0.mk Q_BK125
    clear Q_BK125
    have HB := Aside0.mk Q_HB
    clear Q_HB
    have HO133 := Aside0.mk (Q_HO133 hb3_)
    clear Q_HO133
    have HO136 := Aside0.mk (Q_HO136 hb4_)
    clear Q_HO136
    have HO139 := Aside0.mk (Q_HO139 hb7_)
    clear Q_HO139
    have HO142 := Aside0.mk (Q_HO142 hb8_)
    clear Q_HO142
    have HO145 := Aside0.mk (Q_HO145 hb10_)
    clear Q_HO145
    have HO148 := Aside0.mk (Q_HO148 hb11_)
    clear Q_HO148
    clear hall hb1_ hb2_ hb3_ hb4_ hb6_ hb7_ hb8_ hb9_ hb10_ hb11_ hb12_ hb13_
    go_upto_region 4 with (fail)
    go_cut [63] (fun v63 wc => ∃ (kq : Nat) (x63_32 : Bool), v63 = .bool x63_32 ∧ Aside0 (folkmootlaw08_TxnWrites.j1 kq l0 t134 x63_32 a1_0 a1_1 a1_2 a2_0 a2_1 a2_2 = some r) ∧ Aside0 (kq ≤ kj3) ∧ Aside0 (Kd.R k61 61 wc w.heap.size (fun _ => True) v135 t134) ∧ Aside0 (wc.heap[gb124]? = some (.cells #[.string a1_0, .int .u64 a1_1, .bool a1_2] 69 (0, 0))) ∧ Aside0 (wc.heap[gb125]? = some (.cells #[.string a2_0, .int .u64 a2_1, .bool a2_2] 69 (0, 0))) ∧ Aside0 (Below w.heap.size w wc))
    case first =>
     have H := HC33.out
     clear HC33
     by_cases c49 : a1_0.toList = a2_0.toList
     ·rw [if_pos c49] at H
      have c49b0 : (a1_0.toList == a2_0.toList) = true := beq_iff_eq.mpr c49
      have c49b1 : (a1_0.toList != a2_0.toList) = false := bne_eq_false_iff_eq.mpr c49
      clear c49
      (first | rw [c49b0] | (simp only [i64_w, i32_w]; rw [c49b0]) | skip)
      have H' := Aside0.mk H
      clear H
      have hnb50 := NB124_125.out
      have hnc50 := NB125_124.out
      have hcz51_0 : w48.cell? ⟨gb124, 0, none⟩ = some (.string a1_0) := (blk_cell BK124.out 0).trans rfl
      have hcz51_1 : w48.cell? ⟨gb124, 1, none⟩ = some (.int .u64 a1_1) := (blk_cell BK124.out 1).trans rfl
      have hcz51_2 : w48.cell? ⟨gb124, 2, none⟩ = some (.bool a1_2) := (blk_cell BK124.out 2).trans rfl
      have hfz51_0 := blk_frozen BK124.out 0
      have hfz51_1 := blk_frozen BK124.out 1
      have hfz51_2 := blk_frozen BK124.out 2
      have hcz52_0 : w48.cell? ⟨gb125, 0, none⟩ = some (.string a2_0) := (blk_cell BK125.out 0).trans rfl
      have hcz52_1 : w48.cell? ⟨gb125, 1, none⟩ = some (.int .u64 a2_1) := (blk_cell BK125.out 1).trans rfl
      have hcz52_2 : w48.cell? ⟨gb125, 2, none⟩ = some (.bool a2_2) := (blk_cell BK125.out 2).trans rfl
      have hfz52_0 := blk_frozen BK125.out 0
      have hfz52_1 := blk_frozen BK125.out 1
      have hfz52_2 := blk_frozen BK125.out 2
      go_wp2
      first
      | (go_meet; case rel => exact ⟨_, (false), (by first | rfl | (rw [bl_gt] <;> rfl) | (simp; done) | (simp [*]; done)), H', ⟨by have := HJ3.out; first | omega | exact Nat.le_refl _⟩, ⟨by (with_reducible repeat (first | apply Kd.R_alloc | apply Kd.R_drewN | apply Kd.R_drew)); exact Kd.R_mono HO136.out (fun _ hk => trivial)⟩, ⟨by (with_reducible repeat (first | refine blk_drewN ?_ _ | refine blk_drew ?_ | refine blk_alloc ?_ _)); exact BK124.out⟩, ⟨by (with_reducible repeat (first | refine blk_drewN ?_ _ | refine blk_drew ?_ | refine blk_alloc ?_ _)); exact BK125.out⟩, ⟨by repeat (first | (with_reducible first | exact HB.out | apply below_alloc | apply pw_below_drewN | apply below_drew1 | refine below_set ?_ GE124.out | refine below_set ?_ GE125.out) | exact HB.out)⟩⟩)
      | (refine Met.intro ?_; go_step; (repeat apply Exists.intro); refine ⟨?_, ?_⟩; rotate_left; (focus (simp only [c49b0]; try rfl)); exact ⟨_, (false), (by first | rfl | (rw [bl_gt] <;> rfl) | (simp; done) | (simp [*]; done)), H', ⟨by have := HJ3.out; first | omega | exact Nat.le_refl _⟩, ⟨by (with_reducible repeat (first | apply Kd.R_alloc | apply Kd.R_drewN | apply Kd.R_drew)); exact Kd.R_mono HO136.out (fun _ hk => trivial)⟩, ⟨by (with_reducible repeat (first | refine blk_drewN ?_ _ | refine blk_drew ?_ | refine blk_alloc ?_ _)); exact BK124.out⟩, ⟨by (with_reducible repeat (first | refine blk_drewN ?_ _ | refine blk_drew ?_ | refine blk_alloc ?_ _)); exact BK125.out⟩, ⟨by repeat (first | (with_reducible first | exact HB.out | apply below_alloc | apply pw_below_drewN | apply below_drew1 | refine below_set ?_ GE124.out | refine below_set ?_ GE125.out) | exact HB.out)⟩⟩)
     ·rw [if_neg c49] at H
      have c49b0 : (a1_0.toList == a2_0.toList) = false := beq_eq_false_iff_ne.mpr c49
      have c49b1 : (a1_0.toList != a2_0.toList) = true := bne_iff_ne.mpr c49
      (first | rw [c49b0] | (simp only [i64_w, i32_w]; rw [c49b0]) | skip)
      replace H := Option.bind_eq_some_iff.mp H
      obtain ⟨t149, A530, H⟩ := H
      replace H : (folkmootlaw08_TxnWrites.j1 kj3 l0 t134 (!t149) a1_0 a1_1 a1_2 a2_0 a2_1 a2_2) = some r := H
      have A53 := Aside0.mk A530
      clear A530
      have H' := Aside0.mk H
      clear H
      have hnb54 := NB124_125.out
      have hnc54 := NB125_124.out
      have hcz55_0 : w48.cell? ⟨gb124, 0, none⟩ = some (.string a1_0) := (blk_cell BK124.out 0).trans rfl
      have hcz55_1 : w48.cell? ⟨gb124, 1, none⟩ = some (.int .u64 a1_1) := (blk_cell BK124.out 1).trans rfl
      have hcz55_2 : w48.cell? ⟨gb124, 2, none⟩ = some (.bool a1_2) := (blk_cell BK124.out 2).trans rfl
      have hfz55_0 := blk_frozen BK124.out 0
      have hfz55_1 := blk_frozen BK124.out 1
      have hfz55_2 := blk_frozen BK124.out 2
      have hcz56_0 : w48.cell? ⟨gb125, 0, none⟩ = some (.string a2_0) := (blk_cell BK125.out 0).trans rfl
      have hcz56_1 : w48.cell? ⟨gb125, 1, none⟩ = some (.int .u64 a2_1) := (blk_cell BK125.out 1).trans rfl
      have hcz56_2 : w48.cell? ⟨gb125, 2, none⟩ = some (.bool a2_2) := (blk_cell BK125.out 2).trans rfl
      have hfz56_0 := blk_frozen BK125.out 0
      have hfz56_1 := blk_frozen BK125.out 1
      have hfz56_2 := blk_frozen BK125.out 2
      obtain ⟨Ao57, co57, eo57⟩ := Kd.R_slice HO136.out
      subst eo57
      obtain ⟨Ao58, co58, eo58⟩ := Kd.R_slice HO148.out
      subst eo58
      go_wp2_with (first | (go_at_call 31; (with_reducible refine (folkmootref08_Pairs.calls kj3 _ _ t134 _ _ t146 t149 _ ?side1 ?side2 ?side3 ?side4 A53.out).mono ?_); (case side1 => repeat (first | exact (Kd.R_reads' HO136.out).2.2 | (with_reducible refine Kd.C_alloc ?_ _) | (with_reducible refine Kd.C_drewN ?_ _) | (with_reducible refine Kd.C_drew ?_))); (case side2 => exact (Kd.R_reads' HO136.out).2.1); (case side3 => repeat (first | exact (Kd.R_reads' HO148.out).2.2 | (with_reducible refine Kd.C_alloc ?_ _) | (with_reducible refine Kd.C_drewN ?_ _) | (with_reducible refine Kd.C_drew ?_))); (case side4 => exact (Kd.R_reads' HO148.out).2.1); rintro e w' ⟨rfl, ⟨nd, rfl⟩⟩))
      first
      | (go_meet; case rel => exact ⟨_, (!t149), (by first | rfl | (rw [bl_gt] <;> rfl) | (simp; done) | (simp [*]; done)), H', ⟨by have := HJ3.out; first | omega | exact Nat.le_refl _⟩, ⟨by (with_reducible repeat (first | apply Kd.R_alloc | apply Kd.R_drewN | apply Kd.R_drew)); exact Kd.R_mono HO136.out (fun _ hk => trivial)⟩, ⟨by (with_reducible repeat (first | refine blk_drewN ?_ _ | refine blk_drew ?_ | refine blk_alloc ?_ _)); exact BK124.out⟩, ⟨by (with_reducible repeat (first | refine blk_drewN ?_ _ | refine blk_drew ?_ | refine blk_alloc ?_ _)); exact BK125.out⟩, ⟨by repeat (first | (with_reducible first | exact HB.out | apply below_alloc | apply pw_below_drewN | apply below_drew1 | refine below_set ?_ GE124.out | refine below_set ?_ GE125.out) | exact HB.out)⟩⟩)
      | (refine Met.intro ?_; go_step; (repeat apply Exists.intro); refine ⟨?_, ?_⟩; rotate_left; (focus (simp only [c49b0]; try rfl)); exact ⟨_, (!t149), (by first | rfl | (rw [bl_gt] <;> rfl) | (simp; done) | (simp [*]; done)), H', ⟨by have := HJ3.out; first | omega | exact Nat.le_refl _⟩, ⟨by (with_reducible repeat (first | apply Kd.R_alloc | apply Kd.R_drewN | apply Kd.R_drew)); exact Kd.R_mono HO136.out (fun _ hk => trivial)⟩, ⟨by (with_reducible repeat (first | refine blk_drewN ?_ _ | refine blk_drew ?_ | refine blk_alloc ?_ _)); exact BK124.out⟩, ⟨by (with_reducible repeat (first | refine blk_drewN ?_ _ | refine blk_drew ?_ | refine blk_alloc ?_ _)); exact BK125.out⟩, ⟨by repeat (first | (with_reducible first | exact HB.out | apply below_alloc | apply pw_below_drewN | apply below_drew1 | refine below_set ?_ GE124.out | refine below_set ?_ GE125.out) | exact HB.out)⟩⟩)
    case rest =>
     clear HC33
     try clear c1
     try clear c2
     try clear p2
     try clear c3
     try clear c4
     try clear c5
     try clear p6
     try clear c8
     try clear c10
     try clear c12
     try clear c13
     try clear c14
     try clear c16
     try clear c20
     try clear c24
     try clear c27
     try clear c32
     try clear c49
     try clear c49b0
     try clear c49b1
     try clear c50
     try clear c54
     try clear hcz17_0
     try clear hcz17_1
     try clear hcz17_2
     try clear hcz18_0
     try clear hcz18_1
     try clear hcz18_2
     try clear hcz21_0
     try clear hcz21_1
     try clear hcz21_2
     try clear hcz22_0
     try clear hcz22_1
     try clear hcz22_2
     try clear hcz25_0
     try clear hcz25_1
     try clear hcz25_2
     try clear hcz51_0
     try clear hcz51_1
     try clear hcz51_2
     try clear hcz52_0
     try clear hcz52_1
     try clear hcz52_2
     try clear hcz55_0
     try clear hcz55_1
     try clear hcz55_2
     try clear hcz56_0
     try clear hcz56_1
     try clear hcz56_2
     try clear hfz17_0
     try clear hfz17_1
     try clear hfz17_2
     try clear hfz18_0
     try clear hfz18_1
     try clear hfz18_2
     try clear hfz21_0
     try clear hfz21_1
     try clear hfz21_2
     try clear hfz22_0
     try clear hfz22_1
     try clear hfz22_2
     try clear hfz25_0
     try clear hfz25_1
     try clear hfz25_2
     try clear hfz51_0
     try clear hfz51_1
     try clear hfz51_2
     try clear hfz52_0
     try clear hfz52_1
     try clear hfz52_2
     try clear hfz55_0
     try clear hfz55_1
     try clear hfz55_2
     try clear hfz56_0
     try clear hfz56_1
     try clear hfz56_2
     try clear p2
     try clear p6
     obtain ⟨kq, x63_32, rfl, HA, HJ32, HO_7, BK124, BK125, HB⟩ := hcut
     cases kq with
     | zero => exact absurd HA.out (by simp [folkmootlaw08_TxnWrites.j1])
     | succ kj32 =>
      have H := HA.out
      clear HA
      simp only [folkmootlaw08_TxnWrites.j1] at H
      by_cases c59 : x63_32 = true
      ·subst c59
       have H1 : (some false) = some r := by rw [if_pos rfl] at H; exact H
       exact absurd ((Option.some.inj H1).trans hr_.out) (by decide)
      ·replace c59 := Bool.eq_false_iff.mpr c59
       subst c59
       have H1 : ((txn_Apply.f l0 (([(⟨a2_0, a2_1, a2_2⟩ : S69)] : List (S69)))).bind fun t153 => (if a1_0.toList = a2_0.toList then ((folkmootref08_Pairs.f kj32 t134 t153).bind fun t156 => (if t156 = true then ((txn_Apply.f t153 (([(⟨a2_0, a2_1, a2_2⟩ : S69)] : List (S69)))).bind fun t160 => ((folkmootref08_Pairs.f kj32 t160 t153).bind fun t163 => (if t163 = true then (if a2_0.size + 1 ≤ 9223372036854775807 then ((txn_Pick.f t153 (([(⟨a2_0, a2_0 ++ (⟨#[0]⟩ : ByteArray)⟩ : S71)] : List (S71)))).bind fun t167 => (if (((t167.length : Int) == 0) == a2_2) = true then ((folkmootlaw08_live.f).bind fun t170 => (some t170)) else (some false))) else (none)) else (some false)))) else (some false))) else ((txn_Apply.f t153 (([(⟨a2_0, a2_1, a2_2⟩ : S69)] : List (S69)))).bind fun t174 => ((folkmootref08_Pairs.f kj32 t174 t153).bind fun t177 => (if t177 = true then (if a2_0.size + 1 ≤ 9223372036854775807 then ((txn_Pick.f t153 (([(⟨a2_0, a2_0 ++ (⟨#[0]⟩ : ByteArray)⟩ : S71)] : List (S71)))).bind fun t181 => (if (((t181.length : Int) == 0) == a2_2) = true then ((folkmootlaw08_live.f).bind fun t184 => (some t184)) else (some false))) else (none)) else (some false)))))) = some r := by rw [if_neg (show ¬ (false = true) by decide)] at H; exact H
       clear H
       have H := H1
       clear H1
       obtain ⟨y150, hy150⟩ : ∃ y_ : List (S69), y_ = (([(⟨a2_0, a2_1, a2_2⟩ : S69)] : List (S69))) := ⟨_, rfl⟩
       replace H : ((txn_Apply.f l0 y150).bind fun t153 => (if a1_0.toList = a2_0.toList then ((folkmootref08_Pairs.f kj32 t134 t153).bind fun t156 => (if t156 = true then ((txn_Apply.f t153 (([(⟨a2_0, a2_1, a2_2⟩ : S69)] : List (S69)))).bind fun t160 => ((folkmootref08_Pairs.f kj32 t160 t153).bind fun t163 => (if t163 = true then (if a2_0.size + 1 ≤ 9223372036854775807 then ((txn_Pick.f t153 (([(⟨a2_0, a2_0 ++ (⟨#[0]⟩ : ByteArray)⟩ : S71)] : List (S71)))).bind fun t167 => (if (((t167.length : Int) == 0) == a2_2) = true then ((folkmootlaw08_live.f).bind fun t170 => (some t170)) else (some false))) else (none)) else (some false)))) else (some false))) else ((txn_Apply.f t153 (([(⟨a2_0, a2_1, a2_2⟩ : S69)] : List (S69)))).bind fun t174 => ((folkmootref08_Pairs.f kj32 t174 t153).bind fun t177 => (if t177 = true then (if a2_0.size + 1 ≤ 9223372036854775807 then ((txn_Pick.f t153 (([(⟨a2_0, a2_0 ++ (⟨#[0]⟩ : ByteArray)⟩ : S71)] : List (S71)))).bind fun t181 => (if (((t181.length : Int) == 0) == a2_2) = true then ((folkmootlaw08_live.f).bind fun t184 => (some t184)) else (some false))) else (none)) else (some false)))))) = some r := by first | (rw [hy150]; with_reducible exact H) | (have H2_ := (Option.bind_some _ _).symm.trans H; rw [hy150]; with_reducible exact H2_) | (have H2_ := (Option.bind_some _ _).symm.trans H; with_reducible exact H2_) | with_reducible exact H | (rw [hy150]; exact H) | exact H
       have Ny150 := Aside0.mk hy150
       clear hy150
       replace H := Option.bind_eq_some_iff.mp H
       obtain ⟨t153, A600, H⟩ := H
       replace H : (if a1_0.toList = a2_0.toList then ((folkmootref08_Pairs.f kj32 t134 t153).bind fun t156 => (if t156 = true then ((txn_Apply.f t153 (([(⟨a2_0, a2_1, a2_2⟩ : S69)] : List (S69)))).bind fun t160 => ((folkmootref08_Pairs.f kj32 t160 t153).bind fun t163 => (if t163 = true then (if a2_0.size + 1 ≤ 9223372036854775807 then ((txn_Pick.f t153 (([(⟨a2_0, a2_0 ++ (⟨#[0]⟩ : ByteArray)⟩ : S71)] : List (S71)))).bind fun t167 => (if (((t167.length : Int) == 0) == a2_2) = true then ((folkmootlaw08_live.f).bind fun t170 => (some t170)) else (some false))) else (none)) else (some false)))) else (some false))) else ((txn_Apply.f t153 (([(⟨a2_0, a2_1, a2_2⟩ : S69)] : List (S69)))).bind fun t174 => ((folkmootref08_Pairs.f kj32 t174 t153).bind fun t177 => (if t177 = true then (if a2_0.size + 1 ≤ 9223372036854775807 then ((txn_Pick.f t153 (([(⟨a2_0, a2_0 ++ (⟨#[0]⟩ : ByteArray)⟩ : S71)] : List (S71)))).bind fun t181 => (if (((t181.length : Int) == 0) == a2_2) = true then ((folkmootlaw08_live.f).bind fun t184 => (some t184)) else (some false))) else (none)) else (some false))))) = some r := H
       have A60 := Aside0.mk A600
       clear A600
       by_cases c61 : a1_0.toList = a2_0.toList
       ·rw [if_pos c61] at H
        have c61b0 : (a1_0.toList == a2_0.toList) = true := beq_iff_eq.mpr c61
        have c61b1 : (a1_0.toList != a2_0.toList) = false := bne_eq_false_iff_eq.mpr c61
        clear c61
        replace H := Option.bind_eq_some_iff.mp H
        obtain ⟨t156, A620, H⟩ := H
        replace H : (if t156 = true then ((txn_Apply.f t153 (([(⟨a2_0, a2_1, a2_2⟩ : S69)] : List (S69)))).bind fun t160 => ((folkmootref08_Pairs.f kj32 t160 t153).bind fun t163 => (if t163 = true then (if a2_0.size + 1 ≤ 9223372036854775807 then ((txn_Pick.f t153 (([(⟨a2_0, a2_0 ++ (⟨#[0]⟩ : ByteArray)⟩ : S71)] : List (S71)))).bind fun t167 => (if (((t167.length : Int) == 0) == a2_2) = true then ((folkmootlaw08_live.f).bind fun t170 => (some t170)) else (some false))) else (none)) else (some false)))) else (some false)) = some r := H
        have A62 := Aside0.mk A620
        clear A620
        by_cases c63 : t156 = true
        ·subst c63
         have H1 : ((txn_Apply.f t153 (([(⟨a2_0, a2_1, a2_2⟩ : S69)] : List (S69)))).bind fun t160 => ((folkmootref08_Pairs.f kj32 t160 t153).bind fun t163 => (if t163 = true then (if a2_0.size + 1 ≤ 9223372036854775807 then ((txn_Pick.f t153 (([(⟨a2_0, a2_0 ++ (⟨#[0]⟩ : ByteArray)⟩ : S71)] : List (S71)))).bind fun t167 => (if (((t167.length : Int) == 0) == a2_2) = true then ((folkmootlaw08_live.f).bind fun t170 => (some t170)) else (some false))) else (none)) else (some false)))) = some r := by rw [if_pos rfl] at H; exact H
         clear H
         have H := H1
         clear H1
         obtain ⟨y157, hy157⟩ : ∃ y_ : List (S69), y_ = (([(⟨a2_0, a2_1, a2_2⟩ : S69)] : List (S69))) := ⟨_, rfl⟩
         replace H : ((txn_Apply.f t153 y157).bind fun t160 => ((folkmootref08_Pairs.f kj32 t160 t153).bind fun t163 => (if t163 = true then (if a2_0.size + 1 ≤ 9223372036854775807 then ((txn_Pick.f t153 (([(⟨a2_0, a2_0 ++ (⟨#[0]⟩ : ByteArray)⟩ : S71)] : List (S71)))).bind fun t167 => (if (((t167.length : Int) == 0) == a2_2) = true then ((folkmootlaw08_live.f).bind fun t170 => (some t170)) else (some false))) else (none)) else (some false)))) = some r := by first | (rw [hy157]; with_reducible exact H) | (have H2_ := (Option.bind_some _ _).symm.trans H; rw [hy157]; with_reducible exact H2_) | (have H2_ := (Option.bind_some _ _).symm.trans H; with_reducible exact H2_) | with_reducible exact H | (rw [hy157]; exact H) | exact H
         have Ny157 := Aside0.mk hy157
         clear hy157
         replace H := Option.bind_eq_some_iff.mp H
         obtain ⟨t160, A640, H⟩ := H
         replace H : ((folkmootref08_Pairs.f kj32 t160 t153).bind fun t163 => (if t163 = true then (if a2_0.size + 1 ≤ 9223372036854775807 then ((txn_Pick.f t153 (([(⟨a2_0, a2_0 ++ (⟨#[0]⟩ : ByteArray)⟩ : S71)] : List (S71)))).bind fun t167 => (if (((t167.length : Int) == 0) == a2_2) = true then ((folkmootlaw08_live.f).bind fun t170 => (some t170)) else (some false))) else (none)) else (some false))) = some r := H
         have A64 := Aside0.mk A640
         clear A640
         replace H := Option.bind_eq_some_iff.mp H
         obtain ⟨t163, A650, H⟩ := H
         replace H : (if t163 = true then (if a2_0.size + 1 ≤ 9223372036854775807 then ((txn_Pick.f t153 (([(⟨a2_0, a2_0 ++ (⟨#[0]⟩ : ByteArray)⟩ : S71)] : List (S71)))).bind fun t167 => (if (((t167.length : Int) == 0) == a2_2) = true then ((folkmootlaw08_live.f).bind fun t170 => (some t170)) else (some false))) else (none)) else (some false)) = some r := H
         have A65 := Aside0.mk A650
         clear A650
         by_cases c66 : t163 = true
         ·subst c66
          have H1 : (if a2_0.size + 1 ≤ 9223372036854775807 then ((txn_Pick.f t153 (([(⟨a2_0, a2_0 ++ (⟨#[0]⟩ : ByteArray)⟩ : S71)] : List (S71)))).bind fun t167 => (if (((t167.length : Int) == 0) == a2_2) = true then ((folkmootlaw08_live.f).bind fun t170 => (some t170)) else (some false))) else (none)) = some r := by rw [if_pos rfl] at H; exact H
          clear H
          have H := H1
          clear H1
          by_cases c67 : a2_0.size + 1 ≤ 9223372036854775807
          ·rw [if_pos c67] at H
           have c67b0 := eq_true c67
           have c67b1 : decide (a2_0.size + 1 ≤ 9223372036854775807) = true := decide_eq_true c67
           try have c67b2 : (9223372036854775807 < a2_0.size + 1) = False := eq_false (Nat.not_lt.2 c67)
           obtain ⟨y164, hy164⟩ : ∃ y_ : List (S71), y_ = (([(⟨a2_0, a2_0 ++ (⟨#[0]⟩ : ByteArray)⟩ : S71)] : List (S71))) := ⟨_, rfl⟩
           replace H : ((txn_Pick.f t153 y164).bind fun t167 => (if (((t167.length : Int) == 0) == a2_2) = true then ((folkmootlaw08_live.f).bind fun t170 => (some t170)) else (some false))) = some r := by first | (rw [hy164]; with_reducible exact H) | (have H2_ := (Option.bind_some _ _).symm.trans H; rw [hy164]; with_reducible exact H2_) | (have H2_ := (Option.bind_some _ _).symm.trans H; with_reducible exact H2_) | with_reducible exact H | (rw [hy164]; exact H) | exact H
           have Ny164 := Aside0.mk hy164
           clear hy164
           replace H := Option.bind_eq_some_iff.mp H
           obtain ⟨t167, A680, H⟩ := H
           replace H : (if (((t167.length : Int) == 0) == a2_2) = true then ((folkmootlaw08_live.f).bind fun t170 => (some t170)) else (some false)) = some r := H
           have A68 := Aside0.mk A680
           clear A680
           by_cases c69 : (((t167.length : Int) == 0) == a2_2) = true
           ·rw [if_pos c69] at H
            have c69b0 : (((t167.length : Int) == 0) == a2_2) = true := c69
            (try (have c69b1 : decide (((t167.length : Int) == 0) = a2_2) = true := by simpa using c69))
            (try (have c69b2 : (((t167.length : Int) == 0) == a2_2) = true := by simpa using c69))
            clear c69
            replace H := Option.bind_eq_some_iff.mp H
            obtain ⟨t170, A700, H⟩ := H
            replace H : (some t170) = some r := H
            have A70 := Aside0.mk A700
            clear A700
            obtain rfl := Option.some.inj H
            have hnb71 := NB125_124.out
            have hnc71 := NB124_125.out
            have hcz72_0 : wc.cell? ⟨gb125, 0, none⟩ = some (.string a2_0) := (blk_cell BK125.out 0).trans rfl
            have hcz72_1 : wc.cell? ⟨gb125, 1, none⟩ = some (.int .u64 a2_1) := (blk_cell BK125.out 1).trans rfl
            have hcz72_2 : wc.cell? ⟨gb125, 2, none⟩ = some (.bool a2_2) := (blk_cell BK125.out 2).trans rfl
            have hfz72_0 := blk_frozen BK125.out 0
            have hfz72_1 := blk_frozen BK125.out 1
            have hfz72_2 := blk_frozen BK125.out 2
            try go_wp2_with (first | ((with_reducible refine gate_dst (N := 66) rfl ?_); (try (refine gate_guard (by rfl) ?_; dsimp only)); refine Kd.R_lit k69 _ 69 ?hg (N := 66) ?hd (xs := ([(⟨a2_0, a2_1, a2_2⟩ : S69)] : List (S69))) (inner := [.string a2_0, .int .u64 a2_1, .bool a2_2]) (ok := fun _ => True) (okp := fun _ => True) ?hr ?hp (fun _ hk => hk) trivial (Below.refl _ _) (Nat.le_refl _) (by simp) ?_; (case hd => rfl); (case hg => rfl); (case hr => first | (go_simp; done) | (go_simp; rfl)); (case hp => exact (Reps.c3 (show Kd.M k69 _ _ _ (⟨a2_0, a2_1, a2_2⟩ : S69) [.string a2_0, .int .u64 a2_1, .bool a2_2] from (k69_mkM _ _ _ (⟨a2_0, a2_1, a2_2⟩ : S69) )) (Reps.none _ _))); intro v151 w73 ho74 hb hg_ hnew_; clear hg_ hnew_; (first | rw [← Ny150.out] at ho74 | (simp only [Int.reduceToNat] at ho74; rw [← Ny150.out] at ho74)); have n0_ := Aside0.mk (Kd.R_below (by (with_reducible repeat (first | apply Kd.R_alloc | apply Kd.R_drewN | apply Kd.R_drew)); first | exact HO_7.out | exact Kd.R_mono HO_7.out (fun _ hk => hk.1) | exact Kd.R_mono HO_7.out (fun _ _ => trivial)) hb); have n1_ := Aside0.mk (Kd.R_lower (Kd.R_newB (Kd.R_newB ho74 (g := gb124) (o := .cells #[.string a1_0, .int .u64 a1_1, .bool a1_2] 69 (0, 0)) (by (with_reducible repeat (first | refine blk_drewN ?_ _ | refine blk_drew ?_ | refine blk_alloc ?_ _)); exact BK124.out)) (g := gb125) (o := .cells #[.string a2_0, .int .u64 a2_1, .bool a2_2] 69 (0, 0)) (by (with_reducible repeat (first | refine blk_drewN ?_ _ | refine blk_drew ?_ | refine blk_alloc ?_ _)); exact BK125.out)) (below_size (by repeat (first | (with_reducible first | exact HB.out | apply below_alloc | apply pw_below_drewN | apply below_drew1 | refine below_set ?_ GE124.out | refine below_set ?_ GE125.out) | exact HB.out)))); have n2_ := Aside0.mk (blk_below (g := gb124) (o := .cells #[.string a1_0, .int .u64 a1_1, .bool a1_2] 69 (0, 0)) (by (with_reducible repeat (first | refine blk_drewN ?_ _ | refine blk_drew ?_ | refine blk_alloc ?_ _)); exact BK124.out) hb); have n3_ := Aside0.mk (blk_below (g := gb125) (o := .cells #[.string a2_0, .int .u64 a2_1, .bool a2_2] 69 (0, 0)) (by (with_reducible repeat (first | refine blk_drewN ?_ _ | refine blk_drew ?_ | refine blk_alloc ?_ _)); exact BK125.out) hb); have n4_ := Aside0.mk (below_step (by repeat (first | (with_reducible first | exact HB.out | apply below_alloc | apply pw_below_drewN | apply below_drew1 | refine below_set ?_ GE124.out | refine below_set ?_ GE125.out) | exact HB.out)) hb); clear HO_7; clear BK124; clear BK125; clear HB; have HO_7 := n0_; have HO152 := n1_; have BK124 := n2_; have BK125 := n3_; have HB := n4_; clear n0_ n1_ n2_ n3_ n4_; clear hb ho74; obtain ⟨Ao75, co75, eo75⟩ := Kd.R_slice HO152.out; subst eo75) | ((with_reducible refine gate_callee (f := 32) rfl ?_); refine goesL_ (some 67) rfl rfl Tryz.func32 (by kernel_rfl) rfl #[.slice A0 l0.length c0, .slice Ao75 y150.length co75] rfl (by (try simp only [List.map_toArray, List.map_cons, List.map_nil]); first | done | rfl | (simp only [List.length_drop, List.length_take]; rfl)) ?_; (with_reducible refine (txn_Apply.calls _ _ l0 _ _ y150 t153 _ ?side1 ?side2 ?side3 ?side4 A60.out).mono ?_); (case side1 => repeat (first | exact (Kd.C_below HR0.out HB.out) | (with_reducible refine Kd.C_alloc ?_ _) | (with_reducible refine Kd.C_drewN ?_ _) | (with_reducible refine Kd.C_drew ?_))); (case side2 => exact HC0.out); (case side3 => repeat (first | exact (Kd.R_reads' HO152.out).2.2 | (with_reducible refine Kd.C_alloc ?_ _) | (with_reducible refine Kd.C_drewN ?_ _) | (with_reducible refine Kd.C_drew ?_))); (case side4 => exact (Kd.R_reads' HO152.out).2.1); rintro e w76 ⟨v154, rfl, ho0, hb⟩; refine ⟨_, rfl, ?_⟩; have n0_ := Aside0.mk (Kd.R_elder' (by (with_reducible repeat (first | apply Kd.R_alloc | apply Kd.R_drewN | apply Kd.R_drew)); first | exact HO_7.out | exact Kd.R_mono HO_7.out (fun _ hk => hk.1) | exact Kd.R_mono HO_7.out (fun _ _ => trivial)) (Kd.R_base ho0) hb); have n1_ := Aside0.mk (Kd.R_below (by (with_reducible repeat (first | apply Kd.R_alloc | apply Kd.R_drewN | apply Kd.R_drew)); first | exact HO152.out | exact Kd.R_mono HO152.out (fun _ hk => hk.1) | exact Kd.R_mono HO152.out (fun _ _ => trivial)) hb); have n2_ := Aside0.mk (Kd.R_lower (Kd.R_new' ho0 (Kd.R_lt (by (with_reducible repeat (first | apply Kd.R_alloc | apply Kd.R_drewN | apply Kd.R_drew)); first | exact HO_7.out | exact Kd.R_mono HO_7.out (fun _ hk => hk.1) | exact Kd.R_mono HO_7.out (fun _ _ => trivial)))) (below_size (by repeat (first | (with_reducible first | exact HB.out | apply below_alloc | apply pw_below_drewN | apply below_drew1 | refine below_set ?_ GE124.out | refine below_set ?_ GE125.out) | exact HB.out)))); have n3_ := Aside0.mk (blk_below (g := gb124) (o := .cells #[.string a1_0, .int .u64 a1_1, .bool a1_2] 69 (0, 0)) (by (with_reducible repeat (first | refine blk_drewN ?_ _ | refine blk_drew ?_ | refine blk_alloc ?_ _)); exact BK124.out) hb); have n4_ := Aside0.mk (blk_below (g := gb125) (o := .cells #[.string a2_0, .int .u64 a2_1, .bool a2_2] 69 (0, 0)) (by (with_reducible repeat (first | refine blk_drewN ?_ _ | refine blk_drew ?_ | refine blk_alloc ?_ _)); exact BK125.out) hb); have n5_ := Aside0.mk (below_step (by repeat (first | (with_reducible first | exact HB.out | apply below_alloc | apply pw_below_drewN | apply below_drew1 | refine below_set ?_ GE124.out | refine below_set ?_ GE125.out) | exact HB.out)) hb); clear HO_7; clear HO152; clear BK124; clear BK125; clear HB; have HO_7 := n0_; have HO152 := n1_; have HO155 := n2_; have BK124 := n3_; have BK125 := n4_; have HB := n5_; clear n0_ n1_ n2_ n3_ n4_ n5_; (try clear hb); (try clear hb2); (try clear hk); (try clear hi); (try clear ho0)))
            have n0_ := Aside0.mk (Kd.R_drew HO_7.out)
            have n1_ := Aside0.mk (Kd.R_drew HO152.out)
            have n2_ := Aside0.mk (Kd.R_drew HO155.out)
            have n3_ := Aside0.mk (blk_drew BK124.out)
            have n4_ := Aside0.mk (blk_drew BK125.out)
            have n5_ := Aside0.mk (below_drew1 HB.out)
            clear HO_7
            clear HO152
            clear HO155
            clear BK124
            clear BK125
            clear HB
            have HO_7 := n0_
            have HO152 := n1_
            have HO155 := n2_
            have BK124 := n3_
            have BK125 := n4_
            have HB := n5_
            clear n0_ n1_ n2_ n3_ n4_ n5_
            obtain ⟨Ao78, co78, eo78⟩ := Kd.R_slice HO_7.out
            (first | subst eo78 | (injection eo78 with f1_ f2_ f3_; have f4_ := f1_.symm; have f5_ := f3_.symm; clear f1_ f2_ f3_; subst f4_; subst f5_))
            obtain ⟨Ao79, co79, eo79⟩ := Kd.R_slice HO155.out
            (first | subst eo79 | (injection eo79 with f1_ f2_ f3_; have f4_ := f1_.symm; have f5_ := f3_.symm; clear f1_ f2_ f3_; subst f4_; subst f5_))
            refine start_ (n := 38) (S := fun w' => w'.cell? ⟨gb124, 0, none⟩ = some (.string a1_0) ∧ w'.cell? ⟨gb124, 1, none⟩ = some (.int .u64 a1_1) ∧ w'.cell? ⟨gb124, 2, none⟩ = some (.bool a1_2) ∧ w'.cell? ⟨gb125, 0, none⟩ = some (.string a2_0) ∧ w'.cell? ⟨gb125, 1, none⟩ = some (.int .u64 a2_1) ∧ w'.cell? ⟨gb125, 2, none⟩ = some (.bool a2_2)) (ds := []) #[false,false,false,false,false,false,false,false,false,false,false,false,false,false,false,false,false,false,false,false,false,false,false,false,false,false,false,false,false,false,false,false,false,false,false,false,false,false] (by kernel_rfl) rfl rfl ⟨(blk_cell BK124.out 0).trans rfl, (blk_cell BK124.out 1).trans rfl, (blk_cell BK124.out 2).trans rfl, (blk_cell BK125.out 0).trans rfl, (blk_cell BK125.out 1).trans rfl, (blk_cell BK125.out 2).trans rfl⟩ (fun hHeld => ?_); refine with_tabW folkmootlaw08_TxnWrites.tab7 folkmootlaw08_TxnWrites.bits7 (fun HT_ HW_ => ?_)
            generalize w76.drew = w77 at HO_7 HO152 HO155 BK124 BK125 HB hHeld ⊢
            refine pure_ (i := 0) (N := some 68) (v := ?_) (a' := ?_) #[true,false,false,false,false,false,false,false,false,false,false,false,false,false,false,false,false,false,false,false,false,false,false,false,false,false,false,false,false,false,false,false,false,false,false,false,false,false] rfl rfl (any_of HT_.out (by kernel_rfl)) (fun _ _ _ h => h) (Or.inl ⟨by rfl, ?_⟩) ?_ ?_
            rotate_left
            ·intro w'
             go_simp
             with_reducible rfl
            rotate_left
            ·simp only [Act.put, List.setIfInBounds_toArray, List.set_cons_zero, List.set_cons_succ, i64_w, i32_w]
             rfl
            refine pure_ (i := 2) (N := some 70) (v := ?_) (a' := ?_) #[true,false,true,false,false,false,false,false,false,false,false,false,false,false,false,false,false,false,false,false,false,false,false,false,false,false,false,false,false,false,false,false,false,false,false,false,false,false] rfl rfl (any_of HT_.out (by kernel_rfl)) (fun _ _ _ h => h) (Or.inl ⟨by rfl, ?_⟩) ?_ ?_
            rotate_left
            ·intro w'
             go_simp
             with_reducible rfl
            rotate_left
            ·simp only [Act.put, List.setIfInBounds_toArray, List.set_cons_zero, List.set_cons_succ, i64_w, i32_w]
             rfl
            refine take_ (i := 1) (N := some 69) (v := ?_) (a' := ?_) #[true,true,true,false,false,false,false,false,false,false,false,false,false,false,false,false,false,false,false,false,false,false,false,false,false,false,false,false,false,false,false,false,false,false,false,false,false,false] rfl rfl (take_ofW HT_.out HW_.out (by kernel_rfl)) (fun _ _ _ h => h) (Or.inl ⟨by rfl, ?_⟩) hHeld ?_ ?_
            rotate_left
            ·rintro w' ⟨s0, s1, s2, s3, s4, s5⟩
             go_simp
             with_reducible rfl
            rotate_left
            ·simp only [Act.put, List.setIfInBounds_toArray, List.set_cons_zero, List.set_cons_succ, i64_w, i32_w]
             rfl
            refine take_ (i := 3) (N := some 71) (v := ?_) (a' := ?_) #[true,true,true,true,false,false,false,false,false,false,false,false,false,false,false,false,false,false,false,false,false,false,false,false,false,false,false,false,false,false,false,false,false,false,false,false,false,false] rfl rfl (take_ofW HT_.out HW_.out (by kernel_rfl)) (fun _ _ _ h => h) (Or.inl ⟨by rfl, ?_⟩) hHeld ?_ ?_
            rotate_left
            ·rintro w' ⟨s0, s1, s2, s3, s4, s5⟩
             go_simp
             with_reducible rfl
            rotate_left
            ·simp only [Act.put, List.setIfInBounds_toArray, List.set_cons_zero, List.set_cons_succ, i64_w, i32_w]
             rfl
            refine pure_ (i := 4) (N := some 72) (v := ?_) (a' := ?_) #[true,true,true,true,true,false,false,false,false,false,false,false,false,false,false,false,false,false,false,false,false,false,false,false,false,false,false,false,false,false,false,false,false,false,false,false,false,false] rfl rfl (any_of HT_.out (by kernel_rfl)) (fun _ _ _ h => h) (Or.inl ⟨by rfl, ?_⟩) ?_ ?_
            rotate_left
            ·intro w'
             go_simp
             with_reducible rfl
            rotate_left
            ·simp only [Act.put, List.setIfInBounds_toArray, List.set_cons_zero, List.set_cons_succ, i64_w, i32_w]
             rfl
            refine pure_ (i := 5) (N := some 73) (v := ?_) (a' := ?_) #[true,true,true,true,true,true,false,false,false,false,false,false,false,false,false,false,false,false,false,false,false,false,false,false,false,false,false,false,false,false,false,false,false,false,false,false,false,false] rfl rfl (any_of HT_.out (by kernel_rfl)) (fun _ _ _ h => h) (Or.inl ⟨by rfl, ?_⟩) ?_ ?_
            rotate_left
            ·intro w'
             go_simp
             with_reducible rfl
            rotate_left
            ·simp only [Act.put, List.setIfInBounds_toArray, List.set_cons_zero, List.set_cons_succ, i64_w, i32_w]
             rfl
            refine pure_ (i := 6) (N := some 74) (v := ?_) (a' := ?_) #[true,true,true,true,true,true,true,false,false,false,false,false,false,false,false,false,false,false,false,false,false,false,false,false,false,false,false,false,false,false,false,false,false,false,false,false,false,false] rfl rfl (any_of HT_.out (by kernel_rfl)) (fun _ _ _ h => h) (Or.inl ⟨by rfl, ?_⟩) ?_ ?_
            rotate_left
            ·intro w'
             go_simp
             with_reducible rfl
            rotate_left
            ·simp only [Act.put, List.setIfInBounds_toArray, List.set_cons_zero, List.set_cons_succ, i64_w, i32_w]
             rfl
            refine pure_ (i := 7) (N := some 75) (v := ?_) (a' := ?_) #[true,true,true,true,true,true,true,true,false,false,false,false,false,false,false,false,false,false,false,false,false,false,false,false,false,false,false,false,false,false,false,false,false,false,false,false,false,false] rfl rfl (any_of HT_.out (by kernel_rfl)) (fun _ _ _ h => h) (Or.inl ⟨by rfl, ?_⟩) ?_ ?_
            rotate_left
            ·intro w'
             go_simp
             with_reducible rfl
            rotate_left
            ·simp only [Act.put, List.setIfInBounds_toArray, List.set_cons_zero, List.set_cons_succ, i64_w, i32_w]
             rfl
            refine one_ (i := 8) (N := some 76) #[true,true,true,true,true,true,true,true,true,false,false,false,false,false,false,false,false,false,false,false,false,false,false,false,false,false,false,false,false,false,false,false,false,false,false,false,false,false] rfl rfl (one_of HT_.out (by kernel_rfl)) (by decide) (fun K hK => ?_)
            refine goes_ Tryz.func31 (by kernel_rfl) rfl #[.slice Ao78 t134.length co78, .slice Ao79 t153.length co79] (by rfl) rfl rfl (by (try simp only [List.map_toArray, List.map_cons, List.map_nil]); first | done | rfl | (simp only [List.length_drop, List.length_take]; rfl)) ?_
            with_reducible refine (folkmootref08_Pairs.calls kj32 _ _ t134 _ _ t153 true _ ?side1 ?side2 ?side3 ?side4 A62.out).mono ?_
            (case side1 => repeat (first | exact (Kd.R_reads' HO_7.out).2.2 | (with_reducible refine Kd.C_alloc ?_ _) | (with_reducible refine Kd.C_drewN ?_ _) | (with_reducible refine Kd.C_drew ?_)))
            (case side2 => exact (Kd.R_reads' HO_7.out).2.1)
            (case side3 => repeat (first | exact (Kd.R_reads' HO155.out).2.2 | (with_reducible refine Kd.C_alloc ?_ _) | (with_reducible refine Kd.C_drewN ?_ _) | (with_reducible refine Kd.C_drew ?_)))
            (case side4 => exact (Kd.R_reads' HO155.out).2.1)
            rintro e w' ⟨rfl, ⟨nd, rfl⟩⟩
            refine ⟨_, rfl, ?_⟩
            refine hK.out _ _ ⟨(blk_cell BK124.out 0).trans rfl, (blk_cell BK124.out 1).trans rfl, (blk_cell BK124.out 2).trans rfl, (blk_cell BK125.out 0).trans rfl, (blk_cell BK125.out 1).trans rfl, (blk_cell BK125.out 2).trans rfl⟩ (fun hHeld => ?_)
            clear hK K
            refine norm_ (a' := ?_) ?_ ?_
            rotate_left
            ·show Act.put _ (some 76) _ = _
             simp only [Act.put, List.setIfInBounds_toArray, List.set_cons_zero, List.set_cons_succ, i64_w, i32_w]
             rfl
            refine pure_ (i := 9) (N := some 77) (v := ?_) (a' := ?_) #[true,true,true,true,true,true,true,true,true,true,false,false,false,false,false,false,false,false,false,false,false,false,false,false,false,false,false,false,false,false,false,false,false,false,false,false,false,false] rfl rfl (any_of HT_.out (by kernel_rfl)) (fun _ _ _ h => h) (Or.inl ⟨by rfl, ?_⟩) ?_ ?_
            rotate_left
            ·intro w'
             go_simp
             with_reducible rfl
            rotate_left
            ·simp only [Act.put, List.setIfInBounds_toArray, List.set_cons_zero, List.set_cons_succ, i64_w, i32_w]
             rfl
            refine pure_ (i := 10) (N := some 78) (v := ?_) (a' := ?_) #[true,true,true,true,true,true,true,true,true,true,true,false,false,false,false,false,false,false,false,false,false,false,false,false,false,false,false,false,false,false,false,false,false,false,false,false,false,false] rfl rfl (any_of HT_.out (by kernel_rfl)) (fun _ _ _ h => h) (Or.inl ⟨by rfl, ?_⟩) ?_ ?_
            rotate_left
            ·intro w'
             go_simp
             with_reducible rfl
            rotate_left
            ·simp only [Act.put, List.setIfInBounds_toArray, List.set_cons_zero, List.set_cons_succ, i64_w, i32_w]
             rfl
            refine pure_ (i := 11) (N := some 79) (v := ?_) (a' := ?_) #[true,true,true,true,true,true,true,true,true,true,true,true,false,false,false,false,false,false,false,false,false,false,false,false,false,false,false,false,false,false,false,false,false,false,false,false,false,false] rfl rfl (any_of HT_.out (by kernel_rfl)) (fun _ _ _ h => h) (Or.inl ⟨by rfl, ?_⟩) ?_ ?_
            rotate_left
            ·intro w'
             go_simp
             with_reducible rfl
            rotate_left
            ·simp only [Act.put, List.setIfInBounds_toArray, List.set_cons_zero, List.set_cons_succ, i64_w, i32_w]
             rfl
            refine pure_ (i := 15) (N := some 83) (v := ?_) (a' := ?_) #[true,true,true,true,true,true,true,true,true,true,true,true,false,false,false,true,false,false,false,false,false,false,false,false,false,false,false,false,false,false,false,false,false,false,false,false,false,false] rfl rfl (any_of HT_.out (by kernel_rfl)) (fun _ _ _ h => h) (Or.inl ⟨by rfl, ?_⟩) ?_ ?_
            rotate_left
            ·intro w'
             go_simp
             with_reducible rfl
            rotate_left
            ·simp only [Act.put, List.setIfInBounds_toArray, List.set_cons_zero, List.set_cons_succ, i64_w, i32_w]
             rfl
            refine take_ (i := 12) (N := some 80) (v := ?_) (a' := ?_) #[true,true,true,true,true,true,true,true,true,true,true,true,true,false,false,true,false,false,false,false,false,false,false,false,false,false,false,false,false,false,false,false,false,false,false,false,false,false] rfl rfl (take_ofW HT_.out HW_.out (by kernel_rfl)) (fun _ _ _ h => h) (Or.inl ⟨by rfl, ?_⟩) hHeld ?_ ?_
            rotate_left
            ·rintro w' ⟨s0, s1, s2, s3, s4, s5⟩
             go_simp
             with_reducible rfl
            rotate_left
            ·simp only [Act.put, List.setIfInBounds_toArray, List.set_cons_zero, List.set_cons_succ, i64_w, i32_w]
             rfl
            refine one_ (i := 13) (N := some 81) #[true,true,true,true,true,true,true,true,true,true,true,true,true,true,false,true,false,false,false,false,false,false,false,false,false,false,false,false,false,false,false,false,false,false,false,false,false,false] rfl rfl (one_of HT_.out (by kernel_rfl)) (by decide) (fun K hK => ?_)
            refine Kd.R_lit_step k69 _ 69 ?hg (N := 81) ?hd (xs := ([(⟨a2_0, a2_1, a2_2⟩ : S69)] : List (S69))) (inner := [.string a2_0, .int .u64 a2_1, .bool a2_2]) (ok := fun _ => True) (okp := fun _ => True) ?hr ?hp (fun _ hk => hk) trivial (Below.refl _ _) (Nat.le_refl _) (by simp) ?_; (case hd => rfl); (case hg => rfl); (case hr => first | (go_simp; done) | (go_simp; rfl)); (case hp => exact (Reps.c3 (show Kd.M k69 _ _ _ (⟨a2_0, a2_1, a2_2⟩ : S69) [.string a2_0, .int .u64 a2_1, .bool a2_2] from (k69_mkM _ _ _ (⟨a2_0, a2_1, a2_2⟩ : S69) )) (Reps.none _ _)))
            intro v158 w80 ho81 hb hg_ hnew_
            clear hg_ hnew_
            (first | rw [← Ny157.out] at ho81 | (simp only [Int.reduceToNat] at ho81; rw [← Ny157.out] at ho81))
            have n0_ := Aside0.mk (Kd.R_below (by (with_reducible repeat (first | apply Kd.R_alloc | apply Kd.R_drewN | apply Kd.R_drew)); first | exact HO_7.out | exact Kd.R_mono HO_7.out (fun _ hk => hk.1) | exact Kd.R_mono HO_7.out (fun _ _ => trivial)) hb)
            have n1_ := Aside0.mk (Kd.R_elder' (by (with_reducible repeat (first | apply Kd.R_alloc | apply Kd.R_drewN | apply Kd.R_drew)); first | exact HO152.out | exact Kd.R_mono HO152.out (fun _ hk => hk.1) | exact Kd.R_mono HO152.out (fun _ _ => trivial)) (Kd.R_base ho81) hb)
            have n2_ := Aside0.mk (Kd.R_below (by (with_reducible repeat (first | apply Kd.R_alloc | apply Kd.R_drewN | apply Kd.R_drew)); first | exact HO155.out | exact Kd.R_mono HO155.out (fun _ hk => hk.1) | exact Kd.R_mono HO155.out (fun _ _ => trivial)) hb)
            have n3_ := Aside0.mk (Kd.R_lower (Kd.R_newB (Kd.R_newB (Kd.R_new' ho81 (Kd.R_lt (by (with_reducible repeat (first | apply Kd.R_alloc | apply Kd.R_drewN | apply Kd.R_drew)); first | exact HO152.out | exact Kd.R_mono HO152.out (fun _ hk => hk.1) | exact Kd.R_mono HO152.out (fun _ _ => trivial)))) (g := gb124) (o := .cells #[.string a1_0, .int .u64 a1_1, .bool a1_2] 69 (0, 0)) (by (with_reducible repeat (first | refine blk_drewN ?_ _ | refine blk_drew ?_ | refine blk_alloc ?_ _)); exact BK124.out)) (g := gb125) (o := .cells #[.string a2_0, .int .u64 a2_1, .bool a2_2] 69 (0, 0)) (by (with_reducible repeat (first | refine blk_drewN ?_ _ | refine blk_drew ?_ | refine blk_alloc ?_ _)); exact BK125.out)) (below_size (by repeat (first | (with_reducible first | exact HB.out | apply below_alloc | apply pw_below_drewN | apply below_drew1 | refine below_set ?_ GE124.out | refine below_set ?_ GE125.out) | exact HB.out))))
            have n4_ := Aside0.mk (blk_below (g := gb124) (o := .cells #[.string a1_0, .int .u64 a1_1, .bool a1_2] 69 (0, 0)) (by (with_reducible repeat (first | refine blk_drewN ?_ _ | refine blk_drew ?_ | refine blk_alloc ?_ _)); exact BK124.out) hb)
            have n5_ := Aside0.mk (blk_below (g := gb125) (o := .cells #[.string a2_0, .int .u64 a2_1, .bool a2_2] 69 (0, 0)) (by (with_reducible repeat (first | refine blk_drewN ?_ _ | refine blk_drew ?_ | refine blk_alloc ?_ _)); exact BK125.out) hb)
            have n6_ := Aside0.mk (below_step (by repeat (first | (with_reducible first | exact HB.out | apply below_alloc | apply pw_below_drewN | apply below_drew1 | refine below_set ?_ GE124.out | refine below_set ?_ GE125.out) | exact HB.out)) hb)
            clear HO_7
            clear HO152
            clear HO155
            clear BK124
            clear BK125
            clear HB
            have HO_7 := n0_
            have HO152 := n1_
            have HO155 := n2_
            have HO159 := n3_
            have BK124 := n4_
            have BK125 := n5_
            have HB := n6_
            clear n0_ n1_ n2_ n3_ n4_ n5_ n6_
            clear hb ho81
            obtain ⟨Ao82, co82, eo82⟩ := Kd.R_slice HO159.out
            (first | subst eo82 | (injection eo82 with f1_ f2_ f3_; have f4_ := f1_.symm; have f5_ := f3_.symm; clear f1_ f2_ f3_; subst f4_; subst f5_))
            refine hK.out _ _ ⟨(blk_cell BK124.out 0).trans rfl, (blk_cell BK124.out 1).trans rfl, (blk_cell BK124.out 2).trans rfl, (blk_cell BK125.out 0).trans rfl, (blk_cell BK125.out 1).trans rfl, (blk_cell BK125.out 2).trans rfl⟩ (fun hHeld => ?_)
            clear hK K
            refine norm_ (a' := ?_) ?_ ?_
            rotate_left
            ·show Act.put _ (some 81) _ = _
             simp only [Act.put, List.setIfInBounds_toArray, List.set_cons_zero, List.set_cons_succ, i64_w, i32_w]
             rfl
            refine one_ (i := 14) (N := some 82) #[true,true,true,true,true,true,true,true,true,true,true,true,true,true,true,true,false,false,false,false,false,false,false,false,false,false,false,false,false,false,false,false,false,false,false,false,false,false] rfl rfl (one_of HT_.out (by kernel_rfl)) (by decide) (fun K hK => ?_)
            refine goes_ Tryz.func32 (by kernel_rfl) rfl #[.slice Ao79 t153.length co79, .slice Ao82 y157.length co82] (by rfl) rfl rfl (by (try simp only [List.map_toArray, List.map_cons, List.map_nil]); first | done | rfl | (simp only [List.length_drop, List.length_take]; rfl)) ?_
            with_reducible refine (txn_Apply.calls _ _ t153 _ _ y157 t160 _ ?side1 ?side2 ?side3 ?side4 A64.out).mono ?_
            (case side1 => repeat (first | exact (Kd.R_reads' HO155.out).2.2 | (with_reducible refine Kd.C_alloc ?_ _) | (with_reducible refine Kd.C_drewN ?_ _) | (with_reducible refine Kd.C_drew ?_)))
            (case side2 => exact (Kd.R_reads' HO155.out).2.1)
            (case side3 => repeat (first | exact (Kd.R_reads' HO159.out).2.2 | (with_reducible refine Kd.C_alloc ?_ _) | (with_reducible refine Kd.C_drewN ?_ _) | (with_reducible refine Kd.C_drew ?_)))
            (case side4 => exact (Kd.R_reads' HO159.out).2.1)
            rintro e w83 ⟨v161, rfl, ho0, hb⟩
            refine ⟨_, rfl, ?_⟩
            have n0_ := Aside0.mk (Kd.R_elder' (by (with_reducible repeat (first | apply Kd.R_alloc | apply Kd.R_drewN | apply Kd.R_drew)); first | exact HO_7.out | exact Kd.R_mono HO_7.out (fun _ hk => hk.1) | exact Kd.R_mono HO_7.out (fun _ _ => trivial)) (Kd.R_base ho0) hb)
            have n1_ := Aside0.mk (Kd.R_below (by (with_reducible repeat (first | apply Kd.R_alloc | apply Kd.R_drewN | apply Kd.R_drew)); first | exact HO152.out | exact Kd.R_mono HO152.out (fun _ hk => hk.1) | exact Kd.R_mono HO152.out (fun _ _ => trivial)) hb)
            have n2_ := Aside0.mk (Kd.R_elder' (by (with_reducible repeat (first | apply Kd.R_alloc | apply Kd.R_drewN | apply Kd.R_drew)); first | exact HO155.out | exact Kd.R_mono HO155.out (fun _ hk => hk.1) | exact Kd.R_mono HO155.out (fun _ _ => trivial)) (Kd.R_base ho0) hb)
            have n3_ := Aside0.mk (Kd.R_below (by (with_reducible repeat (first | apply Kd.R_alloc | apply Kd.R_drewN | apply Kd.R_drew)); first | exact HO159.out | exact Kd.R_mono HO159.out (fun _ hk => hk.1) | exact Kd.R_mono HO159.out (fun _ _ => trivial)) hb)
            have n4_ := Aside0.mk (Kd.R_lower (Kd.R_new' (Kd.R_new' ho0 (Kd.R_lt (by (with_reducible repeat (first | apply Kd.R_alloc | apply Kd.R_drewN | apply Kd.R_drew)); first | exact HO_7.out | exact Kd.R_mono HO_7.out (fun _ hk => hk.1) | exact Kd.R_mono HO_7.out (fun _ _ => trivial)))) (Kd.R_lt (by (with_reducible repeat (first | apply Kd.R_alloc | apply Kd.R_drewN | apply Kd.R_drew)); first | exact HO155.out | exact Kd.R_mono HO155.out (fun _ hk => hk.1) | exact Kd.R_mono HO155.out (fun _ _ => trivial)))) (below_size (by repeat (first | (with_reducible first | exact HB.out | apply below_alloc | apply pw_below_drewN | apply below_drew1 | refine below_set ?_ GE124.out | refine below_set ?_ GE125.out) | exact HB.out))))
            have n5_ := Aside0.mk (blk_below (g := gb124) (o := .cells #[.string a1_0, .int .u64 a1_1, .bool a1_2] 69 (0, 0)) (by (with_reducible repeat (first | refine blk_drewN ?_ _ | refine blk_drew ?_ | refine blk_alloc ?_ _)); exact BK124.out) hb)
            have n6_ := Aside0.mk (blk_below (g := gb125) (o := .cells #[.string a2_0, .int .u64 a2_1, .bool a2_2] 69 (0, 0)) (by (with_reducible repeat (first | refine blk_drewN ?_ _ | refine blk_drew ?_ | refine blk_alloc ?_ _)); exact BK125.out) hb)
            have n7_ := Aside0.mk (below_step (by repeat (first | (with_reducible first | exact HB.out | apply below_alloc | apply pw_below_drewN | apply below_drew1 | refine below_set ?_ GE124.out | refine below_set ?_ GE125.out) | exact HB.out)) hb)
            clear HO_7
            clear HO152
            clear HO155
            clear HO159
            clear BK124
            clear BK125
            clear HB
            have HO_7 := n0_
            have HO152 := n1_
            have HO155 := n2_
            have HO159 := n3_
            have HO162 := n4_
            have BK124 := n5_
            have BK125 := n6_
            have HB := n7_
            clear n0_ n1_ n2_ n3_ n4_ n5_ n6_ n7_
            (try clear hb)
            (try clear hb2)
            (try clear hk)
            (try clear hi)
            (try clear ho0)
            obtain ⟨Ao84, co84, eo84⟩ := Kd.R_slice HO162.out
            (first | subst eo84 | (injection eo84 with f1_ f2_ f3_; have f4_ := f1_.symm; have f5_ := f3_.symm; clear f1_ f2_ f3_; subst f4_; subst f5_))
            refine hK.out _ _ ⟨(blk_cell BK124.out 0).trans rfl, (blk_cell BK124.out 1).trans rfl, (blk_cell BK124.out 2).trans rfl, (blk_cell BK125.out 0).trans rfl, (blk_cell BK125.out 1).trans rfl, (blk_cell BK125.out 2).trans rfl⟩ (fun hHeld => ?_)
            clear hK K
            refine norm_ (a' := ?_) ?_ ?_
            rotate_left
            ·show Act.put _ (some 82) _ = _
             simp only [Act.put, List.setIfInBounds_toArray, List.set_cons_zero, List.set_cons_succ, i64_w, i32_w]
             rfl
            refine one_ (i := 16) (N := some 84) #[true,true,true,true,true,true,true,true,true,true,true,true,true,true,true,true,true,false,false,false,false,false,false,false,false,false,false,false,false,false,false,false,false,false,false,false,false,false] rfl rfl (one_of HT_.out (by kernel_rfl)) (by decide) (fun K hK => ?_)
            refine goes_ Tryz.func31 (by kernel_rfl) rfl #[.slice Ao84 t160.length co84, .slice Ao79 t153.length co79] (by rfl) rfl rfl (by (try simp only [List.map_toArray, List.map_cons, List.map_nil]); first | done | rfl | (simp only [List.length_drop, List.length_take]; rfl)) ?_
            with_reducible refine (folkmootref08_Pairs.calls kj32 _ _ t160 _ _ t153 true _ ?side1 ?side2 ?side3 ?side4 A65.out).mono ?_
            (case side1 => repeat (first | exact (Kd.R_reads' HO162.out).2.2 | (with_reducible refine Kd.C_alloc ?_ _) | (with_reducible refine Kd.C_drewN ?_ _) | (with_reducible refine Kd.C_drew ?_)))
            (case side2 => exact (Kd.R_reads' HO162.out).2.1)
            (case side3 => repeat (first | exact (Kd.R_reads' HO155.out).2.2 | (with_reducible refine Kd.C_alloc ?_ _) | (with_reducible refine Kd.C_drewN ?_ _) | (with_reducible refine Kd.C_drew ?_)))
            (case side4 => exact (Kd.R_reads' HO155.out).2.1)
            rintro e w' ⟨rfl, ⟨nd, rfl⟩⟩
            refine ⟨_, rfl, ?_⟩
            refine hK.out _ _ ⟨(blk_cell BK124.out 0).trans rfl, (blk_cell BK124.out 1).trans rfl, (blk_cell BK124.out 2).trans rfl, (blk_cell BK125.out 0).trans rfl, (blk_cell BK125.out 1).trans rfl, (blk_cell BK125.out 2).trans rfl⟩ (fun hHeld => ?_)
            clear hK K
            refine norm_ (a' := ?_) ?_ ?_
            rotate_left
            ·show Act.put _ (some 84) _ = _
             simp only [Act.put, List.setIfInBounds_toArray, List.set_cons_zero, List.set_cons_succ, i64_w, i32_w]
             rfl
            refine pure_ (i := 17) (N := some 85) (v := ?_) (a' := ?_) #[true,true,true,true,true,true,true,true,true,true,true,true,true,true,true,true,true,true,false,false,false,false,false,false,false,false,false,false,false,false,false,false,false,false,false,false,false,false] rfl rfl (any_of HT_.out (by kernel_rfl)) (fun _ _ _ h => h) (Or.inl ⟨by rfl, ?_⟩) ?_ ?_
            rotate_left
            ·intro w'
             go_simp
             with_reducible rfl
            rotate_left
            ·simp only [Act.put, List.setIfInBounds_toArray, List.set_cons_zero, List.set_cons_succ, i64_w, i32_w]
             rfl
            refine pure_ (i := 18) (N := some 86) (v := ?_) (a' := ?_) #[true,true,true,true,true,true,true,true,true,true,true,true,true,true,true,true,true,true,true,false,false,false,false,false,false,false,false,false,false,false,false,false,false,false,false,false,false,false] rfl rfl (any_of HT_.out (by kernel_rfl)) (fun _ _ _ h => h) (Or.inl ⟨by rfl, ?_⟩) ?_ ?_
            rotate_left
            ·intro w'
             go_simp
             with_reducible rfl
            rotate_left
            ·simp only [Act.put, List.setIfInBounds_toArray, List.set_cons_zero, List.set_cons_succ, i64_w, i32_w]
             rfl
            refine pure_ (i := 19) (N := some 87) (v := ?_) (a' := ?_) #[true,true,true,true,true,true,true,true,true,true,true,true,true,true,true,true,true,true,true,true,false,false,false,false,false,false,false,false,false,false,false,false,false,false,false,false,false,false] rfl rfl (any_of HT_.out (by kernel_rfl)) (fun _ _ _ h => h) (Or.inl ⟨by rfl, ?_⟩) ?_ ?_
            rotate_left
            ·intro w'
             go_simp
             with_reducible rfl
            rotate_left
            ·simp only [Act.put, List.setIfInBounds_toArray, List.set_cons_zero, List.set_cons_succ, i64_w, i32_w]
             rfl
            refine pure_ (i := 20) (N := some 88) (v := ?_) (a' := ?_) #[true,true,true,true,true,true,true,true,true,true,true,true,true,true,true,true,true,true,true,true,true,false,false,false,false,false,false,false,false,false,false,false,false,false,false,false,false,false] rfl rfl (any_of HT_.out (by kernel_rfl)) (fun _ _ _ h => h) (Or.inl ⟨by rfl, ?_⟩) ?_ ?_
            rotate_left
            ·intro w'
             go_simp
             with_reducible rfl
            rotate_left
            ·simp only [Act.put, List.setIfInBounds_toArray, List.set_cons_zero, List.set_cons_succ, i64_w, i32_w]
             rfl
            refine pure_ (i := 22) (N := some 90) (v := ?_) (a' := ?_) #[true,true,true,true,true,true,true,true,true,true,true,true,true,true,true,true,true,true,true,true,true,false,true,false,false,false,false,false,false,false,false,false,false,false,false,false,false,false] rfl rfl (any_of HT_.out (by kernel_rfl)) (fun _ _ _ h => h) (Or.inl ⟨by rfl, ?_⟩) ?_ ?_
            rotate_left
            ·intro w'
             go_simp
             with_reducible rfl
            rotate_left
            ·simp only [Act.put, List.setIfInBounds_toArray, List.set_cons_zero, List.set_cons_succ, i64_w, i32_w]
             rfl
            refine pure_ (i := 30) (N := some 98) (v := ?_) (a' := ?_) #[true,true,true,true,true,true,true,true,true,true,true,true,true,true,true,true,true,true,true,true,true,false,true,false,false,false,false,false,false,false,true,false,false,false,false,false,false,false] rfl rfl (any_of HT_.out (by kernel_rfl)) (fun _ _ _ h => h) (Or.inl ⟨by rfl, ?_⟩) ?_ ?_
            rotate_left
            ·intro w'
             go_simp
             with_reducible rfl
            rotate_left
            ·simp only [Act.put, List.setIfInBounds_toArray, List.set_cons_zero, List.set_cons_succ, i64_w, i32_w]
             rfl
            refine take_ (i := 21) (N := some 89) (v := ?_) (a' := ?_) #[true,true,true,true,true,true,true,true,true,true,true,true,true,true,true,true,true,true,true,true,true,true,true,false,false,false,false,false,false,false,true,false,false,false,false,false,false,false] rfl rfl (take_ofW HT_.out HW_.out (by kernel_rfl)) (fun _ _ _ h => h) (Or.inl ⟨by rfl, ?_⟩) hHeld ?_ ?_
            rotate_left
            ·rintro w' ⟨s0, s1, s2, s3, s4, s5⟩
             go_simp
             with_reducible rfl
            rotate_left
            ·simp only [Act.put, List.setIfInBounds_toArray, List.set_cons_zero, List.set_cons_succ, i64_w, i32_w]
             rfl
            refine take_ (i := 23) (N := some 91) (v := ?_) (a' := ?_) #[true,true,true,true,true,true,true,true,true,true,true,true,true,true,true,true,true,true,true,true,true,true,true,true,false,false,false,false,false,false,true,false,false,false,false,false,false,false] rfl rfl (take_ofW HT_.out HW_.out (by kernel_rfl)) (fun _ _ _ h => h) (Or.inl ⟨by rfl, ?_⟩) hHeld ?_ ?_
            rotate_left
            ·rintro w' ⟨s0, s1, s2, s3, s4, s5⟩
             go_simp
             with_reducible rfl
            rotate_left
            ·simp only [Act.put, List.setIfInBounds_toArray, List.set_cons_zero, List.set_cons_succ, i64_w, i32_w]
             rfl
            refine pure_ (i := 24) (N := some 92) (v := ?_) (a' := ?_) #[true,true,true,true,true,true,true,true,true,true,true,true,true,true,true,true,true,true,true,true,true,true,true,true,true,false,false,false,false,false,true,false,false,false,false,false,false,false] rfl rfl (any_of HT_.out (by kernel_rfl)) (fun _ _ _ h => h) (Or.inl ⟨by rfl, ?_⟩) ?_ ?_
            rotate_left
            ·intro w'
             go_simp
             with_reducible rfl
            rotate_left
            ·simp only [Act.put, List.setIfInBounds_toArray, List.set_cons_zero, List.set_cons_succ, i64_w, i32_w]
             rfl
            refine pure_ (i := 25) (N := some 93) (v := ?_) (a' := ?_) #[true,true,true,true,true,true,true,true,true,true,true,true,true,true,true,true,true,true,true,true,true,true,true,true,true,true,false,false,false,false,true,false,false,false,false,false,false,false] rfl rfl (any_of HT_.out (by kernel_rfl)) (fun _ _ _ h => h) (Or.inl ⟨by rfl, ?_⟩) ?_ ?_
            rotate_left
            ·intro w'
             go_simp
             with_reducible rfl
            rotate_left
            ·simp only [Act.put, List.setIfInBounds_toArray, List.set_cons_zero, List.set_cons_succ, i64_w, i32_w]
             rfl
            refine take_ (i := 31) (N := some 99) (v := ?_) (a' := ?_) #[true,true,true,true,true,true,true,true,true,true,true,true,true,true,true,true,true,true,true,true,true,true,true,true,true,true,false,false,false,false,true,true,false,false,false,false,false,false] rfl rfl (take_ofW HT_.out HW_.out (by kernel_rfl)) (fun _ _ _ h => h) (Or.inl ⟨by rfl, ?_⟩) hHeld ?_ ?_
            rotate_left
            ·rintro w' ⟨s0, s1, s2, s3, s4, s5⟩
             go_simp
             with_reducible rfl
            rotate_left
            ·simp only [Act.put, List.setIfInBounds_toArray, List.set_cons_zero, List.set_cons_succ, i64_w, i32_w]
             rfl
            refine one_ (i := 26) (N := some 94) #[true,true,true,true,true,true,true,true,true,true,true,true,true,true,true,true,true,true,true,true,true,true,true,true,true,true,true,false,false,false,true,true,false,false,false,false,false,false] rfl rfl (one_of HT_.out (by kernel_rfl)) (by decide) (fun K hK => ?_)
            refine Kd.R_lit_step k71 _ 71 ?hg (N := 94) ?hd (xs := ([(⟨a2_0, a2_0 ++ (⟨#[0]⟩ : ByteArray)⟩ : S71)] : List (S71))) (inner := [.string a2_0, .string (a2_0 ++ (⟨#[0]⟩ : ByteArray))]) (ok := fun _ => True) (okp := fun _ => True) ?hr ?hp (fun _ hk => hk) trivial (Below.refl _ _) (Nat.le_refl _) (by simp) ?_; (case hd => rfl); (case hg => rfl); (case hr => first | (go_simp; done) | (go_simp; rfl)); (case hp => exact (Reps.c2 (show Kd.M k71 _ _ _ (⟨a2_0, a2_0 ++ (⟨#[0]⟩ : ByteArray)⟩ : S71) [.string a2_0, .string (a2_0 ++ (⟨#[0]⟩ : ByteArray))] from (k71_mkM _ _ _ (⟨a2_0, a2_0 ++ (⟨#[0]⟩ : ByteArray)⟩ : S71) )) (Reps.none _ _)))
            intro v165 w85 ho86 hb hg_ hnew_
            clear hg_ hnew_
            (first | rw [← Ny164.out] at ho86 | (simp only [Int.reduceToNat] at ho86; rw [← Ny164.out] at ho86))
            have n0_ := Aside0.mk (Kd.R_below (by (with_reducible repeat (first | apply Kd.R_alloc | apply Kd.R_drewN | apply Kd.R_drew)); first | exact HO_7.out | exact Kd.R_mono HO_7.out (fun _ hk => hk.1) | exact Kd.R_mono HO_7.out (fun _ _ => trivial)) hb)
            have n1_ := Aside0.mk (Kd.R_below (by (with_reducible repeat (first | apply Kd.R_alloc | apply Kd.R_drewN | apply Kd.R_drew)); first | exact HO152.out | exact Kd.R_mono HO152.out (fun _ hk => hk.1) | exact Kd.R_mono HO152.out (fun _ _ => trivial)) hb)
            have n2_ := Aside0.mk (Kd.R_below (by (with_reducible repeat (first | apply Kd.R_alloc | apply Kd.R_drewN | apply Kd.R_drew)); first | exact HO155.out | exact Kd.R_mono HO155.out (fun _ hk => hk.1) | exact Kd.R_mono HO155.out (fun _ _ => trivial)) hb)
            have n3_ := Aside0.mk (Kd.R_below (by (with_reducible repeat (first | apply Kd.R_alloc | apply Kd.R_drewN | apply Kd.R_drew)); first | exact HO159.out | exact Kd.R_mono HO159.out (fun _ hk => hk.1) | exact Kd.R_mono HO159.out (fun _ _ => trivial)) hb)
            have n4_ := Aside0.mk (Kd.R_below (by (with_reducible repeat (first | apply Kd.R_alloc | apply Kd.R_drewN | apply Kd.R_drew)); first | exact HO162.out | exact Kd.R_mono HO162.out (fun _ hk => hk.1) | exact Kd.R_mono HO162.out (fun _ _ => trivial)) hb)
            have n5_ := Aside0.mk (Kd.R_lower ho86 (below_size (by repeat (first | (with_reducible first | exact HB.out | apply below_alloc | apply pw_below_drewN | apply below_drew1 | refine below_set ?_ GE124.out | refine below_set ?_ GE125.out) | exact HB.out))))
            have n6_ := Aside0.mk (blk_below (g := gb124) (o := .cells #[.string a1_0, .int .u64 a1_1, .bool a1_2] 69 (0, 0)) (by (with_reducible repeat (first | refine blk_drewN ?_ _ | refine blk_drew ?_ | refine blk_alloc ?_ _)); exact BK124.out) hb)
            have n7_ := Aside0.mk (blk_below (g := gb125) (o := .cells #[.string a2_0, .int .u64 a2_1, .bool a2_2] 69 (0, 0)) (by (with_reducible repeat (first | refine blk_drewN ?_ _ | refine blk_drew ?_ | refine blk_alloc ?_ _)); exact BK125.out) hb)
            have n8_ := Aside0.mk (below_step (by repeat (first | (with_reducible first | exact HB.out | apply below_alloc | apply pw_below_drewN | apply below_drew1 | refine below_set ?_ GE124.out | refine below_set ?_ GE125.out) | exact HB.out)) hb)
            clear HO_7
            clear HO152
            clear HO155
            clear HO159
            clear HO162
            clear BK124
            clear BK125
            clear HB
            have HO_7 := n0_
            have HO152 := n1_
            have HO155 := n2_
            have HO159 := n3_
            have HO162 := n4_
            have HO166 := n5_
            have BK124 := n6_
            have BK125 := n7_
            have HB := n8_
            clear n0_ n1_ n2_ n3_ n4_ n5_ n6_ n7_ n8_
            clear hb ho86
            obtain ⟨Ao87, co87, eo87⟩ := Kd.R_slice HO166.out
            (first | subst eo87 | (injection eo87 with f1_ f2_ f3_; have f4_ := f1_.symm; have f5_ := f3_.symm; clear f1_ f2_ f3_; subst f4_; subst f5_))
            refine hK.out _ _ ⟨(blk_cell BK124.out 0).trans rfl, (blk_cell BK124.out 1).trans rfl, (blk_cell BK124.out 2).trans rfl, (blk_cell BK125.out 0).trans rfl, (blk_cell BK125.out 1).trans rfl, (blk_cell BK125.out 2).trans rfl⟩ (fun hHeld => ?_)
            clear hK K
            refine norm_ (a' := ?_) ?_ ?_
            rotate_left
            ·show Act.put _ (some 94) _ = _
             simp only [Act.put, List.setIfInBounds_toArray, List.set_cons_zero, List.set_cons_succ, i64_w, i32_w]
             rfl
            refine one_ (i := 27) (N := some 95) #[true,true,true,true,true,true,true,true,true,true,true,true,true,true,true,true,true,true,true,true,true,true,true,true,true,true,true,true,false,false,true,true,false,false,false,false,false,false] rfl rfl (one_of HT_.out (by kernel_rfl)) (by decide) (fun K hK => ?_)
            refine goes_ Tryz.func34 (by kernel_rfl) rfl #[.slice Ao79 t153.length co79, .slice Ao87 y164.length co87] (by rfl) rfl rfl (by (try simp only [List.map_toArray, List.map_cons, List.map_nil]); first | done | rfl | (simp only [List.length_drop, List.length_take]; rfl)) ?_
            with_reducible refine (txn_Pick.calls _ _ t153 _ _ y164 t167 _ ?side1 ?side2 ?side3 ?side4 A68.out).mono ?_
            (case side1 => repeat (first | exact (Kd.R_reads' HO155.out).2.2 | (with_reducible refine Kd.C_alloc ?_ _) | (with_reducible refine Kd.C_drewN ?_ _) | (with_reducible refine Kd.C_drew ?_)))
            (case side2 => exact (Kd.R_reads' HO155.out).2.1)
            (case side3 => repeat (first | exact (Kd.R_reads' HO166.out).2.2 | (with_reducible refine Kd.C_alloc ?_ _) | (with_reducible refine Kd.C_drewN ?_ _) | (with_reducible refine Kd.C_drew ?_)))
            (case side4 => exact (Kd.R_reads' HO166.out).2.1)
            rintro e w88 ⟨v168, rfl, ho0, hb⟩
            refine ⟨_, rfl, ?_⟩
            have n0_ := Aside0.mk (Kd.R_elder' (by (with_reducible repeat (first | apply Kd.R_alloc | apply Kd.R_drewN | apply Kd.R_drew)); first | exact HO_7.out | exact Kd.R_mono HO_7.out (fun _ hk => hk.1) | exact Kd.R_mono HO_7.out (fun _ _ => trivial)) (Kd.R_base ho0) hb)
            have n1_ := Aside0.mk (Kd.R_below (by (with_reducible repeat (first | apply Kd.R_alloc | apply Kd.R_drewN | apply Kd.R_drew)); first | exact HO152.out | exact Kd.R_mono HO152.out (fun _ hk => hk.1) | exact Kd.R_mono HO152.out (fun _ _ => trivial)) hb)
            have n2_ := Aside0.mk (Kd.R_elder' (by (with_reducible repeat (first | apply Kd.R_alloc | apply Kd.R_drewN | apply Kd.R_drew)); first | exact HO155.out | exact Kd.R_mono HO155.out (fun _ hk => hk.1) | exact Kd.R_mono HO155.out (fun _ _ => trivial)) (Kd.R_base ho0) hb)
            have n3_ := Aside0.mk (Kd.R_below (by (with_reducible repeat (first | apply Kd.R_alloc | apply Kd.R_drewN | apply Kd.R_drew)); first | exact HO159.out | exact Kd.R_mono HO159.out (fun _ hk => hk.1) | exact Kd.R_mono HO159.out (fun _ _ => trivial)) hb)
            have n4_ := Aside0.mk (Kd.R_elder' (by (with_reducible repeat (first | apply Kd.R_alloc | apply Kd.R_drewN | apply Kd.R_drew)); first | exact HO162.out | exact Kd.R_mono HO162.out (fun _ hk => hk.1) | exact Kd.R_mono HO162.out (fun _ _ => trivial)) (Kd.R_base ho0) hb)
            have n5_ := Aside0.mk (Kd.R_below (by (with_reducible repeat (first | apply Kd.R_alloc | apply Kd.R_drewN | apply Kd.R_drew)); first | exact HO166.out | exact Kd.R_mono HO166.out (fun _ hk => hk.1) | exact Kd.R_mono HO166.out (fun _ _ => trivial)) hb)
            have n6_ := Aside0.mk (Kd.R_lower (Kd.R_new' (Kd.R_new' (Kd.R_new' ho0 (Kd.R_lt (by (with_reducible repeat (first | apply Kd.R_alloc | apply Kd.R_drewN | apply Kd.R_drew)); first | exact HO_7.out | exact Kd.R_mono HO_7.out (fun _ hk => hk.1) | exact Kd.R_mono HO_7.out (fun _ _ => trivial)))) (Kd.R_lt (by (with_reducible repeat (first | apply Kd.R_alloc | apply Kd.R_drewN | apply Kd.R_drew)); first | exact HO155.out | exact Kd.R_mono HO155.out (fun _ hk => hk.1) | exact Kd.R_mono HO155.out (fun _ _ => trivial)))) (Kd.R_lt (by (with_reducible repeat (first | apply Kd.R_alloc | apply Kd.R_drewN | apply Kd.R_drew)); first | exact HO162.out | exact Kd.R_mono HO162.out (fun _ hk => hk.1) | exact Kd.R_mono HO162.out (fun _ _ => trivial)))) (below_size (by repeat (first | (with_reducible first | exact HB.out | apply below_alloc | apply pw_below_drewN | apply below_drew1 | refine below_set ?_ GE124.out | refine below_set ?_ GE125.out) | exact HB.out))))
            have n7_ := Aside0.mk (blk_below (g := gb124) (o := .cells #[.string a1_0, .int .u64 a1_1, .bool a1_2] 69 (0, 0)) (by (with_reducible repeat (first | refine blk_drewN ?_ _ | refine blk_drew ?_ | refine blk_alloc ?_ _)); exact BK124.out) hb)
            have n8_ := Aside0.mk (blk_below (g := gb125) (o := .cells #[.string a2_0, .int .u64 a2_1, .bool a2_2] 69 (0, 0)) (by (with_reducible repeat (first | refine blk_drewN ?_ _ | refine blk_drew ?_ | refine blk_alloc ?_ _)); exact BK125.out) hb)
            have n9_ := Aside0.mk (below_step (by repeat (first | (with_reducible first | exact HB.out | apply below_alloc | apply pw_below_drewN | apply below_drew1 | refine below_set ?_ GE124.out | refine below_set ?_ GE125.out) | exact HB.out)) hb)
            clear HO_7
            clear HO152
            clear HO155
            clear HO159
            clear HO162
            clear HO166
            clear BK124
            clear BK125
            clear HB
            have HO_7 := n0_
            have HO152 := n1_
            have HO155 := n2_
            have HO159 := n3_
            have HO162 := n4_
            have HO166 := n5_
            have HO169 := n6_
            have BK124 := n7_
            have BK125 := n8_
            have HB := n9_
            clear n0_ n1_ n2_ n3_ n4_ n5_ n6_ n7_ n8_ n9_
            (try clear hb)
            (try clear hb2)
            (try clear hk)
            (try clear hi)
            (try clear ho0)
            obtain ⟨Ao89, co89, eo89⟩ := Kd.R_slice HO169.out
            (first | subst eo89 | (injection eo89 with f1_ f2_ f3_; have f4_ := f1_.symm; have f5_ := f3_.symm; clear f1_ f2_ f3_; subst f4_; subst f5_))
            refine hK.out _ _ ⟨(blk_cell BK124.out 0).trans rfl, (blk_cell BK124.out 1).trans rfl, (blk_cell BK124.out 2).trans rfl, (blk_cell BK125.out 0).trans rfl, (blk_cell BK125.out 1).trans rfl, (blk_cell BK125.out 2).trans rfl⟩ (fun hHeld => ?_)
            clear hK K
            refine norm_ (a' := ?_) ?_ ?_
            rotate_left
            ·show Act.put _ (some 95) _ = _
             simp only [Act.put, List.setIfInBounds_toArray, List.set_cons_zero, List.set_cons_succ, i64_w, i32_w]
             rfl
            refine pure_ (i := 28) (N := some 96) (v := ?_) (a' := ?_) #[true,true,true,true,true,true,true,true,true,true,true,true,true,true,true,true,true,true,true,true,true,true,true,true,true,true,true,true,true,false,true,true,false,false,false,false,false,false] rfl rfl (any_of HT_.out (by kernel_rfl)) (fun _ _ _ h => h) (Or.inl ⟨by rfl, ?_⟩) ?_ ?_
            rotate_left
            ·intro w'
             go_simp
             with_reducible rfl
            rotate_left
            ·simp only [Act.put, List.setIfInBounds_toArray, List.set_cons_zero, List.set_cons_succ, i64_w, i32_w]
             rfl
            refine pure_ (i := 29) (N := some 97) (v := ?_) (a' := ?_) #[true,true,true,true,true,true,true,true,true,true,true,true,true,true,true,true,true,true,true,true,true,true,true,true,true,true,true,true,true,true,true,true,false,false,false,false,false,false] rfl rfl (any_of HT_.out (by kernel_rfl)) (fun _ _ _ h => h) (Or.inl ⟨by rfl, ?_⟩) ?_ ?_
            rotate_left
            ·intro w'
             go_simp
             with_reducible rfl
            rotate_left
            ·simp only [Act.put, List.setIfInBounds_toArray, List.set_cons_zero, List.set_cons_succ, i64_w, i32_w]
             rfl
            refine pure_ (i := 32) (N := some 100) (v := ?_) (a' := ?_) #[true,true,true,true,true,true,true,true,true,true,true,true,true,true,true,true,true,true,true,true,true,true,true,true,true,true,true,true,true,true,true,true,true,false,false,false,false,false] rfl rfl (any_of HT_.out (by kernel_rfl)) (fun _ _ _ h => h) (Or.inl ⟨by rfl, ?_⟩) ?_ ?_
            rotate_left
            ·intro w'
             go_simp
             with_reducible rfl
            rotate_left
            ·simp only [Act.put, List.setIfInBounds_toArray, List.set_cons_zero, List.set_cons_succ, i64_w, i32_w]
             rfl
            refine pure_ (i := 33) (N := some 101) (v := ?_) (a' := ?_) #[true,true,true,true,true,true,true,true,true,true,true,true,true,true,true,true,true,true,true,true,true,true,true,true,true,true,true,true,true,true,true,true,true,true,false,false,false,false] rfl rfl (any_of HT_.out (by kernel_rfl)) (fun _ _ _ h => h) (Or.inl ⟨by rfl, ?_⟩) ?_ ?_
            rotate_left
            ·intro w'
             go_simp
             with_reducible rfl
            rotate_left
            ·simp only [Act.put, List.setIfInBounds_toArray, List.set_cons_zero, List.set_cons_succ, i64_w, i32_w]
             rfl
            refine pure_ (i := 34) (N := some 102) (v := ?_) (a' := ?_) #[true,true,true,true,true,true,true,true,true,true,true,true,true,true,true,true,true,true,true,true,true,true,true,true,true,true,true,true,true,true,true,true,true,true,true,false,false,false] rfl rfl (any_of HT_.out (by kernel_rfl)) (fun _ _ _ h => h) (Or.inl ⟨by rfl, ?_⟩) ?_ ?_
            rotate_left
            ·intro w'
             go_simp
             with_reducible rfl
            rotate_left
            ·simp only [Act.put, List.setIfInBounds_toArray, List.set_cons_zero, List.set_cons_succ, i64_w, i32_w]
             rfl
            refine one_ (i := 35) (N := some 103) #[true,true,true,true,true,true,true,true,true,true,true,true,true,true,true,true,true,true,true,true,true,true,true,true,true,true,true,true,true,true,true,true,true,true,true,true,false,false] rfl rfl (one_of HT_.out (by kernel_rfl)) (by decide) (fun K hK => ?_)
            refine goes_ Tryz.func14 (by kernel_rfl) rfl #[] (by rfl) rfl rfl (by (try simp only [List.map_toArray, List.map_cons, List.map_nil]); first | done | rfl | (simp only [List.length_drop, List.length_take]; rfl)) ?_
            with_reducible refine (folkmootlaw08_live.calls  t170 _ A70.out).mono ?_
            rintro e w90 ⟨rfl, hb⟩
            refine ⟨_, rfl, ?_⟩
            have n0_ := Aside0.mk (Kd.R_below (by (with_reducible repeat (first | apply Kd.R_alloc | apply Kd.R_drewN | apply Kd.R_drew)); first | exact HO_7.out | exact Kd.R_mono HO_7.out (fun _ hk => hk.1) | exact Kd.R_mono HO_7.out (fun _ _ => trivial)) hb)
            have n1_ := Aside0.mk (Kd.R_below (by (with_reducible repeat (first | apply Kd.R_alloc | apply Kd.R_drewN | apply Kd.R_drew)); first | exact HO152.out | exact Kd.R_mono HO152.out (fun _ hk => hk.1) | exact Kd.R_mono HO152.out (fun _ _ => trivial)) hb)
            have n2_ := Aside0.mk (Kd.R_below (by (with_reducible repeat (first | apply Kd.R_alloc | apply Kd.R_drewN | apply Kd.R_drew)); first | exact HO155.out | exact Kd.R_mono HO155.out (fun _ hk => hk.1) | exact Kd.R_mono HO155.out (fun _ _ => trivial)) hb)
            have n3_ := Aside0.mk (Kd.R_below (by (with_reducible repeat (first | apply Kd.R_alloc | apply Kd.R_drewN | apply Kd.R_drew)); first | exact HO159.out | exact Kd.R_mono HO159.out (fun _ hk => hk.1) | exact Kd.R_mono HO159.out (fun _ _ => trivial)) hb)
            have n4_ := Aside0.mk (Kd.R_below (by (with_reducible repeat (first | apply Kd.R_alloc | apply Kd.R_drewN | apply Kd.R_drew)); first | exact HO162.out | exact Kd.R_mono HO162.out (fun _ hk => hk.1) | exact Kd.R_mono HO162.out (fun _ _ => trivial)) hb)
            have n5_ := Aside0.mk (Kd.R_below (by (with_reducible repeat (first | apply Kd.R_alloc | apply Kd.R_drewN | apply Kd.R_drew)); first | exact HO166.out | exact Kd.R_mono HO166.out (fun _ hk => hk.1) | exact Kd.R_mono HO166.out (fun _ _ => trivial)) hb)
            have n6_ := Aside0.mk (Kd.R_below (by (with_reducible repeat (first | apply Kd.R_alloc | apply Kd.R_drewN | apply Kd.R_drew)); first | exact HO169.out | exact Kd.R_mono HO169.out (fun _ hk => hk.1) | exact Kd.R_mono HO169.out (fun _ _ => trivial)) hb)
            have n7_ := Aside0.mk (blk_below (g := gb124) (o := .cells #[.string a1_0, .int .u64 a1_1, .bool a1_2] 69 (0, 0)) (by (with_reducible repeat (first | refine blk_drewN ?_ _ | refine blk_drew ?_ | refine blk_alloc ?_ _)); exact BK124.out) hb)
            have n8_ := Aside0.mk (blk_below (g := gb125) (o := .cells #[.string a2_0, .int .u64 a2_1, .bool a2_2] 69 (0, 0)) (by (with_reducible repeat (first | refine blk_drewN ?_ _ | refine blk_drew ?_ | refine blk_alloc ?_ _)); exact BK125.out) hb)
            have n9_ := Aside0.mk (below_step (by repeat (first | (with_reducible first | exact HB.out | apply below_alloc | apply pw_below_drewN | apply below_drew1 | refine below_set ?_ GE124.out | refine below_set ?_ GE125.out) | exact HB.out)) hb)
            clear HO_7
            clear HO152
            clear HO155
            clear HO159
            clear HO162
            clear HO166
            clear HO169
            clear BK124
            clear BK125
            clear HB
            have HO_7 := n0_
            have HO152 := n1_
            have HO155 := n2_
            have HO159 := n3_
            have HO162 := n4_
            have HO166 := n5_
            have HO169 := n6_
            have BK124 := n7_
            have BK125 := n8_
            have HB := n9_
            clear n0_ n1_ n2_ n3_ n4_ n5_ n6_ n7_ n8_ n9_
            (try clear hb)
            (try clear hb2)
            (try clear hk)
            (try clear hi)
            refine hK.out _ _ ⟨(blk_cell BK124.out 0).trans rfl, (blk_cell BK124.out 1).trans rfl, (blk_cell BK124.out 2).trans rfl, (blk_cell BK125.out 0).trans rfl, (blk_cell BK125.out 1).trans rfl, (blk_cell BK125.out 2).trans rfl⟩ (fun hHeld => ?_)
            clear hK K
            refine norm_ (a' := ?_) ?_ ?_
            rotate_left
            ·show Act.put _ (some 103) _ = _
             simp only [Act.put, List.setIfInBounds_toArray, List.set_cons_zero, List.set_cons_succ, i64_w, i32_w]
             rfl
            refine pure_ (i := 36) (N := some 104) (v := ?_) (a' := ?_) #[true,true,true,true,true,true,true,true,true,true,true,true,true,true,true,true,true,true,true,true,true,true,true,true,true,true,true,true,true,true,true,true,true,true,true,true,true,false] rfl rfl (any_of HT_.out (by kernel_rfl)) (fun _ _ _ h => h) (Or.inl ⟨by rfl, ?_⟩) ?_ ?_
            rotate_left
            ·intro w'
             go_simp
             with_reducible rfl
            rotate_left
            ·simp only [Act.put, List.setIfInBounds_toArray, List.set_cons_zero, List.set_cons_succ, i64_w, i32_w]
             rfl
            refine pure_ (i := 37) (N := some 6) (v := ?_) (a' := ?_) #[true,true,true,true,true,true,true,true,true,true,true,true,true,true,true,true,true,true,true,true,true,true,true,true,true,true,true,true,true,true,true,true,true,true,true,true,true,true] rfl rfl (any_of HT_.out (by kernel_rfl)) (fun _ _ _ h => h) (Or.inl ⟨by rfl, ?_⟩) ?_ ?_
            rotate_left
            ·intro w'
             go_simp
             with_reducible rfl
            rotate_left
            ·simp only [Act.put, List.setIfInBounds_toArray, List.set_cons_zero, List.set_cons_succ, i64_w, i32_w]
             rfl
            refine done_ (done_of HT_.out (by kernel_rfl)) ?_
            try go_wp2
            go_ret
            exact ⟨by first | rfl | (rw [bl_gt] <;> rfl) | (simp [errW_none, errW_some] <;> rfl) | (simp [*, errW_none, errW_some] <;> rfl), by repeat (first | (with_reducible first | exact HB.out | apply below_alloc | apply pw_below_drewN | apply below_drew1 | refine below_set ?_ GE124.out | refine below_set ?_ GE125.out) | exact HB.out)⟩
           ·rw [if_neg c69] at H
            exact absurd ((Option.some.inj H).trans hr_.out) (by decide)
          ·rw [if_neg c67] at H
           exact absurd H (by simp)
         ·replace c66 := Bool.eq_false_iff.mpr c66
          subst c66
          have H1 : (some false) = some r := by rw [if_neg (show ¬ (false = true) by decide)] at H; exact H
          exact absurd ((Option.some.inj H1).trans hr_.out) (by decide)
        ·replace c63 := Bool.eq_false_iff.mpr c63
         subst c63
         have H1 : (some false) = some r := by rw [if_neg (show ¬ (false = true) by decide)] at H; exact H
         exact absurd ((Option.some.inj H1).trans hr_.out) (by decide)
       ·rw [if_neg c61] at H
        have c61b0 : (a1_0.toList == a2_0.toList) = false := beq_eq_false_iff_ne.mpr c61
        have c61b1 : (a1_0.toList != a2_0.toList) = true := bne_iff_ne.mpr c61
        obtain ⟨y171, hy171⟩ : ∃ y_ : List (S69), y_ = (([(⟨a2_0, a2_1, a2_2⟩ : S69)] : List (S69))) := ⟨_, rfl⟩
        replace H : ((txn_Apply.f t153 y171).bind fun t174 => ((folkmootref08_Pairs.f kj32 t174 t153).bind fun t177 => (if t177 = true then (if a2_0.size + 1 ≤ 9223372036854775807 then ((txn_Pick.f t153 (([(⟨a2_0, a2_0 ++ (⟨#[0]⟩ : ByteArray)⟩ : S71)] : List (S71)))).bind fun t181 => (if (((t181.length : Int) == 0) == a2_2) = true then ((folkmootlaw08_live.f).bind fun t184 => (some t184)) else (some false))) else (none)) else (some false)))) = some r := by first | (rw [hy171]; with_reducible exact H) | (have H2_ := (Option.bind_some _ _).symm.trans H; rw [hy171]; with_reducible exact H2_) | (have H2_ := (Option.bind_some _ _).symm.trans H; with_reducible exact H2_) | with_reducible exact H | (rw [hy171]; exact H) | exact H
        have Ny171 := Aside0.mk hy171
        clear hy171
        replace H := Option.bind_eq_some_iff.mp H
        obtain ⟨t174, A1330, H⟩ := H
        replace H : ((folkmootref08_Pairs.f kj32 t174 t153).bind fun t177 => (if t177 = true then (if a2_0.size + 1 ≤ 9223372036854775807 then ((txn_Pick.f t153 (([(⟨a2_0, a2_0 ++ (⟨#[0]⟩ : ByteArray)⟩ : S71)] : List (S71)))).bind fun t181 => (if (((t181.length : Int) == 0) == a2_2) = true then ((folkmootlaw08_live.f).bind fun t184 => (some t184)) else (some false))) else (none)) else (some false))) = some r := H
        have A133 := Aside0.mk A1330
        clear A1330
        replace H := Option.bind_eq_some_iff.mp H
        obtain ⟨t177, A1340, H⟩ := H
        replace H : (if t177 = true then (if a2_0.size + 1 ≤ 9223372036854775807 then ((txn_Pick.f t153 (([(⟨a2_0, a2_0 ++ (⟨#[0]⟩ : ByteArray)⟩ : S71)] : List (S71)))).bind fun t181 => (if (((t181.length : Int) == 0) == a2_2) = true then ((folkmootlaw08_live.f).bind fun t184 => (some t184)) else (some false))) else (none)) else (some false)) = some r := H
        have A134 := Aside0.mk A1340
        clear A1340
        by_cases c135 : t177 = true
        ·subst c135
         have H1 : (if a2_0.size + 1 ≤ 9223372036854775807 then ((txn_Pick.f t153 (([(⟨a2_0, a2_0 ++ (⟨#[0]⟩ : ByteArray)⟩ : S71)] : List (S71)))).bind fun t181 => (if (((t181.length : Int) == 0) == a2_2) = true then ((folkmootlaw08_live.f).bind fun t184 => (some t184)) else (some false))) else (none)) = some r := by rw [if_pos rfl] at H; exact H
         clear H
         have H := H1
         clear H1
         by_cases c136 : a2_0.size + 1 ≤ 9223372036854775807
         ·rw [if_pos c136] at H
          have c136b0 := eq_true c136
          have c136b1 : decide (a2_0.size + 1 ≤ 9223372036854775807) = true := decide_eq_true c136
          try have c136b2 : (9223372036854775807 < a2_0.size + 1) = False := eq_false (Nat.not_lt.2 c136)
          obtain ⟨y178, hy178⟩ : ∃ y_ : List (S71), y_ = (([(⟨a2_0, a2_0 ++ (⟨#[0]⟩ : ByteArray)⟩ : S71)] : List (S71))) := ⟨_, rfl⟩
          replace H : ((txn_Pick.f t153 y178).bind fun t181 => (if (((t181.length : Int) == 0) == a2_2) = true then ((folkmootlaw08_live.f).bind fun t184 => (some t184)) else (some false))) = some r := by first | (rw [hy178]; with_reducible exact H) | (have H2_ := (Option.bind_some _ _).symm.trans H; rw [hy178]; with_reducible exact H2_) | (have H2_ := (Option.bind_some _ _).symm.trans H; with_reducible exact H2_) | with_reducible exact H | (rw [hy178]; exact H) | exact H
          have Ny178 := Aside0.mk hy178
          clear hy178
          replace H := Option.bind_eq_some_iff.mp H
          obtain ⟨t181, A1370, H⟩ := H
          replace H : (if (((t181.length : Int) == 0) == a2_2) = true then ((folkmootlaw08_live.f).bind fun t184 => (some t184)) else (some false)) = some r := H
          have A137 := Aside0.mk A1370
          clear A1370
          by_cases c138 : (((t181.length : Int) == 0) == a2_2) = true
          ·rw [if_pos c138] at H
           have c138b0 : (((t181.length : Int) == 0) == a2_2) = true := c138
           (try (have c138b1 : decide (((t181.length : Int) == 0) = a2_2) = true := by simpa using c138))
           (try (have c138b2 : (((t181.length : Int) == 0) == a2_2) = true := by simpa using c138))
           clear c138
           replace H := Option.bind_eq_some_iff.mp H
           obtain ⟨t184, A1390, H⟩ := H
           replace H : (some t184) = some r := H
           have A139 := Aside0.mk A1390
           clear A1390
           obtain rfl := Option.some.inj H
           have hnb140 := NB125_124.out
           have hnc140 := NB124_125.out
           have hcz141_0 : wc.cell? ⟨gb125, 0, none⟩ = some (.string a2_0) := (blk_cell BK125.out 0).trans rfl
           have hcz141_1 : wc.cell? ⟨gb125, 1, none⟩ = some (.int .u64 a2_1) := (blk_cell BK125.out 1).trans rfl
           have hcz141_2 : wc.cell? ⟨gb125, 2, none⟩ = some (.bool a2_2) := (blk_cell BK125.out 2).trans rfl
           have hfz141_0 := blk_frozen BK125.out 0
           have hfz141_1 := blk_frozen BK125.out 1
           have hfz141_2 := blk_frozen BK125.out 2
           try go_wp2_with (first | ((with_reducible refine gate_dst (N := 66) rfl ?_); (try (refine gate_guard (by rfl) ?_; dsimp only)); refine Kd.R_lit k69 _ 69 ?hg (N := 66) ?hd (xs := ([(⟨a2_0, a2_1, a2_2⟩ : S69)] : List (S69))) (inner := [.string a2_0, .int .u64 a2_1, .bool a2_2]) (ok := fun _ => True) (okp := fun _ => True) ?hr ?hp (fun _ hk => hk) trivial (Below.refl _ _) (Nat.le_refl _) (by simp) ?_; (case hd => rfl); (case hg => rfl); (case hr => first | (go_simp; done) | (go_simp; rfl)); (case hp => exact (Reps.c3 (show Kd.M k69 _ _ _ (⟨a2_0, a2_1, a2_2⟩ : S69) [.string a2_0, .int .u64 a2_1, .bool a2_2] from (k69_mkM _ _ _ (⟨a2_0, a2_1, a2_2⟩ : S69) )) (Reps.none _ _))); intro v151 w142 ho143 hb hg_ hnew_; clear hg_ hnew_; (first | rw [← Ny150.out] at ho143 | (simp only [Int.reduceToNat] at ho143; rw [← Ny150.out] at ho143)); have n0_ := Aside0.mk (Kd.R_below (by (with_reducible repeat (first | apply Kd.R_alloc | apply Kd.R_drewN | apply Kd.R_drew)); first | exact HO_7.out | exact Kd.R_mono HO_7.out (fun _ hk => hk.1) | exact Kd.R_mono HO_7.out (fun _ _ => trivial)) hb); have n1_ := Aside0.mk (Kd.R_lower (Kd.R_newB (Kd.R_newB ho143 (g := gb124) (o := .cells #[.string a1_0, .int .u64 a1_1, .bool a1_2] 69 (0, 0)) (by (with_reducible repeat (first | refine blk_drewN ?_ _ | refine blk_drew ?_ | refine blk_alloc ?_ _)); exact BK124.out)) (g := gb125) (o := .cells #[.string a2_0, .int .u64 a2_1, .bool a2_2] 69 (0, 0)) (by (with_reducible repeat (first | refine blk_drewN ?_ _ | refine blk_drew ?_ | refine blk_alloc ?_ _)); exact BK125.out)) (below_size (by repeat (first | (with_reducible first | exact HB.out | apply below_alloc | apply pw_below_drewN | apply below_drew1 | refine below_set ?_ GE124.out | refine below_set ?_ GE125.out) | exact HB.out)))); have n2_ := Aside0.mk (blk_below (g := gb124) (o := .cells #[.string a1_0, .int .u64 a1_1, .bool a1_2] 69 (0, 0)) (by (with_reducible repeat (first | refine blk_drewN ?_ _ | refine blk_drew ?_ | refine blk_alloc ?_ _)); exact BK124.out) hb); have n3_ := Aside0.mk (blk_below (g := gb125) (o := .cells #[.string a2_0, .int .u64 a2_1, .bool a2_2] 69 (0, 0)) (by (with_reducible repeat (first | refine blk_drewN ?_ _ | refine blk_drew ?_ | refine blk_alloc ?_ _)); exact BK125.out) hb); have n4_ := Aside0.mk (below_step (by repeat (first | (with_reducible first | exact HB.out | apply below_alloc | apply pw_below_drewN | apply below_drew1 | refine below_set ?_ GE124.out | refine below_set ?_ GE125.out) | exact HB.out)) hb); clear HO_7; clear BK124; clear BK125; clear HB; have HO_7 := n0_; have HO152 := n1_; have BK124 := n2_; have BK125 := n3_; have HB := n4_; clear n0_ n1_ n2_ n3_ n4_; clear hb ho143; obtain ⟨Ao144, co144, eo144⟩ := Kd.R_slice HO152.out; subst eo144) | ((with_reducible refine gate_callee (f := 32) rfl ?_); refine goesL_ (some 67) rfl rfl Tryz.func32 (by kernel_rfl) rfl #[.slice A0 l0.length c0, .slice Ao144 y150.length co144] rfl (by (try simp only [List.map_toArray, List.map_cons, List.map_nil]); first | done | rfl | (simp only [List.length_drop, List.length_take]; rfl)) ?_; (with_reducible refine (txn_Apply.calls _ _ l0 _ _ y150 t153 _ ?side1 ?side2 ?side3 ?side4 A60.out).mono ?_); (case side1 => repeat (first | exact (Kd.C_below HR0.out HB.out) | (with_reducible refine Kd.C_alloc ?_ _) | (with_reducible refine Kd.C_drewN ?_ _) | (with_reducible refine Kd.C_drew ?_))); (case side2 => exact HC0.out); (case side3 => repeat (first | exact (Kd.R_reads' HO152.out).2.2 | (with_reducible refine Kd.C_alloc ?_ _) | (with_reducible refine Kd.C_drewN ?_ _) | (with_reducible refine Kd.C_drew ?_))); (case side4 => exact (Kd.R_reads' HO152.out).2.1); rintro e w145 ⟨v154, rfl, ho0, hb⟩; refine ⟨_, rfl, ?_⟩; have n0_ := Aside0.mk (Kd.R_elder' (by (with_reducible repeat (first | apply Kd.R_alloc | apply Kd.R_drewN | apply Kd.R_drew)); first | exact HO_7.out | exact Kd.R_mono HO_7.out (fun _ hk => hk.1) | exact Kd.R_mono HO_7.out (fun _ _ => trivial)) (Kd.R_base ho0) hb); have n1_ := Aside0.mk (Kd.R_below (by (with_reducible repeat (first | apply Kd.R_alloc | apply Kd.R_drewN | apply Kd.R_drew)); first | exact HO152.out | exact Kd.R_mono HO152.out (fun _ hk => hk.1) | exact Kd.R_mono HO152.out (fun _ _ => trivial)) hb); have n2_ := Aside0.mk (Kd.R_lower (Kd.R_new' ho0 (Kd.R_lt (by (with_reducible repeat (first | apply Kd.R_alloc | apply Kd.R_drewN | apply Kd.R_drew)); first | exact HO_7.out | exact Kd.R_mono HO_7.out (fun _ hk => hk.1) | exact Kd.R_mono HO_7.out (fun _ _ => trivial)))) (below_size (by repeat (first | (with_reducible first | exact HB.out | apply below_alloc | apply pw_below_drewN | apply below_drew1 | refine below_set ?_ GE124.out | refine below_set ?_ GE125.out) | exact HB.out)))); have n3_ := Aside0.mk (blk_below (g := gb124) (o := .cells #[.string a1_0, .int .u64 a1_1, .bool a1_2] 69 (0, 0)) (by (with_reducible repeat (first | refine blk_drewN ?_ _ | refine blk_drew ?_ | refine blk_alloc ?_ _)); exact BK124.out) hb); have n4_ := Aside0.mk (blk_below (g := gb125) (o := .cells #[.string a2_0, .int .u64 a2_1, .bool a2_2] 69 (0, 0)) (by (with_reducible repeat (first | refine blk_drewN ?_ _ | refine blk_drew ?_ | refine blk_alloc ?_ _)); exact BK125.out) hb); have n5_ := Aside0.mk (below_step (by repeat (first | (with_reducible first | exact HB.out | apply below_alloc | apply pw_below_drewN | apply below_drew1 | refine below_set ?_ GE124.out | refine below_set ?_ GE125.out) | exact HB.out)) hb); clear HO_7; clear HO152; clear BK124; clear BK125; clear HB; have HO_7 := n0_; have HO152 := n1_; have HO155 := n2_; have BK124 := n3_; have BK125 := n4_; have HB := n5_; clear n0_ n1_ n2_ n3_ n4_ n5_; (try clear hb); (try clear hb2); (try clear hk); (try clear hi); (try clear ho0)))
           have n0_ := Aside0.mk (Kd.R_drew HO_7.out)
           have n1_ := Aside0.mk (Kd.R_drew HO152.out)
           have n2_ := Aside0.mk (Kd.R_drew HO155.out)
           have n3_ := Aside0.mk (blk_drew BK124.out)
           have n4_ := Aside0.mk (blk_drew BK125.out)
           have n5_ := Aside0.mk (below_drew1 HB.out)
           clear HO_7
           clear HO152
           clear HO155
           clear BK124
           clear BK125
           clear HB
           have HO_7 := n0_
           have HO152 := n1_
           have HO155 := n2_
           have BK124 := n3_
           have BK125 := n4_
           have HB := n5_
           clear n0_ n1_ n2_ n3_ n4_ n5_
           refine start_ (n := 38) (S := fun w' => w'.cell? ⟨gb124, 0, none⟩ = some (.string a1_0) ∧ w'.cell? ⟨gb124, 1, none⟩ = some (.int .u64 a1_1) ∧ w'.cell? ⟨gb124, 2, none⟩ = some (.bool a1_2) ∧ w'.cell? ⟨gb125, 0, none⟩ = some (.string a2_0) ∧ w'.cell? ⟨gb125, 1, none⟩ = some (.int .u64 a2_1) ∧ w'.cell? ⟨gb125, 2, none⟩ = some (.bool a2_2)) (ds := []) #[false,false,false,false,false,false,false,false,false,false,false,false,false,false,false,false,false,false,false,false,false,false,false,false,false,false,false,false,false,false,false,false,false,false,false,false,false,false] (by kernel_rfl) rfl rfl ⟨(blk_cell BK124.out 0).trans rfl, (blk_cell BK124.out 1).trans rfl, (blk_cell BK124.out 2).trans rfl, (blk_cell BK125.out 0).trans rfl, (blk_cell BK125.out 1).trans rfl, (blk_cell BK125.out 2).trans rfl⟩ (fun hHeld => ?_); refine with_tabW folkmootlaw08_TxnWrites.tab7 folkmootlaw08_TxnWrites.bits7 (fun HT_ HW_ => ?_)
           generalize w145.drew = w146 at HO_7 HO152 HO155 BK124 BK125 HB hHeld ⊢
           refine pure_ (i := 0) (N := some 68) (v := ?_) (a' := ?_) #[true,false,false,false,false,false,false,false,false,false,false,false,false,false,false,false,false,false,false,false,false,false,false,false,false,false,false,false,false,false,false,false,false,false,false,false,false,false] rfl rfl (any_of HT_.out (by kernel_rfl)) (fun _ _ _ h => h) (Or.inl ⟨by rfl, ?_⟩) ?_ ?_
           rotate_left
           ·intro w'
            go_simp
            with_reducible rfl
           rotate_left
           ·simp only [Act.put, List.setIfInBounds_toArray, List.set_cons_zero, List.set_cons_succ, i64_w, i32_w]
            rfl
           refine pure_ (i := 2) (N := some 70) (v := ?_) (a' := ?_) #[true,false,true,false,false,false,false,false,false,false,false,false,false,false,false,false,false,false,false,false,false,false,false,false,false,false,false,false,false,false,false,false,false,false,false,false,false,false] rfl rfl (any_of HT_.out (by kernel_rfl)) (fun _ _ _ h => h) (Or.inl ⟨by rfl, ?_⟩) ?_ ?_
           rotate_left
           ·intro w'
            go_simp
            with_reducible rfl
           rotate_left
           ·simp only [Act.put, List.setIfInBounds_toArray, List.set_cons_zero, List.set_cons_succ, i64_w, i32_w]
            rfl
           refine take_ (i := 1) (N := some 69) (v := ?_) (a' := ?_) #[true,true,true,false,false,false,false,false,false,false,false,false,false,false,false,false,false,false,false,false,false,false,false,false,false,false,false,false,false,false,false,false,false,false,false,false,false,false] rfl rfl (take_ofW HT_.out HW_.out (by kernel_rfl)) (fun _ _ _ h => h) (Or.inl ⟨by rfl, ?_⟩) hHeld ?_ ?_
           rotate_left
           ·rintro w' ⟨s0, s1, s2, s3, s4, s5⟩
            go_simp
            with_reducible rfl
           rotate_left
           ·simp only [Act.put, List.setIfInBounds_toArray, List.set_cons_zero, List.set_cons_succ, i64_w, i32_w]
            rfl
           refine take_ (i := 3) (N := some 71) (v := ?_) (a' := ?_) #[true,true,true,true,false,false,false,false,false,false,false,false,false,false,false,false,false,false,false,false,false,false,false,false,false,false,false,false,false,false,false,false,false,false,false,false,false,false] rfl rfl (take_ofW HT_.out HW_.out (by kernel_rfl)) (fun _ _ _ h => h) (Or.inl ⟨by rfl, ?_⟩) hHeld ?_ ?_
           rotate_left
           ·rintro w' ⟨s0, s1, s2, s3, s4, s5⟩
            go_simp
            with_reducible rfl
           rotate_left
           ·simp only [Act.put, List.setIfInBounds_toArray, List.set_cons_zero, List.set_cons_succ, i64_w, i32_w]
            rfl
           refine pure_ (i := 4) (N := some 72) (v := ?_) (a' := ?_) #[true,true,true,true,true,false,false,false,false,false,false,false,false,false,false,false,false,false,false,false,false,false,false,false,false,false,false,false,false,false,false,false,false,false,false,false,false,false] rfl rfl (any_of HT_.out (by kernel_rfl)) (fun _ _ _ h => h) (Or.inl ⟨by rfl, ?_⟩) ?_ ?_
           rotate_left
           ·intro w'
            go_simp
            with_reducible rfl
           rotate_left
           ·simp only [Act.put, List.setIfInBounds_toArray, List.set_cons_zero, List.set_cons_succ, i64_w, i32_w]
            rfl
           refine pure_ (i := 5) (N := some 73) (v := ?_) (a' := ?_) #[true,true,true,true,true,true,false,false,false,false,false,false,false,false,false,false,false,false,false,false,false,false,false,false,false,false,false,false,false,false,false,false,false,false,false,false,false,false] rfl rfl (any_of HT_.out (by kernel_rfl)) (fun _ _ _ h => h) (Or.inl ⟨by rfl, ?_⟩) ?_ ?_
           rotate_left
           ·intro w'
            go_simp
            with_reducible rfl
           rotate_left
           ·simp only [Act.put, List.setIfInBounds_toArray, List.set_cons_zero, List.set_cons_succ, i64_w, i32_w]
            rfl
           refine pure_ (i := 6) (N := some 74) (v := undef) (a' := ?_) #[true,true,true,true,true,true,true,false,false,false,false,false,false,false,false,false,false,false,false,false,false,false,false,false,false,false,false,false,false,false,false,false,false,false,false,false,false,false] rfl rfl (any_of HT_.out (by kernel_rfl)) (fun _ _ _ h => h) (Or.inr ⟨by rfl, rfl⟩) ?_ ?_
           rotate_left
           ·simp only [Act.put, List.setIfInBounds_toArray, List.set_cons_zero, List.set_cons_succ, i64_w, i32_w]
            rfl
           refine pure_ (i := 7) (N := some 75) (v := undef) (a' := ?_) #[true,true,true,true,true,true,true,true,false,false,false,false,false,false,false,false,false,false,false,false,false,false,false,false,false,false,false,false,false,false,false,false,false,false,false,false,false,false] rfl rfl (any_of HT_.out (by kernel_rfl)) (fun _ _ _ h => h) (Or.inr ⟨by rfl, rfl⟩) ?_ ?_
           rotate_left
           ·simp only [Act.put, List.setIfInBounds_toArray, List.set_cons_zero, List.set_cons_succ, i64_w, i32_w]
            rfl
           refine pure_ (i := 8) (N := some 76) (v := undef) (a' := ?_) #[true,true,true,true,true,true,true,true,true,false,false,false,false,false,false,false,false,false,false,false,false,false,false,false,false,false,false,false,false,false,false,false,false,false,false,false,false,false] rfl rfl (any_of HT_.out (by kernel_rfl)) (fun _ _ _ h => h) (Or.inr ⟨by rfl, rfl⟩) ?_ ?_
           rotate_left
           ·simp only [Act.put, List.setIfInBounds_toArray, List.set_cons_zero, List.set_cons_succ, i64_w, i32_w]
            rfl
           refine pure_ (i := 9) (N := some 77) (v := ?_) (a' := ?_) #[true,true,true,true,true,true,true,true,true,true,false,false,false,false,false,false,false,false,false,false,false,false,false,false,false,false,false,false,false,false,false,false,false,false,false,false,false,false] rfl rfl (any_of HT_.out (by kernel_rfl)) (fun _ _ _ h => h) (Or.inl ⟨by rfl, ?_⟩) ?_ ?_
           rotate_left
           ·intro w'
            go_simp
            with_reducible rfl
           rotate_left
           ·simp only [Act.put, List.setIfInBounds_toArray, List.set_cons_zero, List.set_cons_succ, i64_w, i32_w]
            rfl
           refine pure_ (i := 10) (N := some 78) (v := ?_) (a' := ?_) #[true,true,true,true,true,true,true,true,true,true,true,false,false,false,false,false,false,false,false,false,false,false,false,false,false,false,false,false,false,false,false,false,false,false,false,false,false,false] rfl rfl (any_of HT_.out (by kernel_rfl)) (fun _ _ _ h => h) (Or.inl ⟨by rfl, ?_⟩) ?_ ?_
           rotate_left
           ·intro w'
            go_simp
            with_reducible rfl
           rotate_left
           ·simp only [Act.put, List.setIfInBounds_toArray, List.set_cons_zero, List.set_cons_succ, i64_w, i32_w]
            rfl
           refine pure_ (i := 11) (N := some 79) (v := ?_) (a' := ?_) #[true,true,true,true,true,true,true,true,true,true,true,true,false,false,false,false,false,false,false,false,false,false,false,false,false,false,false,false,false,false,false,false,false,false,false,false,false,false] rfl rfl (any_of HT_.out (by kernel_rfl)) (fun _ _ _ h => h) (Or.inl ⟨by rfl, ?_⟩) ?_ ?_
           rotate_left
           ·intro w'
            go_simp
            with_reducible rfl
           rotate_left
           ·simp only [Act.put, List.setIfInBounds_toArray, List.set_cons_zero, List.set_cons_succ, i64_w, i32_w]
            rfl
           refine pure_ (i := 15) (N := some 83) (v := ?_) (a' := ?_) #[true,true,true,true,true,true,true,true,true,true,true,true,false,false,false,true,false,false,false,false,false,false,false,false,false,false,false,false,false,false,false,false,false,false,false,false,false,false] rfl rfl (any_of HT_.out (by kernel_rfl)) (fun _ _ _ h => h) (Or.inl ⟨by rfl, ?_⟩) ?_ ?_
           rotate_left
           ·intro w'
            go_simp
            with_reducible rfl
           rotate_left
           ·simp only [Act.put, List.setIfInBounds_toArray, List.set_cons_zero, List.set_cons_succ, i64_w, i32_w]
            rfl
           refine take_ (i := 12) (N := some 80) (v := ?_) (a' := ?_) #[true,true,true,true,true,true,true,true,true,true,true,true,true,false,false,true,false,false,false,false,false,false,false,false,false,false,false,false,false,false,false,false,false,false,false,false,false,false] rfl rfl (take_ofW HT_.out HW_.out (by kernel_rfl)) (fun _ _ _ h => h) (Or.inl ⟨by rfl, ?_⟩) hHeld ?_ ?_
           rotate_left
           ·rintro w' ⟨s0, s1, s2, s3, s4, s5⟩
            go_simp
            with_reducible rfl
           rotate_left
           ·simp only [Act.put, List.setIfInBounds_toArray, List.set_cons_zero, List.set_cons_succ, i64_w, i32_w]
            rfl
           refine one_ (i := 13) (N := some 81) #[true,true,true,true,true,true,true,true,true,true,true,true,true,true,false,true,false,false,false,false,false,false,false,false,false,false,false,false,false,false,false,false,false,false,false,false,false,false] rfl rfl (one_of HT_.out (by kernel_rfl)) (by decide) (fun K hK => ?_)
           refine Kd.R_lit_step k69 _ 69 ?hg (N := 81) ?hd (xs := ([(⟨a2_0, a2_1, a2_2⟩ : S69)] : List (S69))) (inner := [.string a2_0, .int .u64 a2_1, .bool a2_2]) (ok := fun _ => True) (okp := fun _ => True) ?hr ?hp (fun _ hk => hk) trivial (Below.refl _ _) (Nat.le_refl _) (by simp) ?_; (case hd => rfl); (case hg => rfl); (case hr => first | (go_simp; done) | (go_simp; rfl)); (case hp => exact (Reps.c3 (show Kd.M k69 _ _ _ (⟨a2_0, a2_1, a2_2⟩ : S69) [.string a2_0, .int .u64 a2_1, .bool a2_2] from (k69_mkM _ _ _ (⟨a2_0, a2_1, a2_2⟩ : S69) )) (Reps.none _ _)))
           intro v172 w147 ho148 hb hg_ hnew_
           clear hg_ hnew_
           (first | rw [← Ny171.out] at ho148 | (simp only [Int.reduceToNat] at ho148; rw [← Ny171.out] at ho148))
           have n0_ := Aside0.mk (Kd.R_below (by (with_reducible repeat (first | apply Kd.R_alloc | apply Kd.R_drewN | apply Kd.R_drew)); first | exact HO_7.out | exact Kd.R_mono HO_7.out (fun _ hk => hk.1) | exact Kd.R_mono HO_7.out (fun _ _ => trivial)) hb)
           have n1_ := Aside0.mk (Kd.R_elder' (by (with_reducible repeat (first | apply Kd.R_alloc | apply Kd.R_drewN | apply Kd.R_drew)); first | exact HO152.out | exact Kd.R_mono HO152.out (fun _ hk => hk.1) | exact Kd.R_mono HO152.out (fun _ _ => trivial)) (Kd.R_base ho148) hb)
           have n2_ := Aside0.mk (Kd.R_below (by (with_reducible repeat (first | apply Kd.R_alloc | apply Kd.R_drewN | apply Kd.R_drew)); first | exact HO155.out | exact Kd.R_mono HO155.out (fun _ hk => hk.1) | exact Kd.R_mono HO155.out (fun _ _ => trivial)) hb)
           have n3_ := Aside0.mk (Kd.R_lower (Kd.R_newB (Kd.R_newB (Kd.R_new' ho148 (Kd.R_lt (by (with_reducible repeat (first | apply Kd.R_alloc | apply Kd.R_drewN | apply Kd.R_drew)); first | exact HO152.out | exact Kd.R_mono HO152.out (fun _ hk => hk.1) | exact Kd.R_mono HO152.out (fun _ _ => trivial)))) (g := gb124) (o := .cells #[.string a1_0, .int .u64 a1_1, .bool a1_2] 69 (0, 0)) (by (with_reducible repeat (first | refine blk_drewN ?_ _ | refine blk_drew ?_ | refine blk_alloc ?_ _)); exact BK124.out)) (g := gb125) (o := .cells #[.string a2_0, .int .u64 a2_1, .bool a2_2] 69 (0, 0)) (by (with_reducible repeat (first | refine blk_drewN ?_ _ | refine blk_drew ?_ | refine blk_alloc ?_ _)); exact BK125.out)) (below_size (by repeat (first | (with_reducible first | exact HB.out | apply below_alloc | apply pw_below_drewN | apply below_drew1 | refine below_set ?_ GE124.out | refine below_set ?_ GE125.out) | exact HB.out))))
           have n4_ := Aside0.mk (blk_below (g := gb124) (o := .cells #[.string a1_0, .int .u64 a1_1, .bool a1_2] 69 (0, 0)) (by (with_reducible repeat (first | refine blk_drewN ?_ _ | refine blk_drew ?_ | refine blk_alloc ?_ _)); exact BK124.out) hb)
           have n5_ := Aside0.mk (blk_below (g := gb125) (o := .cells #[.string a2_0, .int .u64 a2_1, .bool a2_2] 69 (0, 0)) (by (with_reducible repeat (first | refine blk_drewN ?_ _ | refine blk_drew ?_ | refine blk_alloc ?_ _)); exact BK125.out) hb)
           have n6_ := Aside0.mk (below_step (by repeat (first | (with_reducible first | exact HB.out | apply below_alloc | apply pw_below_drewN | apply below_drew1 | refine below_set ?_ GE124.out | refine below_set ?_ GE125.out) | exact HB.out)) hb)
           clear HO_7
           clear HO152
           clear HO155
           clear BK124
           clear BK125
           clear HB
           have HO_7 := n0_
           have HO152 := n1_
           have HO155 := n2_
           have HO173 := n3_
           have BK124 := n4_
           have BK125 := n5_
           have HB := n6_
           clear n0_ n1_ n2_ n3_ n4_ n5_ n6_
           clear hb ho148
           obtain ⟨Ao149, co149, eo149⟩ := Kd.R_slice HO155.out
           (first | subst eo149 | (injection eo149 with f1_ f2_ f3_; have f4_ := f1_.symm; have f5_ := f3_.symm; clear f1_ f2_ f3_; subst f4_; subst f5_))
           obtain ⟨Ao150, co150, eo150⟩ := Kd.R_slice HO173.out
           (first | subst eo150 | (injection eo150 with f1_ f2_ f3_; have f4_ := f1_.symm; have f5_ := f3_.symm; clear f1_ f2_ f3_; subst f4_; subst f5_))
           refine hK.out _ _ ⟨(blk_cell BK124.out 0).trans rfl, (blk_cell BK124.out 1).trans rfl, (blk_cell BK124.out 2).trans rfl, (blk_cell BK125.out 0).trans rfl, (blk_cell BK125.out 1).trans rfl, (blk_cell BK125.out 2).trans rfl⟩ (fun hHeld => ?_)
           clear hK K
           refine norm_ (a' := ?_) ?_ ?_
           rotate_left
           ·show Act.put _ (some 81) _ = _
            simp only [Act.put, List.setIfInBounds_toArray, List.set_cons_zero, List.set_cons_succ, i64_w, i32_w]
            rfl
           refine one_ (i := 14) (N := some 82) #[true,true,true,true,true,true,true,true,true,true,true,true,true,true,true,true,false,false,false,false,false,false,false,false,false,false,false,false,false,false,false,false,false,false,false,false,false,false] rfl rfl (one_of HT_.out (by kernel_rfl)) (by decide) (fun K hK => ?_)
           refine goes_ Tryz.func32 (by kernel_rfl) rfl #[.slice Ao149 t153.length co149, .slice Ao150 y171.length co150] (by rfl) rfl rfl (by (try simp only [List.map_toArray, List.map_cons, List.map_nil]); first | done | rfl | (simp only [List.length_drop, List.length_take]; rfl)) ?_
           with_reducible refine (txn_Apply.calls _ _ t153 _ _ y171 t174 _ ?side1 ?side2 ?side3 ?side4 A133.out).mono ?_
           (case side1 => repeat (first | exact (Kd.R_reads' HO155.out).2.2 | (with_reducible refine Kd.C_alloc ?_ _) | (with_reducible refine Kd.C_drewN ?_ _) | (with_reducible refine Kd.C_drew ?_)))
           (case side2 => exact (Kd.R_reads' HO155.out).2.1)
           (case side3 => repeat (first | exact (Kd.R_reads' HO173.out).2.2 | (with_reducible refine Kd.C_alloc ?_ _) | (with_reducible refine Kd.C_drewN ?_ _) | (with_reducible refine Kd.C_drew ?_)))
           (case side4 => exact (Kd.R_reads' HO173.out).2.1)
           rintro e w151 ⟨v175, rfl, ho0, hb⟩
           refine ⟨_, rfl, ?_⟩
           have n0_ := Aside0.mk (Kd.R_elder' (by (with_reducible repeat (first | apply Kd.R_alloc | apply Kd.R_drewN | apply Kd.R_drew)); first | exact HO_7.out | exact Kd.R_mono HO_7.out (fun _ hk => hk.1) | exact Kd.R_mono HO_7.out (fun _ _ => trivial)) (Kd.R_base ho0) hb)
           have n1_ := Aside0.mk (Kd.R_below (by (with_reducible repeat (first | apply Kd.R_alloc | apply Kd.R_drewN | apply Kd.R_drew)); first | exact HO152.out | exact Kd.R_mono HO152.out (fun _ hk => hk.1) | exact Kd.R_mono HO152.out (fun _ _ => trivial)) hb)
           have n2_ := Aside0.mk (Kd.R_elder' (by (with_reducible repeat (first | apply Kd.R_alloc | apply Kd.R_drewN | apply Kd.R_drew)); first | exact HO155.out | exact Kd.R_mono HO155.out (fun _ hk => hk.1) | exact Kd.R_mono HO155.out (fun _ _ => trivial)) (Kd.R_base ho0) hb)
           have n3_ := Aside0.mk (Kd.R_below (by (with_reducible repeat (first | apply Kd.R_alloc | apply Kd.R_drewN | apply Kd.R_drew)); first | exact HO173.out | exact Kd.R_mono HO173.out (fun _ hk => hk.1) | exact Kd.R_mono HO173.out (fun _ _ => trivial)) hb)
           have n4_ := Aside0.mk (Kd.R_lower (Kd.R_new' (Kd.R_new' ho0 (Kd.R_lt (by (with_reducible repeat (first | apply Kd.R_alloc | apply Kd.R_drewN | apply Kd.R_drew)); first | exact HO_7.out | exact Kd.R_mono HO_7.out (fun _ hk => hk.1) | exact Kd.R_mono HO_7.out (fun _ _ => trivial)))) (Kd.R_lt (by (with_reducible repeat (first | apply Kd.R_alloc | apply Kd.R_drewN | apply Kd.R_drew)); first | exact HO155.out | exact Kd.R_mono HO155.out (fun _ hk => hk.1) | exact Kd.R_mono HO155.out (fun _ _ => trivial)))) (below_size (by repeat (first | (with_reducible first | exact HB.out | apply below_alloc | apply pw_below_drewN | apply below_drew1 | refine below_set ?_ GE124.out | refine below_set ?_ GE125.out) | exact HB.out))))
           have n5_ := Aside0.mk (blk_below (g := gb124) (o := .cells #[.string a1_0, .int .u64 a1_1, .bool a1_2] 69 (0, 0)) (by (with_reducible repeat (first | refine blk_drewN ?_ _ | refine blk_drew ?_ | refine blk_alloc ?_ _)); exact BK124.out) hb)
           have n6_ := Aside0.mk (blk_below (g := gb125) (o := .cells #[.string a2_0, .int .u64 a2_1, .bool a2_2] 69 (0, 0)) (by (with_reducible repeat (first | refine blk_drewN ?_ _ | refine blk_drew ?_ | refine blk_alloc ?_ _)); exact BK125.out) hb)
           have n7_ := Aside0.mk (below_step (by repeat (first | (with_reducible first | exact HB.out | apply below_alloc | apply pw_below_drewN | apply below_drew1 | refine below_set ?_ GE124.out | refine below_set ?_ GE125.out) | exact HB.out)) hb)
           clear HO_7
           clear HO152
           clear HO155
           clear HO173
           clear BK124
           clear BK125
           clear HB
           have HO_7 := n0_
           have HO152 := n1_
           have HO155 := n2_
           have HO173 := n3_
           have HO176 := n4_
           have BK124 := n5_
           have BK125 := n6_
           have HB := n7_
           clear n0_ n1_ n2_ n3_ n4_ n5_ n6_ n7_
           (try clear hb)
           (try clear hb2)
           (try clear hk)
           (try clear hi)
           (try clear ho0)
           obtain ⟨Ao152, co152, eo152⟩ := Kd.R_slice HO176.out
           (first | subst eo152 | (injection eo152 with f1_ f2_ f3_; have f4_ := f1_.symm; have f5_ := f3_.symm; clear f1_ f2_ f3_; subst f4_; subst f5_))
           refine hK.out _ _ ⟨(blk_cell BK124.out 0).trans rfl, (blk_cell BK124.out 1).trans rfl, (blk_cell BK124.out 2).trans rfl, (blk_cell BK125.out 0).trans rfl, (blk_cell BK125.out 1).trans rfl, (blk_cell BK125.out 2).trans rfl⟩ (fun hHeld => ?_)
           clear hK K
           refine norm_ (a' := ?_) ?_ ?_
           rotate_left
           ·show Act.put _ (some 82) _ = _
            simp only [Act.put, List.setIfInBounds_toArray, List.set_cons_zero, List.set_cons_succ, i64_w, i32_w]
            rfl
           refine one_ (i := 16) (N := some 84) #[true,true,true,true,true,true,true,true,true,true,true,true,true,true,true,true,true,false,false,false,false,false,false,false,false,false,false,false,false,false,false,false,false,false,false,false,false,false] rfl rfl (one_of HT_.out (by kernel_rfl)) (by decide) (fun K hK => ?_)
           refine goes_ Tryz.func31 (by kernel_rfl) rfl #[.slice Ao152 t174.length co152, .slice Ao149 t153.length co149] (by rfl) rfl rfl (by (try simp only [List.map_toArray, List.map_cons, List.map_nil]); first | done | rfl | (simp only [List.length_drop, List.length_take]; rfl)) ?_
           with_reducible refine (folkmootref08_Pairs.calls kj32 _ _ t174 _ _ t153 true _ ?side1 ?side2 ?side3 ?side4 A134.out).mono ?_
           (case side1 => repeat (first | exact (Kd.R_reads' HO176.out).2.2 | (with_reducible refine Kd.C_alloc ?_ _) | (with_reducible refine Kd.C_drewN ?_ _) | (with_reducible refine Kd.C_drew ?_)))
           (case side2 => exact (Kd.R_reads' HO176.out).2.1)
           (case side3 => repeat (first | exact (Kd.R_reads' HO155.out).2.2 | (with_reducible refine Kd.C_alloc ?_ _) | (with_reducible refine Kd.C_drewN ?_ _) | (with_reducible refine Kd.C_drew ?_)))
           (case side4 => exact (Kd.R_reads' HO155.out).2.1)
           rintro e w' ⟨rfl, ⟨nd, rfl⟩⟩
           refine ⟨_, rfl, ?_⟩
           refine hK.out _ _ ⟨(blk_cell BK124.out 0).trans rfl, (blk_cell BK124.out 1).trans rfl, (blk_cell BK124.out 2).trans rfl, (blk_cell BK125.out 0).trans rfl, (blk_cell BK125.out 1).trans rfl, (blk_cell BK125.out 2).trans rfl⟩ (fun hHeld => ?_)
           clear hK K
           refine norm_ (a' := ?_) ?_ ?_
           rotate_left
           ·show Act.put _ (some 84) _ = _
            simp only [Act.put, List.setIfInBounds_toArray, List.set_cons_zero, List.set_cons_succ, i64_w, i32_w]
            rfl
           refine pure_ (i := 17) (N := some 85) (v := ?_) (a' := ?_) #[true,true,true,true,true,true,true,true,true,true,true,true,true,true,true,true,true,true,false,false,false,false,false,false,false,false,false,false,false,false,false,false,false,false,false,false,false,false] rfl rfl (any_of HT_.out (by kernel_rfl)) (fun _ _ _ h => h) (Or.inl ⟨by rfl, ?_⟩) ?_ ?_
           rotate_left
           ·intro w'
            go_simp
            with_reducible rfl
           rotate_left
           ·simp only [Act.put, List.setIfInBounds_toArray, List.set_cons_zero, List.set_cons_succ, i64_w, i32_w]
            rfl
           refine pure_ (i := 18) (N := some 86) (v := ?_) (a' := ?_) #[true,true,true,true,true,true,true,true,true,true,true,true,true,true,true,true,true,true,true,false,false,false,false,false,false,false,false,false,false,false,false,false,false,false,false,false,false,false] rfl rfl (any_of HT_.out (by kernel_rfl)) (fun _ _ _ h => h) (Or.inl ⟨by rfl, ?_⟩) ?_ ?_
           rotate_left
           ·intro w'
            go_simp
            with_reducible rfl
           rotate_left
           ·simp only [Act.put, List.setIfInBounds_toArray, List.set_cons_zero, List.set_cons_succ, i64_w, i32_w]
            rfl
           refine pure_ (i := 19) (N := some 87) (v := ?_) (a' := ?_) #[true,true,true,true,true,true,true,true,true,true,true,true,true,true,true,true,true,true,true,true,false,false,false,false,false,false,false,false,false,false,false,false,false,false,false,false,false,false] rfl rfl (any_of HT_.out (by kernel_rfl)) (fun _ _ _ h => h) (Or.inl ⟨by rfl, ?_⟩) ?_ ?_
           rotate_left
           ·intro w'
            go_simp
            with_reducible rfl
           rotate_left
           ·simp only [Act.put, List.setIfInBounds_toArray, List.set_cons_zero, List.set_cons_succ, i64_w, i32_w]
            rfl
           refine pure_ (i := 20) (N := some 88) (v := ?_) (a' := ?_) #[true,true,true,true,true,true,true,true,true,true,true,true,true,true,true,true,true,true,true,true,true,false,false,false,false,false,false,false,false,false,false,false,false,false,false,false,false,false] rfl rfl (any_of HT_.out (by kernel_rfl)) (fun _ _ _ h => h) (Or.inl ⟨by rfl, ?_⟩) ?_ ?_
           rotate_left
           ·intro w'
            go_simp
            with_reducible rfl
           rotate_left
           ·simp only [Act.put, List.setIfInBounds_toArray, List.set_cons_zero, List.set_cons_succ, i64_w, i32_w]
            rfl
           refine pure_ (i := 22) (N := some 90) (v := ?_) (a' := ?_) #[true,true,true,true,true,true,true,true,true,true,true,true,true,true,true,true,true,true,true,true,true,false,true,false,false,false,false,false,false,false,false,false,false,false,false,false,false,false] rfl rfl (any_of HT_.out (by kernel_rfl)) (fun _ _ _ h => h) (Or.inl ⟨by rfl, ?_⟩) ?_ ?_
           rotate_left
           ·intro w'
            go_simp
            with_reducible rfl
           rotate_left
           ·simp only [Act.put, List.setIfInBounds_toArray, List.set_cons_zero, List.set_cons_succ, i64_w, i32_w]
            rfl
           refine pure_ (i := 30) (N := some 98) (v := ?_) (a' := ?_) #[true,true,true,true,true,true,true,true,true,true,true,true,true,true,true,true,true,true,true,true,true,false,true,false,false,false,false,false,false,false,true,false,false,false,false,false,false,false] rfl rfl (any_of HT_.out (by kernel_rfl)) (fun _ _ _ h => h) (Or.inl ⟨by rfl, ?_⟩) ?_ ?_
           rotate_left
           ·intro w'
            go_simp
            with_reducible rfl
           rotate_left
           ·simp only [Act.put, List.setIfInBounds_toArray, List.set_cons_zero, List.set_cons_succ, i64_w, i32_w]
            rfl
           refine take_ (i := 21) (N := some 89) (v := ?_) (a' := ?_) #[true,true,true,true,true,true,true,true,true,true,true,true,true,true,true,true,true,true,true,true,true,true,true,false,false,false,false,false,false,false,true,false,false,false,false,false,false,false] rfl rfl (take_ofW HT_.out HW_.out (by kernel_rfl)) (fun _ _ _ h => h) (Or.inl ⟨by rfl, ?_⟩) hHeld ?_ ?_
           rotate_left
           ·rintro w' ⟨s0, s1, s2, s3, s4, s5⟩
            go_simp
            with_reducible rfl
           rotate_left
           ·simp only [Act.put, List.setIfInBounds_toArray, List.set_cons_zero, List.set_cons_succ, i64_w, i32_w]
            rfl
           refine take_ (i := 23) (N := some 91) (v := ?_) (a' := ?_) #[true,true,true,true,true,true,true,true,true,true,true,true,true,true,true,true,true,true,true,true,true,true,true,true,false,false,false,false,false,false,true,false,false,false,false,false,false,false] rfl rfl (take_ofW HT_.out HW_.out (by kernel_rfl)) (fun _ _ _ h => h) (Or.inl ⟨by rfl, ?_⟩) hHeld ?_ ?_
           rotate_left
           ·rintro w' ⟨s0, s1, s2, s3, s4, s5⟩
            go_simp
            with_reducible rfl
           rotate_left
           ·simp only [Act.put, List.setIfInBounds_toArray, List.set_cons_zero, List.set_cons_succ, i64_w, i32_w]
            rfl
           refine pure_ (i := 24) (N := some 92) (v := ?_) (a' := ?_) #[true,true,true,true,true,true,true,true,true,true,true,true,true,true,true,true,true,true,true,true,true,true,true,true,true,false,false,false,false,false,true,false,false,false,false,false,false,false] rfl rfl (any_of HT_.out (by kernel_rfl)) (fun _ _ _ h => h) (Or.inl ⟨by rfl, ?_⟩) ?_ ?_
           rotate_left
           ·intro w'
            go_simp
            with_reducible rfl
           rotate_left
           ·simp only [Act.put, List.setIfInBounds_toArray, List.set_cons_zero, List.set_cons_succ, i64_w, i32_w]
            rfl
           refine pure_ (i := 25) (N := some 93) (v := ?_) (a' := ?_) #[true,true,true,true,true,true,true,true,true,true,true,true,true,true,true,true,true,true,true,true,true,true,true,true,true,true,false,false,false,false,true,false,false,false,false,false,false,false] rfl rfl (any_of HT_.out (by kernel_rfl)) (fun _ _ _ h => h) (Or.inl ⟨by rfl, ?_⟩) ?_ ?_
           rotate_left
           ·intro w'
            go_simp
            with_reducible rfl
           rotate_left
           ·simp only [Act.put, List.setIfInBounds_toArray, List.set_cons_zero, List.set_cons_succ, i64_w, i32_w]
            rfl
           refine take_ (i := 31) (N := some 99) (v := ?_) (a' := ?_) #[true,true,true,true,true,true,true,true,true,true,true,true,true,true,true,true,true,true,true,true,true,true,true,true,true,true,false,false,false,false,true,true,false,false,false,false,false,false] rfl rfl (take_ofW HT_.out HW_.out (by kernel_rfl)) (fun _ _ _ h => h) (Or.inl ⟨by rfl, ?_⟩) hHeld ?_ ?_
           rotate_left
           ·rintro w' ⟨s0, s1, s2, s3, s4, s5⟩
            go_simp
            with_reducible rfl
           rotate_left
           ·simp only [Act.put, List.setIfInBounds_toArray, List.set_cons_zero, List.set_cons_succ, i64_w, i32_w]
            rfl
           refine one_ (i := 26) (N := some 94) #[true,true,true,true,true,true,true,true,true,true,true,true,true,true,true,true,true,true,true,true,true,true,true,true,true,true,true,false,false,false,true,true,false,false,false,false,false,false] rfl rfl (one_of HT_.out (by kernel_rfl)) (by decide) (fun K hK => ?_)
           refine Kd.R_lit_step k71 _ 71 ?hg (N := 94) ?hd (xs := ([(⟨a2_0, a2_0 ++ (⟨#[0]⟩ : ByteArray)⟩ : S71)] : List (S71))) (inner := [.string a2_0, .string (a2_0 ++ (⟨#[0]⟩ : ByteArray))]) (ok := fun _ => True) (okp := fun _ => True) ?hr ?hp (fun _ hk => hk) trivial (Below.refl _ _) (Nat.le_refl _) (by simp) ?_; (case hd => rfl); (case hg => rfl); (case hr => first | (go_simp; done) | (go_simp; rfl)); (case hp => exact (Reps.c2 (show Kd.M k71 _ _ _ (⟨a2_0, a2_0 ++ (⟨#[0]⟩ : ByteArray)⟩ : S71) [.string a2_0, .string (a2_0 ++ (⟨#[0]⟩ : ByteArray))] from (k71_mkM _ _ _ (⟨a2_0, a2_0 ++ (⟨#[0]⟩ : ByteArray)⟩ : S71) )) (Reps.none _ _)))
           intro v179 w153 ho154 hb hg_ hnew_
           clear hg_ hnew_
           (first | rw [← Ny178.out] at ho154 | (simp only [Int.reduceToNat] at ho154; rw [← Ny178.out] at ho154))
           have n0_ := Aside0.mk (Kd.R_below (by (with_reducible repeat (first | apply Kd.R_alloc | apply Kd.R_drewN | apply Kd.R_drew)); first | exact HO_7.out | exact Kd.R_mono HO_7.out (fun _ hk => hk.1) | exact Kd.R_mono HO_7.out (fun _ _ => trivial)) hb)
           have n1_ := Aside0.mk (Kd.R_below (by (with_reducible repeat (first | apply Kd.R_alloc | apply Kd.R_drewN | apply Kd.R_drew)); first | exact HO152.out | exact Kd.R_mono HO152.out (fun _ hk => hk.1) | exact Kd.R_mono HO152.out (fun _ _ => trivial)) hb)
           have n2_ := Aside0.mk (Kd.R_below (by (with_reducible repeat (first | apply Kd.R_alloc | apply Kd.R_drewN | apply Kd.R_drew)); first | exact HO155.out | exact Kd.R_mono HO155.out (fun _ hk => hk.1) | exact Kd.R_mono HO155.out (fun _ _ => trivial)) hb)
           have n3_ := Aside0.mk (Kd.R_below (by (with_reducible repeat (first | apply Kd.R_alloc | apply Kd.R_drewN | apply Kd.R_drew)); first | exact HO173.out | exact Kd.R_mono HO173.out (fun _ hk => hk.1) | exact Kd.R_mono HO173.out (fun _ _ => trivial)) hb)
           have n4_ := Aside0.mk (Kd.R_below (by (with_reducible repeat (first | apply Kd.R_alloc | apply Kd.R_drewN | apply Kd.R_drew)); first | exact HO176.out | exact Kd.R_mono HO176.out (fun _ hk => hk.1) | exact Kd.R_mono HO176.out (fun _ _ => trivial)) hb)
           have n5_ := Aside0.mk (Kd.R_lower ho154 (below_size (by repeat (first | (with_reducible first | exact HB.out | apply below_alloc | apply pw_below_drewN | apply below_drew1 | refine below_set ?_ GE124.out | refine below_set ?_ GE125.out) | exact HB.out))))
           have n6_ := Aside0.mk (blk_below (g := gb124) (o := .cells #[.string a1_0, .int .u64 a1_1, .bool a1_2] 69 (0, 0)) (by (with_reducible repeat (first | refine blk_drewN ?_ _ | refine blk_drew ?_ | refine blk_alloc ?_ _)); exact BK124.out) hb)
           have n7_ := Aside0.mk (blk_below (g := gb125) (o := .cells #[.string a2_0, .int .u64 a2_1, .bool a2_2] 69 (0, 0)) (by (with_reducible repeat (first | refine blk_drewN ?_ _ | refine blk_drew ?_ | refine blk_alloc ?_ _)); exact BK125.out) hb)
           have n8_ := Aside0.mk (below_step (by repeat (first | (with_reducible first | exact HB.out | apply below_alloc | apply pw_below_drewN | apply below_drew1 | refine below_set ?_ GE124.out | refine below_set ?_ GE125.out) | exact HB.out)) hb)
           clear HO_7
           clear HO152
           clear HO155
           clear HO173
           clear HO176
           clear BK124
           clear BK125
           clear HB
           have HO_7 := n0_
           have HO152 := n1_
           have HO155 := n2_
           have HO173 := n3_
           have HO176 := n4_
           have HO180 := n5_
           have BK124 := n6_
           have BK125 := n7_
           have HB := n8_
           clear n0_ n1_ n2_ n3_ n4_ n5_ n6_ n7_ n8_
           clear hb ho154
           obtain ⟨Ao155, co155, eo155⟩ := Kd.R_slice HO180.out
           (first | subst eo155 | (injection eo155 with f1_ f2_ f3_; have f4_ := f1_.symm; have f5_ := f3_.symm; clear f1_ f2_ f3_; subst f4_; subst f5_))
           refine hK.out _ _ ⟨(blk_cell BK124.out 0).trans rfl, (blk_cell BK124.out 1).trans rfl, (blk_cell BK124.out 2).trans rfl, (blk_cell BK125.out 0).trans rfl, (blk_cell BK125.out 1).trans rfl, (blk_cell BK125.out 2).trans rfl⟩ (fun hHeld => ?_)
           clear hK K
           refine norm_ (a' := ?_) ?_ ?_
           rotate_left
           ·show Act.put _ (some 94) _ = _
            simp only [Act.put, List.setIfInBounds_toArray, List.set_cons_zero, List.set_cons_succ, i64_w, i32_w]
            rfl
           refine one_ (i := 27) (N := some 95) #[true,true,true,true,true,true,true,true,true,true,true,true,true,true,true,true,true,true,true,true,true,true,true,true,true,true,true,true,false,false,true,true,false,false,false,false,false,false] rfl rfl (one_of HT_.out (by kernel_rfl)) (by decide) (fun K hK => ?_)
           refine goes_ Tryz.func34 (by kernel_rfl) rfl #[.slice Ao149 t153.length co149, .slice Ao155 y178.length co155] (by rfl) rfl rfl (by (try simp only [List.map_toArray, List.map_cons, List.map_nil]); first | done | rfl | (simp only [List.length_drop, List.length_take]; rfl)) ?_
           with_reducible refine (txn_Pick.calls _ _ t153 _ _ y178 t181 _ ?side1 ?side2 ?side3 ?side4 A137.out).mono ?_
           (case side1 => repeat (first | exact (Kd.R_reads' HO155.out).2.2 | (with_reducible refine Kd.C_alloc ?_ _) | (with_reducible refine Kd.C_drewN ?_ _) | (with_reducible refine Kd.C_drew ?_)))
           (case side2 => exact (Kd.R_reads' HO155.out).2.1)
           (case side3 => repeat (first | exact (Kd.R_reads' HO180.out).2.2 | (with_reducible refine Kd.C_alloc ?_ _) | (with_reducible refine Kd.C_drewN ?_ _) | (with_reducible refine Kd.C_drew ?_)))
           (case side4 => exact (Kd.R_reads' HO180.out).2.1)
           rintro e w156 ⟨v182, rfl, ho0, hb⟩
           refine ⟨_, rfl, ?_⟩
           have n0_ := Aside0.mk (Kd.R_elder' (by (with_reducible repeat (first | apply Kd.R_alloc | apply Kd.R_drewN | apply Kd.R_drew)); first | exact HO_7.out | exact Kd.R_mono HO_7.out (fun _ hk => hk.1) | exact Kd.R_mono HO_7.out (fun _ _ => trivial)) (Kd.R_base ho0) hb)
           have n1_ := Aside0.mk (Kd.R_below (by (with_reducible repeat (first | apply Kd.R_alloc | apply Kd.R_drewN | apply Kd.R_drew)); first | exact HO152.out | exact Kd.R_mono HO152.out (fun _ hk => hk.1) | exact Kd.R_mono HO152.out (fun _ _ => trivial)) hb)
           have n2_ := Aside0.mk (Kd.R_elder' (by (with_reducible repeat (first | apply Kd.R_alloc | apply Kd.R_drewN | apply Kd.R_drew)); first | exact HO155.out | exact Kd.R_mono HO155.out (fun _ hk => hk.1) | exact Kd.R_mono HO155.out (fun _ _ => trivial)) (Kd.R_base ho0) hb)
           have n3_ := Aside0.mk (Kd.R_below (by (with_reducible repeat (first | apply Kd.R_alloc | apply Kd.R_drewN | apply Kd.R_drew)); first | exact HO173.out | exact Kd.R_mono HO173.out (fun _ hk => hk.1) | exact Kd.R_mono HO173.out (fun _ _ => trivial)) hb)
           have n4_ := Aside0.mk (Kd.R_elder' (by (with_reducible repeat (first | apply Kd.R_alloc | apply Kd.R_drewN | apply Kd.R_drew)); first | exact HO176.out | exact Kd.R_mono HO176.out (fun _ hk => hk.1) | exact Kd.R_mono HO176.out (fun _ _ => trivial)) (Kd.R_base ho0) hb)
           have n5_ := Aside0.mk (Kd.R_below (by (with_reducible repeat (first | apply Kd.R_alloc | apply Kd.R_drewN | apply Kd.R_drew)); first | exact HO180.out | exact Kd.R_mono HO180.out (fun _ hk => hk.1) | exact Kd.R_mono HO180.out (fun _ _ => trivial)) hb)
           have n6_ := Aside0.mk (Kd.R_lower (Kd.R_new' (Kd.R_new' (Kd.R_new' ho0 (Kd.R_lt (by (with_reducible repeat (first | apply Kd.R_alloc | apply Kd.R_drewN | apply Kd.R_drew)); first | exact HO_7.out | exact Kd.R_mono HO_7.out (fun _ hk => hk.1) | exact Kd.R_mono HO_7.out (fun _ _ => trivial)))) (Kd.R_lt (by (with_reducible repeat (first | apply Kd.R_alloc | apply Kd.R_drewN | apply Kd.R_drew)); first | exact HO155.out | exact Kd.R_mono HO155.out (fun _ hk => hk.1) | exact Kd.R_mono HO155.out (fun _ _ => trivial)))) (Kd.R_lt (by (with_reducible repeat (first | apply Kd.R_alloc | apply Kd.R_drewN | apply Kd.R_drew)); first | exact HO176.out | exact Kd.R_mono HO176.out (fun _ hk => hk.1) | exact Kd.R_mono HO176.out (fun _ _ => trivial)))) (below_size (by repeat (first | (with_reducible first | exact HB.out | apply below_alloc | apply pw_below_drewN | apply below_drew1 | refine below_set ?_ GE124.out | refine below_set ?_ GE125.out) | exact HB.out))))
           have n7_ := Aside0.mk (blk_below (g := gb124) (o := .cells #[.string a1_0, .int .u64 a1_1, .bool a1_2] 69 (0, 0)) (by (with_reducible repeat (first | refine blk_drewN ?_ _ | refine blk_drew ?_ | refine blk_alloc ?_ _)); exact BK124.out) hb)
           have n8_ := Aside0.mk (blk_below (g := gb125) (o := .cells #[.string a2_0, .int .u64 a2_1, .bool a2_2] 69 (0, 0)) (by (with_reducible repeat (first | refine blk_drewN ?_ _ | refine blk_drew ?_ | refine blk_alloc ?_ _)); exact BK125.out) hb)
           have n9_ := Aside0.mk (below_step (by repeat (first | (with_reducible first | exact HB.out | apply below_alloc | apply pw_below_drewN | apply below_drew1 | refine below_set ?_ GE124.out | refine below_set ?_ GE125.out) | exact HB.out)) hb)
           clear HO_7
           clear HO152
           clear HO155
           clear HO173
           clear HO176
           clear HO180
           clear BK124
           clear BK125
           clear HB
           have HO_7 := n0_
           have HO152 := n1_
           have HO155 := n2_
           have HO173 := n3_
           have HO176 := n4_
           have HO180 := n5_
           have HO183 := n6_
           have BK124 := n7_
           have BK125 := n8_
           have HB := n9_
           clear n0_ n1_ n2_ n3_ n4_ n5_ n6_ n7_ n8_ n9_
           (try clear hb)
           (try clear hb2)
           (try clear hk)
           (try clear hi)
           (try clear ho0)
           obtain ⟨Ao157, co157, eo157⟩ := Kd.R_slice HO183.out
           (first | subst eo157 | (injection eo157 with f1_ f2_ f3_; have f4_ := f1_.symm; have f5_ := f3_.symm; clear f1_ f2_ f3_; subst f4_; subst f5_))
           refine hK.out _ _ ⟨(blk_cell BK124.out 0).trans rfl, (blk_cell BK124.out 1).trans rfl, (blk_cell BK124.out 2).trans rfl, (blk_cell BK125.out 0).trans rfl, (blk_cell BK125.out 1).trans rfl, (blk_cell BK125.out 2).trans rfl⟩ (fun hHeld => ?_)
           clear hK K
           refine norm_ (a' := ?_) ?_ ?_
           rotate_left
           ·show Act.put _ (some 95) _ = _
            simp only [Act.put, List.setIfInBounds_toArray, List.set_cons_zero, List.set_cons_succ, i64_w, i32_w]
            rfl
           refine pure_ (i := 28) (N := some 96) (v := ?_) (a' := ?_) #[true,true,true,true,true,true,true,true,true,true,true,true,true,true,true,true,true,true,true,true,true,true,true,true,true,true,true,true,true,false,true,true,false,false,false,false,false,false] rfl rfl (any_of HT_.out (by kernel_rfl)) (fun _ _ _ h => h) (Or.inl ⟨by rfl, ?_⟩) ?_ ?_
           rotate_left
           ·intro w'
            go_simp
            with_reducible rfl
           rotate_left
           ·simp only [Act.put, List.setIfInBounds_toArray, List.set_cons_zero, List.set_cons_succ, i64_w, i32_w]
            rfl
           refine pure_ (i := 29) (N := some 97) (v := ?_) (a' := ?_) #[true,true,true,true,true,true,true,true,true,true,true,true,true,true,true,true,true,true,true,true,true,true,true,true,true,true,true,true,true,true,true,true,false,false,false,false,false,false] rfl rfl (any_of HT_.out (by kernel_rfl)) (fun _ _ _ h => h) (Or.inl ⟨by rfl, ?_⟩) ?_ ?_
           rotate_left
           ·intro w'
            go_simp
            with_reducible rfl
           rotate_left
           ·simp only [Act.put, List.setIfInBounds_toArray, List.set_cons_zero, List.set_cons_succ, i64_w, i32_w]
            rfl
           refine pure_ (i := 32) (N := some 100) (v := ?_) (a' := ?_) #[true,true,true,true,true,true,true,true,true,true,true,true,true,true,true,true,true,true,true,true,true,true,true,true,true,true,true,true,true,true,true,true,true,false,false,false,false,false] rfl rfl (any_of HT_.out (by kernel_rfl)) (fun _ _ _ h => h) (Or.inl ⟨by rfl, ?_⟩) ?_ ?_
           rotate_left
           ·intro w'
            go_simp
            with_reducible rfl
           rotate_left
           ·simp only [Act.put, List.setIfInBounds_toArray, List.set_cons_zero, List.set_cons_succ, i64_w, i32_w]
            rfl
           refine pure_ (i := 33) (N := some 101) (v := ?_) (a' := ?_) #[true,true,true,true,true,true,true,true,true,true,true,true,true,true,true,true,true,true,true,true,true,true,true,true,true,true,true,true,true,true,true,true,true,true,false,false,false,false] rfl rfl (any_of HT_.out (by kernel_rfl)) (fun _ _ _ h => h) (Or.inl ⟨by rfl, ?_⟩) ?_ ?_
           rotate_left
           ·intro w'
            go_simp
            with_reducible rfl
           rotate_left
           ·simp only [Act.put, List.setIfInBounds_toArray, List.set_cons_zero, List.set_cons_succ, i64_w, i32_w]
            rfl
           refine pure_ (i := 34) (N := some 102) (v := ?_) (a' := ?_) #[true,true,true,true,true,true,true,true,true,true,true,true,true,true,true,true,true,true,true,true,true,true,true,true,true,true,true,true,true,true,true,true,true,true,true,false,false,false] rfl rfl (any_of HT_.out (by kernel_rfl)) (fun _ _ _ h => h) (Or.inl ⟨by rfl, ?_⟩) ?_ ?_
           rotate_left
           ·intro w'
            go_simp
            with_reducible rfl
           rotate_left
           ·simp only [Act.put, List.setIfInBounds_toArray, List.set_cons_zero, List.set_cons_succ, i64_w, i32_w]
            rfl
           refine one_ (i := 35) (N := some 103) #[true,true,true,true,true,true,true,true,true,true,true,true,true,true,true,true,true,true,true,true,true,true,true,true,true,true,true,true,true,true,true,true,true,true,true,true,false,false] rfl rfl (one_of HT_.out (by kernel_rfl)) (by decide) (fun K hK => ?_)
           refine goes_ Tryz.func14 (by kernel_rfl) rfl #[] (by rfl) rfl rfl (by (try simp only [List.map_toArray, List.map_cons, List.map_nil]); first | done | rfl | (simp only [List.length_drop, List.length_take]; rfl)) ?_
           with_reducible refine (folkmootlaw08_live.calls  t184 _ A139.out).mono ?_
           rintro e w158 ⟨rfl, hb⟩
           refine ⟨_, rfl, ?_⟩
           have n0_ := Aside0.mk (Kd.R_below (by (with_reducible repeat (first | apply Kd.R_alloc | apply Kd.R_drewN | apply Kd.R_drew)); first | exact HO_7.out | exact Kd.R_mono HO_7.out (fun _ hk => hk.1) | exact Kd.R_mono HO_7.out (fun _ _ => trivial)) hb)
           have n1_ := Aside0.mk (Kd.R_below (by (with_reducible repeat (first | apply Kd.R_alloc | apply Kd.R_drewN | apply Kd.R_drew)); first | exact HO152.out | exact Kd.R_mono HO152.out (fun _ hk => hk.1) | exact Kd.R_mono HO152.out (fun _ _ => trivial)) hb)
           have n2_ := Aside0.mk (Kd.R_below (by (with_reducible repeat (first | apply Kd.R_alloc | apply Kd.R_drewN | apply Kd.R_drew)); first | exact HO155.out | exact Kd.R_mono HO155.out (fun _ hk => hk.1) | exact Kd.R_mono HO155.out (fun _ _ => trivial)) hb)
           have n3_ := Aside0.mk (Kd.R_below (by (with_reducible repeat (first | apply Kd.R_alloc | apply Kd.R_drewN | apply Kd.R_drew)); first | exact HO173.out | exact Kd.R_mono HO173.out (fun _ hk => hk.1) | exact Kd.R_mono HO173.out (fun _ _ => trivial)) hb)
           have n4_ := Aside0.mk (Kd.R_below (by (with_reducible repeat (first | apply Kd.R_alloc | apply Kd.R_drewN | apply Kd.R_drew)); first | exact HO176.out | exact Kd.R_mono HO176.out (fun _ hk => hk.1) | exact Kd.R_mono HO176.out (fun _ _ => trivial)) hb)
           have n5_ := Aside0.mk (Kd.R_below (by (with_reducible repeat (first | apply Kd.R_alloc | apply Kd.R_drewN | apply Kd.R_drew)); first | exact HO180.out | exact Kd.R_mono HO180.out (fun _ hk => hk.1) | exact Kd.R_mono HO180.out (fun _ _ => trivial)) hb)
           have n6_ := Aside0.mk (Kd.R_below (by (with_reducible repeat (first | apply Kd.R_alloc | apply Kd.R_drewN | apply Kd.R_drew)); first | exact HO183.out | exact Kd.R_mono HO183.out (fun _ hk => hk.1) | exact Kd.R_mono HO183.out (fun _ _ => trivial)) hb)
           have n7_ := Aside0.mk (blk_below (g := gb124) (o := .cells #[.string a1_0, .int .u64 a1_1, .bool a1_2] 69 (0, 0)) (by (with_reducible repeat (first | refine blk_drewN ?_ _ | refine blk_drew ?_ | refine blk_alloc ?_ _)); exact BK124.out) hb)
           have n8_ := Aside0.mk (blk_below (g := gb125) (o := .cells #[.string a2_0, .int .u64 a2_1, .bool a2_2] 69 (0, 0)) (by (with_reducible repeat (first | refine blk_drewN ?_ _ | refine blk_drew ?_ | refine blk_alloc ?_ _)); exact BK125.out) hb)
           have n9_ := Aside0.mk (below_step (by repeat (first | (with_reducible first | exact HB.out | apply below_alloc | apply pw_below_drewN | apply below_drew1 | refine below_set ?_ GE124.out | refine below_set ?_ GE125.out) | exact HB.out)) hb)
           clear HO_7
           clear HO152
           clear HO155
           clear HO173
           clear HO176
           clear HO180
           clear HO183
           clear BK124
           clear BK125
           clear HB
           have HO_7 := n0_
           have HO152 := n1_
           have HO155 := n2_
           have HO173 := n3_
           have HO176 := n4_
           have HO180 := n5_
           have HO183 := n6_
           have BK124 := n7_
           have BK125 := n8_
           have HB := n9_
           clear n0_ n1_ n2_ n3_ n4_ n5_ n6_ n7_ n8_ n9_
           (try clear hb)
           (try clear hb2)
           (try clear hk)
           (try clear hi)
           refine hK.out _ _ ⟨(blk_cell BK124.out 0).trans rfl, (blk_cell BK124.out 1).trans rfl, (blk_cell BK124.out 2).trans rfl, (blk_cell BK125.out 0).trans rfl, (blk_cell BK125.out 1).trans rfl, (blk_cell BK125.out 2).trans rfl⟩ (fun hHeld => ?_)
           clear hK K
           refine norm_ (a' := ?_) ?_ ?_
           rotate_left
           ·show Act.put _ (some 103) _ = _
            simp only [Act.put, List.setIfInBounds_toArray, List.set_cons_zero, List.set_cons_succ, i64_w, i32_w]
            rfl
           refine pure_ (i := 36) (N := some 104) (v := ?_) (a' := ?_) #[true,true,true,true,true,true,true,true,true,true,true,true,true,true,true,true,true,true,true,true,true,true,true,true,true,true,true,true,true,true,true,true,true,true,true,true,true,false] rfl rfl (any_of HT_.out (by kernel_rfl)) (fun _ _ _ h => h) (Or.inl ⟨by rfl, ?_⟩) ?_ ?_
           rotate_left
           ·intro w'
            go_simp
            with_reducible rfl
           rotate_left
           ·simp only [Act.put, List.setIfInBounds_toArray, List.set_cons_zero, List.set_cons_succ, i64_w, i32_w]
            rfl
           refine pure_ (i := 37) (N := some 6) (v := ?_) (a' := ?_) #[true,true,true,true,true,true,true,true,true,true,true,true,true,true,true,true,true,true,true,true,true,true,true,true,true,true,true,true,true,true,true,true,true,true,true,true,true,true] rfl rfl (any_of HT_.out (by kernel_rfl)) (fun _ _ _ h => h) (Or.inl ⟨by rfl, ?_⟩) ?_ ?_
           rotate_left
           ·intro w'
            go_simp
            with_reducible rfl
           rotate_left
           ·simp only [Act.put, List.setIfInBounds_toArray, List.set_cons_zero, List.set_cons_succ, i64_w, i32_w]
            rfl
           refine done_ (done_of HT_.out (by kernel_rfl)) ?_
           try go_wp2
           go_ret
           exact ⟨by first | rfl | (rw [bl_gt] <;> rfl) | (simp [errW_none, errW_some] <;> rfl) | (simp [*, errW_none, errW_some] <;> rfl), by repeat (first | (with_reducible first | exact HB.out | apply below_alloc | apply pw_below_drewN | apply below_drew1 | refine below_set ?_ GE124.out | refine below_set ?_ GE125.out) | exact HB.out)⟩
          ·rw [if_neg c138] at H
           exact absurd ((Option.some.inj H).trans hr_.out) (by decide)
         ·rw [if_neg c136] at H
          exact absurd H (by simp)
        ·replace c135 := Bool.eq_false_iff.mpr c135
         subst c135
         have H1 : (some false) = some r := by rw [if_neg (show ¬ (false = true) by decide)] at H; exact H
         exact absurd ((Option.some.inj H1).trans hr_.out) (by decide)
end Go.Proofs.YtgmlenpcchhmbaaGreat.P
end
