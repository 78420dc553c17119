/- what the claim's row stands on, part 7. -/
import Derived.Test.YtgmlenpcchhmbaaGreatZs2
import Derived.Test.YtgmlenpcchhmbaaGreatZs5
import Derived.Test.YtgmlenpcchhmbaaGreatZs6
import Derived.Test.YtgmlenpcchhmbaaGreatZs3
section
set_option linter.unusedVariables false
set_option linter.unusedSimpArgs false
namespace Go.Proofs.YtgmlenpcchhmbaaGreat.P
open Go.RowKit Go.Proofs.YtgmlenpcchhmbaaGreatW.PrintWords Go.Proofs.YtgmlenpcchhmbaaGreatW.PrintLast Go.Proofs.YtgmlenpcchhmbaaGreatW.PrintMore
attribute [local go_sem] max2_int min2_int max_two min_two max_three min_three max_four min_four   -- for this text's walks alone
mutual
def folkmootref03_set.l0 : Nat → List (S71) → List (S71) → Int → List ByteArray → List (S71) → Bool → Int → Option ((List (S71)))
 | 0, _, _, _, _, _, _, _ => none
 | k + 1, x0, x1, x2, x7, x8, x9, x10 => if x10 < (x7.length : Int) then (if 0 ≤ x10 then ((folkmootref03_Has.f k x0 (rdOf ByteArray.empty x7 x10)).bind fun t385 => ((folkmootref03_Has.f k x1 (rdOf ByteArray.empty x7 x10)).bind fun t387 => (if t385 = true then (folkmootref03_set.j1 k x0 x1 x2 x7 x8 x9 x10 t385 t387 true) else (folkmootref03_set.j1 k x0 x1 x2 x7 x8 x9 x10 t385 t387 t387)))) else (none)) else (some x8)
def folkmootref03_set.j1 : Nat → List (S71) → List (S71) → Int → List ByteArray → List (S71) → Bool → Int → Bool → Bool → Bool → Option ((List (S71)))
 | 0, _, _, _, _, _, _, _, _, _, _ => none
 | k + 1, x0, x1, x2, x7, x8, x9, x10, x11, x12, x13 => if x2 = 1 then (if x11 = true then (folkmootref03_set.j2 k x0 x1 x2 x7 x8 x9 x10 x11 x12 x12) else (folkmootref03_set.j2 k x0 x1 x2 x7 x8 x9 x10 x11 x12 false)) else (folkmootref03_set.j2 k x0 x1 x2 x7 x8 x9 x10 x11 x12 x13)
def folkmootref03_set.j2 : Nat → List (S71) → List (S71) → Int → List ByteArray → List (S71) → Bool → Int → Bool → Bool → Bool → Option ((List (S71)))
 | 0, _, _, _, _, _, _, _, _, _, _ => none
 | k + 1, x0, x1, x2, x7, x8, x9, x10, x11, x12, x13 => if x2 = 2 then (if x11 = true then (folkmootref03_set.j3 k x0 x1 x2 x7 x8 x9 x10 (!x12)) else (folkmootref03_set.j3 k x0 x1 x2 x7 x8 x9 x10 false)) else (folkmootref03_set.j3 k x0 x1 x2 x7 x8 x9 x10 x13)
def folkmootref03_set.j3 : Nat → List (S71) → List (S71) → Int → List ByteArray → List (S71) → Bool → Int → Bool → Option ((List (S71)))
 | 0, _, _, _, _, _, _, _, _ => none
 | k + 1, x0, x1, x2, x7, x8, x9, x10, x13 => if x13 = true then (folkmootref03_set.j4 k x0 x1 x2 x7 x8 x9 x10 x13 (!x9)) else (folkmootref03_set.j4 k x0 x1 x2 x7 x8 x9 x10 x13 false)
def folkmootref03_set.j4 : Nat → List (S71) → List (S71) → Int → List ByteArray → List (S71) → Bool → Int → Bool → Bool → Option ((List (S71)))
 | 0, _, _, _, _, _, _, _, _, _ => none
 | k + 1, x0, x1, x2, x7, x8, x9, x10, x13, x59 => if x59 = true then (if 0 ≤ x10 then (if x10 < (x7.length : Int) then (if x8.length < 4398046511104 then ((some (x8 ++ [(⟨rdOf ByteArray.empty x7 x10, (⟨#[]⟩ : ByteArray)⟩ : S71)] : List (S71))).bind fun y389 => (if x13 = true then (folkmootref03_set.l0 k x0 x1 x2 x7 y389 x13 (wrap64 (x10 + 1))) else (if x9 = true then (if 0 ≤ (wrap64 ((y389.length : Int) - 1)) then (if (wrap64 ((y389.length : Int) - 1)) < (y389.length : Int) then (folkmootref03_set.l0 k x0 x1 x2 x7 (y389.set ((wrap64 ((y389.length : Int) - 1)) : Int).toNat (⟨(rd_T71 y389 (wrap64 ((y389.length : Int) - 1))).f0, rdOf ByteArray.empty x7 x10⟩ : S71)) x13 (wrap64 (x10 + 1))) else (none)) else (none)) else (folkmootref03_set.l0 k x0 x1 x2 x7 y389 x13 (wrap64 (x10 + 1)))))) else (none)) else (none)) else (none)) else (if x13 = true then (folkmootref03_set.l0 k x0 x1 x2 x7 x8 x13 (wrap64 (x10 + 1))) else (if x9 = true then (if 0 ≤ x10 then (if x10 < (x7.length : Int) then (if 0 ≤ (wrap64 ((x8.length : Int) - 1)) then (if (wrap64 ((x8.length : Int) - 1)) < (x8.length : Int) then (folkmootref03_set.l0 k x0 x1 x2 x7 (x8.set ((wrap64 ((x8.length : Int) - 1)) : Int).toNat (⟨(rd_T71 x8 (wrap64 ((x8.length : Int) - 1))).f0, rdOf ByteArray.empty x7 x10⟩ : S71)) x13 (wrap64 (x10 + 1))) else (none)) else (none)) else (none)) else (none)) else (folkmootref03_set.l0 k x0 x1 x2 x7 x8 x13 (wrap64 (x10 + 1)))))
end
def folkmootref03_set.f (k : Nat) (l0 : List (S71)) (l1 : List (S71)) (a2 : Int) : Option ((List (S71))) := (some (([] : List (S71)) : List (S71))).bind fun y372 => (if y372.length + l0.length < 4398046511104 then ((some (y372 ++ l0 : List (S71))).bind fun y375 => (if y375.length + l1.length < 4398046511104 then ((folkmootref03_marks.f (y375 ++ l1)).bind fun t381 => (folkmootref03_set.l0 k l0 l1 a2 t381 ([] : List (S71)) false 0)) else (none))) else (none))
def folkmootref03_set.T7 : Bool × List (List Nat × List Nat) := (true, [([], []), ([], []), ([], []), ([1, 2], [1, 2]), ([3], [3]), ([0, 4], [0, 4]), ([], []), ([], []), ([], []), ([7, 8], [7, 8]), ([9], [9]), ([6, 10, 5], [6, 10]), ([5, 11, 0, 1, 2, 3, 4, 5], [5]), ([11, 12, 0, 1, 2, 3, 4, 5, 6, 7, 8, 9, 10, 11, 12], [11])])
def folkmootref03_set.B7 : List Nat := [0, 0, 0, 6, 14, 31, 0, 0, 0, 384, 896, 2047, 4095, 8191]
theorem folkmootref03_set.tab7 : rtab .any (opsOf Tryz.f65 7) = folkmootref03_set.T7 := by kernel_rfl
theorem folkmootref03_set.bits7 : waitsOk folkmootref03_set.T7.2 folkmootref03_set.B7 = true := by kernel_rfl
set_option maxHeartbeats 8000000 in
set_option maxRecDepth 100000 in
theorem folkmootref03_set.calls (k : Nat) (A0 : Option Addr) (c0 : Nat) (l0 : List (S71)) (A1 : Option Addr) (c1 : Nat) (l1 : List (S71)) (a2 : Int) (r : List (S71)) (w : World) (hr0 : Kd.C k71 w A0 l0.length l0) (hc0 : l0.length ≤ c0) (hr1 : Kd.C k71 w A1 l1.length l1) (hc1 : l1.length ≤ c1) (h : folkmootref03_set.f k l0 l1 a2 = some r) :
  Calls Tryz.prog 65 #[.slice A0 l0.length c0, .slice A1 l1.length c1, .int .i64 a2] w fun e w' => ∃ v0_ : Value, e = .returned (v0_) ∧ Kd.R k71 71 w' w.heap.size (fun _ => True) v0_ r ∧ Below w.heap.size w w' := by
 have hu71 := Tryz.underlying71
 have HR0 := Aside0.mk hr0
 have HC0 := Aside0.mk hc0
 clear hr0 hc0
 have HR1 := Aside0.mk hr1
 have HC1 := Aside0.mk hc1
 clear hr1 hc1
 have HB := Aside0.mk (Below.refl w.heap.size w)
 have H : ((some (([] : List (S71)) : List (S71))).bind fun y372 => (if y372.length + l0.length < 4398046511104 then ((some (y372 ++ l0 : List (S71))).bind fun y375 => (if y375.length + l1.length < 4398046511104 then ((folkmootref03_marks.f (y375 ++ l1)).bind fun t381 => (folkmootref03_set.l0 k l0 l1 a2 t381 ([] : List (S71)) false 0)) else (none))) else (none))) = some r := h
 clear h
 obtain ⟨y372, hy372⟩ : ∃ y_ : List (S71), y_ = (([] : List (S71))) := ⟨_, rfl⟩
 replace H : (if y372.length + l0.length < 4398046511104 then ((some (y372 ++ l0 : List (S71))).bind fun y375 => (if y375.length + l1.length < 4398046511104 then ((folkmootref03_marks.f (y375 ++ l1)).bind fun t381 => (folkmootref03_set.l0 k l0 l1 a2 t381 ([] : List (S71)) false 0)) else (none))) else (none)) = some r := by first | (rw [hy372]; with_reducible exact H) | (have H2_ := (Option.bind_some _ _).symm.trans H; rw [hy372]; with_reducible exact H2_) | (have H2_ := (Option.bind_some _ _).symm.trans H; with_reducible exact H2_) | with_reducible exact H | (rw [hy372]; exact H) | exact H
 have Ny372 := Aside0.mk hy372
 clear hy372
 by_cases c4 : y372.length + l0.length < 4398046511104
 ·rw [if_pos c4] at H
  have LMc4 := Aside0.mk c4
  clear c4
  obtain ⟨y375, hy375⟩ : ∃ y_ : List (S71), y_ = (y372 ++ l0) := ⟨_, rfl⟩
  replace H : (if y375.length + l1.length < 4398046511104 then ((folkmootref03_marks.f (y375 ++ l1)).bind fun t381 => (folkmootref03_set.l0 k l0 l1 a2 t381 ([] : List (S71)) false 0)) else (none)) = some r := by first | (rw [hy375]; with_reducible exact H) | (have H2_ := (Option.bind_some _ _).symm.trans H; rw [hy375]; with_reducible exact H2_) | (have H2_ := (Option.bind_some _ _).symm.trans H; with_reducible exact H2_) | with_reducible exact H | (rw [hy375]; exact H) | exact H
  have Ny375 := Aside0.mk hy375
  clear hy375
  by_cases c5 : y375.length + l1.length < 4398046511104
  ·rw [if_pos c5] at H
   have LMc5 := Aside0.mk c5
   clear c5
   obtain ⟨y378, hy378⟩ : ∃ y_ : List (S71), y_ = (y375 ++ l1) := ⟨_, rfl⟩
   replace H : ((folkmootref03_marks.f y378).bind fun t381 => (folkmootref03_set.l0 k l0 l1 a2 t381 ([] : List (S71)) false 0)) = some r := by first | (rw [hy378]; with_reducible exact H) | (have H2_ := (Option.bind_some _ _).symm.trans H; rw [hy378]; with_reducible exact H2_) | (have H2_ := (Option.bind_some _ _).symm.trans H; with_reducible exact H2_) | with_reducible exact H | (rw [hy378]; exact H) | exact H
   have Ny378 := Aside0.mk hy378
   clear hy378
   replace H := Option.bind_eq_some_iff.mp H
   obtain ⟨t381, A60, H⟩ := H
   replace H : (folkmootref03_set.l0 k l0 l1 a2 t381 ([] : List (S71)) false 0) = some r := H
   have A6 := Aside0.mk A60
   clear A60
   have H' := Aside0.mk H
   clear H
   go_enter Tryz.func65, Tryz.ntmps65
   go_wp2_with (first | ((with_reducible refine gate_dst (N := 14) rfl ?_); refine Kd.R_lit k71 _ 71 ?hg (N := 14) ?hd (xs := ([] : List (S71))) (inner := []) (ok := fun _ => True) (okp := fun _ => True) ?hr ?hp (fun _ hk => hk) trivial (Below.refl _ _) (Nat.le_refl _) (by simp) ?_; (case hd => rfl); (case hg => rfl); (case hr => first | (go_simp; done) | (go_simp; rfl)); (case hp => exact (Reps.none _ _)); intro v373 w7 ho8 hb hg_ hnew_; clear hg_ hnew_; (first | rw [← Ny372.out] at ho8 | (simp only [Int.reduceToNat] at ho8; rw [← Ny372.out] at ho8)); have n0_ := Aside0.mk (Kd.R_lower ho8 (below_size bB_)); have n1_ := Aside0.mk (below_step bB_ hb); clear HB; have HO374 := n0_; have HB := n1_; clear n0_ n1_; clear hb ho8) | ((with_reducible refine gate_builtin (b := .append) (xs := #[.tmp 14, .tmp 15]) rfl ?_); at_builtin; refine Kd.R_append_rows k71 (w0 := w) w.heap.size rfl (.tmp 14) (.tmp 15) 40 71 (.agg #[(.string ⟨#[]⟩), (.string ⟨#[]⟩)]) 32 rfl Tryz.underlying40 info71 rfl (by decide) (by omega) v373 y372 l0 _ _ _ (fun _ => True) (fun _ => False) rfl rfl ?aO ?aR (fun _ _ h => h) (fun _ h => h.elim) ?aF ?aB ?aS ?aL ?_; (case aR => repeat (first | exact (Kd.C_below HR0.out HB.out) | (with_reducible refine Kd.C_alloc ?_ _) | (with_reducible refine Kd.C_drewN ?_ _) | (with_reducible refine Kd.C_drew ?_))); (case aB => exact bB_); (case aF => exact (fun _ _ => trivial)); (case aO => exact (rR_ HO374.out)); (case aS => exact (below_size bB_)); (case aL => have := LMc4.out; omega); intro v376 w9 ho hb hg hat; rw [← Ny375.out] at ho; have n0_ := Aside0.mk (hb); have n1_ := Aside0.mk (ho); clear HB; clear HO374; have HB := n0_; have HO377 := n1_; clear n0_ n1_; clear ho hb hg hat) | ((with_reducible refine gate_builtin (b := .append) (xs := #[.tmp 16, .tmp 17]) rfl ?_); at_builtin; refine Kd.R_append_rows k71 (w0 := w) w.heap.size rfl (.tmp 16) (.tmp 17) 40 71 (.agg #[(.string ⟨#[]⟩), (.string ⟨#[]⟩)]) 32 rfl Tryz.underlying40 info71 rfl (by decide) (by omega) v376 y375 l1 _ _ _ (fun _ => True) (fun _ => False) rfl rfl ?aO ?aR (fun _ _ h => h) (fun _ h => h.elim) ?aF ?aB ?aS ?aL ?_; (case aR => repeat (first | exact (Kd.C_below HR1.out HB.out) | (with_reducible refine Kd.C_alloc ?_ _) | (with_reducible refine Kd.C_drewN ?_ _) | (with_reducible refine Kd.C_drew ?_))); (case aB => exact bB_); (case aF => exact (fun _ _ => trivial)); (case aO => exact (rR_ HO377.out)); (case aS => exact (below_size bB_)); (case aL => have := LMc5.out; omega); intro v379 w10 ho hb hg hat; rw [← Ny378.out] at ho; have n0_ := Aside0.mk (hb); have n1_ := Aside0.mk (ho); clear HB; clear HO377; have HB := n0_; have HO380 := n1_; clear n0_ n1_; clear ho hb hg hat; obtain ⟨Ao11, co11, eo11⟩ := Kd.R_slice HO380.out; subst eo11) | ((with_reducible refine gate_callee (f := 108) rfl ?_); refine goesL_ (some 19) rfl rfl Tryz.func108 (by kernel_rfl) rfl #[.slice Ao11 y378.length co11] rfl (by (try simp only [List.map_toArray, List.map_cons, List.map_nil]); first | done | rfl | (simp only [List.length_drop, List.length_take]; rfl)) ?_; (with_reducible refine (folkmootref03_marks.calls _ _ y378 t381 _ ?side1 ?side2 A6.out).mono ?_); (case side1 => repeat (first | exact (Kd.R_reads' HO380.out).2.2 | (with_reducible refine Kd.C_alloc ?_ _) | (with_reducible refine Kd.C_drewN ?_ _) | (with_reducible refine Kd.C_drew ?_))); (case side2 => exact (Kd.R_reads' HO380.out).2.1); rintro e w12 ⟨v382, rfl, ho0, hb⟩; refine ⟨_, rfl, ?_⟩; have n0_ := Aside0.mk (Kd.R_below (rR_ HO380.out) hb); have n1_ := Aside0.mk (Kd.R_lower ho0 (below_size bB_)); have n2_ := Aside0.mk (below_step bB_ hb); clear HO380; clear HB; have HO380 := n0_; have HO383 := n1_; have HB := n2_; clear n0_ n1_ n2_; (try clear hb); (try clear hb2); (try clear hk); (try clear hi); (try clear ho0)))
   go_loopg [8, 9, 10] k (fun kq v8 v9 v10 w' => ∃ (x8_1 : List (S71)) (x9_1 : Bool) (x10_1 : Int), v9 = .bool x9_1 ∧ v10 = .int .i64 x10_1 ∧ Aside0 (folkmootref03_set.l0 kq l0 l1 a2 t381 x8_1 x9_1 x10_1 = some r) ∧ Aside0 (kq ≤ k) ∧ Aside0 (Kd.R Kd.string 9 w' w.heap.size (fun _ => True) v382 t381) ∧ Aside0 (Kd.R k71 71 w' w.heap.size (fun _ => True) v8 x8_1) ∧ Aside0 (Below w.heap.size w w'))
   case atStart => exact ⟨(([] : List (S71))), (false), (0), (by first | rfl | (rw [bl_gt] <;> rfl) | (simp; done) | (simp [*]; done)), (by first | rfl | (rw [bl_gt] <;> rfl) | (simp; done) | (simp [*]; done)), H', ⟨Nat.le_refl _⟩, ⟨rR_ HO383.out⟩, ⟨by first | exact Kd.R_nil _ _ _ _ _ | exact Kd.N_nil _ _ _ _ _ | exact Kd.V_nil _ _ _ _ _ | exact Kd.Q_nil _ _ _ _ _ | exact Kd.S_nil _ _ _ _ _⟩, ⟨bB_⟩⟩
   case round =>
    clear H'
    try clear c1
    try clear p2
    try clear c4
    try clear c5
    try clear c6
    try clear c10
    obtain ⟨x8_1, x9_1, x10_1, rfl, rfl, HA, HK1, HO_7, HO_8, HB⟩ := hrel
    cases gk with
    | zero => exact absurd HA.out (by simp [folkmootref03_set.l0])
    | succ k1 =>
     have H := HA.out;clear HA
     simp only [folkmootref03_set.l0] at H
     by_cases c13 : x10_1 < (t381.length : Int)
     ·rw [if_pos c13] at H
      have c13b0 : decide (x10_1 < (t381.length : Int)) = true := decide_eq_true c13
      clear c13
      by_cases c14 : 0 ≤ x10_1
      ·rw [if_pos c14] at H
       have c14b0 : decide (0 ≤ x10_1) = true := decide_eq_true c14
       clear c14
       replace H := Option.bind_eq_some_iff.mp H
       obtain ⟨t385, A150, H⟩ := H
       replace H : ((folkmootref03_Has.f k1 l1 (rdOf ByteArray.empty t381 x10_1)).bind fun t387 => (if t385 = true then (folkmootref03_set.j1 k1 l0 l1 a2 t381 x8_1 x9_1 x10_1 t385 t387 true) else (folkmootref03_set.j1 k1 l0 l1 a2 t381 x8_1 x9_1 x10_1 t385 t387 t387))) = some r := H
       have A15 := Aside0.mk A150
       clear A150
       replace H := Option.bind_eq_some_iff.mp H
       obtain ⟨t387, A160, H⟩ := H
       replace H : (if t385 = true then (folkmootref03_set.j1 k1 l0 l1 a2 t381 x8_1 x9_1 x10_1 t385 t387 true) else (folkmootref03_set.j1 k1 l0 l1 a2 t381 x8_1 x9_1 x10_1 t385 t387 t387)) = some r := H
       have A16 := Aside0.mk A160
       clear A160
       have HC17 := Aside0.mk H
       clear H
       obtain ⟨Ao18, co18, eo18⟩ := Kd.R_slice HO_7.out
       subst eo18
       try go_wp2
       have n0_ := Aside0.mk (Kd.R_drew HO_7.out)
       have n1_ := Aside0.mk (Kd.R_drew HO_8.out)
       have n2_ := Aside0.mk (below_drew1 HB.out)
       clear HO_7 HO_8 HB;have HO_7 := n0_;have HO_8 := n1_;have HB := n2_;clear n0_ n1_ n2_
       have p384 : 0 ≤ (x10_1 : Int) := of_decide_eq_true (by first | (with_reducible assumption) | assumption)
       have q384 : x10_1 < (t381.length : Int) := of_decide_eq_true (by first | (with_reducible assumption) | assumption)
       obtain ⟨ad384, e384, hx384_0⟩ := Kd.at_string (Kd.R_reads' HO_7.out).2.2 x10_1 p384 q384
       cases e384
       replace p384 := eq_true p384
       replace q384 := eq_true q384
       have p386 : 0 ≤ (x10_1 : Int) := of_decide_eq_true (by first | (with_reducible assumption) | assumption)
       have q386 : x10_1 < (t381.length : Int) := of_decide_eq_true (by first | (with_reducible assumption) | assumption)
       obtain ⟨ad386, e386, hx386_0⟩ := Kd.at_string (Kd.R_reads' HO_7.out).2.2 x10_1 p386 q386
       obtain rfl : ad384 = ad386 := (by injection e386)
       replace p386 := eq_true p386
       replace q386 := eq_true q386
       refine start_ (n := 14) (S := fun w' => w'.cell? (ad384.add (x10_1).toNat) = some (.string (rdOf ByteArray.empty t381 x10_1)) ∧ w'.cell? (ad384.add (x10_1).toNat) = some (.string (rdOf ByteArray.empty t381 x10_1))) (ds := []) #[false,false,false,false,false,false,false,false,false,false,false,false,false,false] (by kernel_rfl) rfl rfl ⟨hx384_0, hx386_0⟩ (fun hHeld => ?_); refine with_tabW folkmootref03_set.tab7 folkmootref03_set.bits7 (fun HT_ HW_ => ?_)
       generalize wr.drew = w19 at HO_7 HO_8 HB hx384_0 hx386_0 hHeld ⊢
       refine pu_ 0 26 ?_;refine pu_ 1 27 ?_;refine pu_ 2 28 ?_;refine pu_ 3 29 ?_;refine pu_ 6 32 ?_;refine pu_ 7 33 ?_;refine pu_ 8 34 ?_;refine pu_ 9 35 ?_;refine ta_ 4 30 hHeld ?_;refine ta_ 10 36 hHeld ?_;refine one_ (i := 5) (N := some 31) #[true,true,true,true,true,true,true,true,true,true,true,false,false,false] rfl rfl (one_of HT_.out (by kernel_rfl)) (by decide) (fun K hK => ?_);refine goes_ Tryz.func40 (by kernel_rfl) rfl #[.slice A0 l0.length c0, .string (rdOf ByteArray.empty t381 x10_1)] (by rfl) rfl rfl (by (try simp only [List.map_toArray, List.map_cons, List.map_nil]); first | done | rfl | (simp only [List.length_drop, List.length_take]; rfl)) ?_
       with_reducible refine (folkmootref03_Has.calls k1 _ _ l0 (rdOf ByteArray.empty t381 x10_1) t385 _ ?side1 ?side2 A15.out).mono ?_
       (case side1 => repeat (first | exact (Kd.C_below HR0.out HB.out) | (with_reducible refine Kd.C_alloc ?_ _) | (with_reducible refine Kd.C_drewN ?_ _) | (with_reducible refine Kd.C_drew ?_)))
       (case side2 => exact HC0.out)
       rintro e w20 ⟨rfl, hb⟩
       have HS0_ := (hb.cell (World.block_lt_of_cell? _ _ (hHeld.1))).trans (hHeld.1)
       have HS1_ := (hb.cell (World.block_lt_of_cell? _ _ (hHeld.2))).trans (hHeld.2)
       refine ⟨_, rfl, ?_⟩
       have n0_ := Aside0.mk (Kd.R_below (rR_ HO_7.out) hb)
       have n1_ := Aside0.mk (Kd.R_below (rR_ HO_8.out) hb)
       have n2_ := Aside0.mk (below_step bB_ hb)
       clear HO_7 HO_8 HB;have HO_7 := n0_;have HO_8 := n1_;have HB := n2_;clear n0_ n1_ n2_;(try clear hb);(try clear hb2);(try clear hk);(try clear hi);refine hK.out _ _ ⟨HS0_, HS1_⟩ (fun hHeld => ?_);clear hK K;refine norm_ (a' := ?_) ?_ ?_;rotate_left
       ·show Act.put _ (some 31) _ = _
        simp only [Act.put, List.setIfInBounds_toArray, List.set_cons_zero, List.set_cons_succ, i64_w, i32_w];rfl
       refine one_ (i := 11) (N := some 37) #[true,true,true,true,true,true,true,true,true,true,true,true,false,false] rfl rfl (one_of HT_.out (by kernel_rfl)) (by decide) (fun K hK => ?_);refine goes_ Tryz.func40 (by kernel_rfl) rfl #[.slice A1 l1.length c1, .string (rdOf ByteArray.empty t381 x10_1)] (by rfl) rfl rfl (by (try simp only [List.map_toArray, List.map_cons, List.map_nil]); first | done | rfl | (simp only [List.length_drop, List.length_take]; rfl)) ?_
       with_reducible refine (folkmootref03_Has.calls k1 _ _ l1 (rdOf ByteArray.empty t381 x10_1) t387 _ ?side1 ?side2 A16.out).mono ?_
       (case side1 => repeat (first | exact (Kd.C_below HR1.out HB.out) | (with_reducible refine Kd.C_alloc ?_ _) | (with_reducible refine Kd.C_drewN ?_ _) | (with_reducible refine Kd.C_drew ?_)))
       (case side2 => exact HC1.out)
       rintro e w21 ⟨rfl, hb⟩
       have HS0_ := (hb.cell (World.block_lt_of_cell? _ _ (hHeld.1))).trans (hHeld.1)
       have HS1_ := (hb.cell (World.block_lt_of_cell? _ _ (hHeld.2))).trans (hHeld.2)
       refine ⟨_, rfl, ?_⟩
       have n0_ := Aside0.mk (Kd.R_below (rR_ HO_7.out) hb)
       have n1_ := Aside0.mk (Kd.R_below (rR_ HO_8.out) hb)
       have n2_ := Aside0.mk (below_step bB_ hb)
       clear HO_7 HO_8 HB;have HO_7 := n0_;have HO_8 := n1_;have HB := n2_;clear n0_ n1_ n2_;(try clear hb);(try clear hb2);(try clear hk);(try clear hi);refine hK.out _ _ ⟨HS0_, HS1_⟩ (fun hHeld => ?_);clear hK K;refine norm_ (a' := ?_) ?_ ?_;rotate_left
       ·show Act.put _ (some 37) _ = _
        simp only [Act.put, List.setIfInBounds_toArray, List.set_cons_zero, List.set_cons_succ, i64_w, i32_w];rfl
       refine pu_ 12 11 ?_;refine pu_ 13 12 ?_;refine done_ (done_of HT_.out (by kernel_rfl)) ?_
       go_upto_region 8 with (fail)
       go_cut [13] (fun v13 wc => ∃ (kq : Nat) (x13_16 : Bool), v13 = .bool x13_16 ∧ Aside0 (folkmootref03_set.j1 kq l0 l1 a2 t381 x8_1 x9_1 x10_1 t385 t387 x13_16 = some r) ∧ Aside0 (kq ≤ k1) ∧ Aside0 (Kd.R Kd.string 9 wc w.heap.size (fun _ => True) (.slice (some ad384) t381.length co18) t381) ∧ Aside0 (Kd.R k71 71 wc w.heap.size (fun _ => True) u8 x8_1) ∧ Aside0 (Below w.heap.size w wc))
       case first =>
        have H := HC17.out;clear HC17
        by_cases c22 : t385 = true
        ·subst c22
         have H1 : (folkmootref03_set.j1 k1 l0 l1 a2 t381 x8_1 x9_1 x10_1 true t387 true) = some r := by rw [if_pos rfl] at H; exact H
         clear H;have H := H1;clear H1
         have H' := Aside0.mk H
         clear H
         go_wp2
         go_meet
         case rel => exact ⟨_, (true), (by first | rfl | (rw [bl_gt] <;> rfl) | (simp; done) | (simp [*]; done)), H', ⟨by have := HK1.out; first | omega | exact Nat.le_refl _⟩, ⟨rR_ HO_7.out⟩, ⟨rR_ HO_8.out⟩, ⟨bB_⟩⟩
        ·replace c22 := Bool.eq_false_iff.mpr c22
         subst c22
         have H1 : (folkmootref03_set.j1 k1 l0 l1 a2 t381 x8_1 x9_1 x10_1 false t387 t387) = some r := by rw [if_neg (show ¬ (false = true) by decide)] at H; exact H
         clear H;have H := H1;clear H1
         have H' := Aside0.mk H
         clear H
         go_wp2
         go_meet
         case rel => exact ⟨_, (t387), (by first | rfl | (rw [bl_gt] <;> rfl) | (simp; done) | (simp [*]; done)), H', ⟨by have := HK1.out; first | omega | exact Nat.le_refl _⟩, ⟨rR_ HO_7.out⟩, ⟨rR_ HO_8.out⟩, ⟨bB_⟩⟩
       case rest =>
        clear HC17
        try clear c1
        try clear c2
        try clear p2
        try clear p3
        try clear q3
        try clear hx3
        try clear c4
        try clear c5
        try clear c6
        try clear c10
        try clear c13
        try clear c13b0
        try clear c14
        try clear c14b0
        try clear c22
        try clear hx384_0
        try clear hx386_0
        try clear p2
        try clear p384
        try clear p386
        try clear q384
        try clear q386
        obtain ⟨kq, x13_16, rfl, HA, HJ16, HO_7, HO_8, HB⟩ := hcut
        cases kq with
        | zero => exact absurd HA.out (by simp [folkmootref03_set.j1])
        | succ kj16 =>
         have H := HA.out;clear HA
         simp only [folkmootref03_set.j1] at H
         have HC23 := Aside0.mk H
         clear H
         go_upto_if 43 with (fail)
         go_cut [13] (fun v13 wc => ∃ (kq : Nat) (x13_22 : Bool), v13 = .bool x13_22 ∧ Aside0 (folkmootref03_set.j2 kq l0 l1 a2 t381 x8_1 x9_1 x10_1 t385 t387 x13_22 = some r) ∧ Aside0 (kq ≤ kj16) ∧ Aside0 (Kd.R Kd.string 9 wc w.heap.size (fun _ => True) (.slice (some ad384) t381.length co18) t381) ∧ Aside0 (Kd.R k71 71 wc w.heap.size (fun _ => True) u8 x8_1) ∧ Aside0 (Below w.heap.size w wc))
         case first =>
          have H := HC23.out;clear HC23
          by_cases c24 : a2 = 1
          ·rw [if_pos c24] at H
           have c24b0 : (a2 == 1) = true := beq_iff_eq.mpr c24
           have c24b1 : (a2 != 1) = false := bne_eq_false_iff_eq.mpr c24
           clear c24
           (first | rw [c24b0] | (simp only [i64_w, i32_w]; rw [c24b0]) | skip)
           by_cases c25 : t385 = true
           ·subst c25
            have H1 : (folkmootref03_set.j2 kj16 l0 l1 a2 t381 x8_1 x9_1 x10_1 true t387 t387) = some r := by rw [if_pos rfl] at H; exact H
            clear H;have H := H1;clear H1
            have H' := Aside0.mk H
            clear H
            go_wp2
            first
            | (go_meet; case rel => exact ⟨_, (t387), (by first | rfl | (rw [bl_gt] <;> rfl) | (simp; done) | (simp [*]; done)), H', ⟨by have := HK1.out; have := HJ16.out; first | omega | exact Nat.le_refl _⟩, ⟨rR_ HO_7.out⟩, ⟨rR_ HO_8.out⟩, ⟨bB_⟩⟩)
            | (refine Met.intro ?_; go_step; (repeat apply Exists.intro); refine ⟨?_, ?_⟩; rotate_left; (focus (simp only [c24b0]; try rfl)); exact ⟨_, (t387), (by first | rfl | (rw [bl_gt] <;> rfl) | (simp; done) | (simp [*]; done)), H', ⟨by have := HK1.out; have := HJ16.out; first | omega | exact Nat.le_refl _⟩, ⟨rR_ HO_7.out⟩, ⟨rR_ HO_8.out⟩, ⟨bB_⟩⟩)
           ·replace c25 := Bool.eq_false_iff.mpr c25
            subst c25
            have H1 : (folkmootref03_set.j2 kj16 l0 l1 a2 t381 x8_1 x9_1 x10_1 false t387 false) = some r := by rw [if_neg (show ¬ (false = true) by decide)] at H; exact H
            clear H;have H := H1;clear H1
            have H' := Aside0.mk H
            clear H
            go_wp2
            first
            | (go_meet; case rel => exact ⟨_, (false), (by first | rfl | (rw [bl_gt] <;> rfl) | (simp; done) | (simp [*]; done)), H', ⟨by have := HK1.out; have := HJ16.out; first | omega | exact Nat.le_refl _⟩, ⟨rR_ HO_7.out⟩, ⟨rR_ HO_8.out⟩, ⟨bB_⟩⟩)
            | (refine Met.intro ?_; go_step; (repeat apply Exists.intro); refine ⟨?_, ?_⟩; rotate_left; (focus (simp only [c24b0]; try rfl)); exact ⟨_, (false), (by first | rfl | (rw [bl_gt] <;> rfl) | (simp; done) | (simp [*]; done)), H', ⟨by have := HK1.out; have := HJ16.out; first | omega | exact Nat.le_refl _⟩, ⟨rR_ HO_7.out⟩, ⟨rR_ HO_8.out⟩, ⟨bB_⟩⟩)
          ·rw [if_neg c24] at H
           have c24b0 : (a2 == 1) = false := beq_eq_false_iff_ne.mpr c24
           have c24b1 : (a2 != 1) = true := bne_iff_ne.mpr c24
           (first | rw [c24b0] | (simp only [i64_w, i32_w]; rw [c24b0]) | skip)
           have H' := Aside0.mk H
           clear H
           go_wp2
           first
           | (go_meet; case rel => exact ⟨_, (x13_16), (by first | rfl | (rw [bl_gt] <;> rfl) | (simp; done) | (simp [*]; done)), H', ⟨by have := HK1.out; have := HJ16.out; first | omega | exact Nat.le_refl _⟩, ⟨rR_ HO_7.out⟩, ⟨rR_ HO_8.out⟩, ⟨bB_⟩⟩)
           | (refine Met.intro ?_; go_step; (repeat apply Exists.intro); refine ⟨?_, ?_⟩; rotate_left; (focus (simp only [c24b0]; try rfl)); exact ⟨_, (x13_16), (by first | rfl | (rw [bl_gt] <;> rfl) | (simp; done) | (simp [*]; done)), H', ⟨by have := HK1.out; have := HJ16.out; first | omega | exact Nat.le_refl _⟩, ⟨rR_ HO_7.out⟩, ⟨rR_ HO_8.out⟩, ⟨bB_⟩⟩)
         case rest =>
          clear HC23
          try clear c1
          try clear c2
          try clear p2
          try clear p3
          try clear q3
          try clear hx3
          try clear c4
          try clear c5
          try clear c6
          try clear c10
          try clear c13
          try clear c13b0
          try clear c14
          try clear c14b0
          try clear c22
          try clear c24
          try clear c24b0
          try clear c24b1
          try clear c25
          try clear hx384_0
          try clear hx386_0
          try clear p2
          try clear p3
          try clear p384
          try clear p386
          try clear q3
          try clear q384
          try clear q386
          obtain ⟨kq, x13_22, rfl, HA, HJ22, HO_7, HO_8, HB⟩ := hcut
          cases kq with
          | zero => exact absurd HA.out (by simp [folkmootref03_set.j2])
          | succ kj22 =>
           have H := HA.out;clear HA
           simp only [folkmootref03_set.j2] at H
           have HC26 := Aside0.mk H
           clear H
           go_upto_if 49 with (fail)
           go_cut [13] (fun v13 wc => ∃ (kq : Nat) (x13_25 : Bool), v13 = .bool x13_25 ∧ Aside0 (folkmootref03_set.j3 kq l0 l1 a2 t381 x8_1 x9_1 x10_1 x13_25 = some r) ∧ Aside0 (kq ≤ kj22) ∧ Aside0 (Kd.R Kd.string 9 wc w.heap.size (fun _ => True) (.slice (some ad384) t381.length co18) t381) ∧ Aside0 (Kd.R k71 71 wc w.heap.size (fun _ => True) u8 x8_1) ∧ Aside0 (Below w.heap.size w wc))
           case first =>
            have H := HC26.out;clear HC26
            by_cases c27 : a2 = 2
            ·rw [if_pos c27] at H
             have c27b0 : (a2 == 2) = true := beq_iff_eq.mpr c27
             have c27b1 : (a2 != 2) = false := bne_eq_false_iff_eq.mpr c27
             clear c27
             (first | rw [c27b0] | (simp only [i64_w, i32_w]; rw [c27b0]) | skip)
             by_cases c28 : t385 = true
             ·subst c28
              have H1 : (folkmootref03_set.j3 kj22 l0 l1 a2 t381 x8_1 x9_1 x10_1 (!t387)) = some r := by rw [if_pos rfl] at H; exact H
              clear H;have H := H1;clear H1
              have H' := Aside0.mk H
              clear H
              go_wp2
              first
              | (go_meet; case rel => exact ⟨_, (!t387), (by first | rfl | (rw [bl_gt] <;> rfl) | (simp; done) | (simp [*]; done)), H', ⟨by have := HK1.out; have := HJ16.out; have := HJ22.out; first | omega | exact Nat.le_refl _⟩, ⟨rR_ HO_7.out⟩, ⟨rR_ HO_8.out⟩, ⟨bB_⟩⟩)
              | (refine Met.intro ?_; go_step; (repeat apply Exists.intro); refine ⟨?_, ?_⟩; rotate_left; (focus (simp only [c27b0]; try rfl)); exact ⟨_, (!t387), (by first | rfl | (rw [bl_gt] <;> rfl) | (simp; done) | (simp [*]; done)), H', ⟨by have := HK1.out; have := HJ16.out; have := HJ22.out; first | omega | exact Nat.le_refl _⟩, ⟨rR_ HO_7.out⟩, ⟨rR_ HO_8.out⟩, ⟨bB_⟩⟩)
             ·replace c28 := Bool.eq_false_iff.mpr c28
              subst c28
              have H1 : (folkmootref03_set.j3 kj22 l0 l1 a2 t381 x8_1 x9_1 x10_1 false) = some r := by rw [if_neg (show ¬ (false = true) by decide)] at H; exact H
              clear H;have H := H1;clear H1
              have H' := Aside0.mk H
              clear H
              go_wp2
              first
              | (go_meet; case rel => exact ⟨_, (false), (by first | rfl | (rw [bl_gt] <;> rfl) | (simp; done) | (simp [*]; done)), H', ⟨by have := HK1.out; have := HJ16.out; have := HJ22.out; first | omega | exact Nat.le_refl _⟩, ⟨rR_ HO_7.out⟩, ⟨rR_ HO_8.out⟩, ⟨bB_⟩⟩)
              | (refine Met.intro ?_; go_step; (repeat apply Exists.intro); refine ⟨?_, ?_⟩; rotate_left; (focus (simp only [c27b0]; try rfl)); exact ⟨_, (false), (by first | rfl | (rw [bl_gt] <;> rfl) | (simp; done) | (simp [*]; done)), H', ⟨by have := HK1.out; have := HJ16.out; have := HJ22.out; first | omega | exact Nat.le_refl _⟩, ⟨rR_ HO_7.out⟩, ⟨rR_ HO_8.out⟩, ⟨bB_⟩⟩)
            ·rw [if_neg c27] at H
             have c27b0 : (a2 == 2) = false := beq_eq_false_iff_ne.mpr c27
             have c27b1 : (a2 != 2) = true := bne_iff_ne.mpr c27
             (first | rw [c27b0] | (simp only [i64_w, i32_w]; rw [c27b0]) | skip)
             have H' := Aside0.mk H
             clear H
             go_wp2
             first
             | (go_meet; case rel => exact ⟨_, (x13_22), (by first | rfl | (rw [bl_gt] <;> rfl) | (simp; done) | (simp [*]; done)), H', ⟨by have := HK1.out; have := HJ16.out; have := HJ22.out; first | omega | exact Nat.le_refl _⟩, ⟨rR_ HO_7.out⟩, ⟨rR_ HO_8.out⟩, ⟨bB_⟩⟩)
             | (refine Met.intro ?_; go_step; (repeat apply Exists.intro); refine ⟨?_, ?_⟩; rotate_left; (focus (simp only [c27b0]; try rfl)); exact ⟨_, (x13_22), (by first | rfl | (rw [bl_gt] <;> rfl) | (simp; done) | (simp [*]; done)), H', ⟨by have := HK1.out; have := HJ16.out; have := HJ22.out; first | omega | exact Nat.le_refl _⟩, ⟨rR_ HO_7.out⟩, ⟨rR_ HO_8.out⟩, ⟨bB_⟩⟩)
           case rest =>
            clear HC26
            try clear c1
            try clear c2
            try clear p2
            try clear p3
            try clear q3
            try clear hx3
            try clear c4
            try clear c5
            try clear c6
            try clear c10
            try clear c13
            try clear c13b0
            try clear c14
            try clear c14b0
            try clear c22
            try clear c24
            try clear c24b0
            try clear c24b1
            try clear c25
            try clear c27
            try clear c27b0
            try clear c27b1
            try clear c28
            try clear hx384_0
            try clear hx386_0
            try clear p2
            try clear p3
            try clear p384
            try clear p386
            try clear q3
            try clear q384
            try clear q386
            obtain ⟨kq, x13_25, rfl, HA, HJ25, HO_7, HO_8, HB⟩ := hcut
            cases kq with
            | zero => exact absurd HA.out (by simp [folkmootref03_set.j3])
            | succ kj25 =>
             have H := HA.out;clear HA
             simp only [folkmootref03_set.j3] at H
             have HC29 := Aside0.mk H
             clear H
             go_upto_region 13 with (fail)
             go_cut [59] (fun v59 wc => ∃ (kq : Nat) (x59_28 : Bool), v59 = .bool x59_28 ∧ Aside0 (folkmootref03_set.j4 kq l0 l1 a2 t381 x8_1 x9_1 x10_1 x13_25 x59_28 = some r) ∧ Aside0 (kq ≤ kj25) ∧ Aside0 (Kd.R Kd.string 9 wc w.heap.size (fun _ => True) (.slice (some ad384) t381.length co18) t381) ∧ Aside0 (Kd.R k71 71 wc w.heap.size (fun _ => True) u8 x8_1) ∧ Aside0 (Below w.heap.size w wc))
             case first =>
              have H := HC29.out;clear HC29
              by_cases c30 : x13_25 = true
              ·subst c30
               have H1 : (folkmootref03_set.j4 kj25 l0 l1 a2 t381 x8_1 x9_1 x10_1 true (!x9_1)) = some r := by rw [if_pos rfl] at H; exact H
               clear H;have H := H1;clear H1
               have H' := Aside0.mk H
               clear H
               go_wp2
               go_meet
               case rel => exact ⟨_, (!x9_1), (by first | rfl | (rw [bl_gt] <;> rfl) | (simp; done) | (simp [*]; done)), H', ⟨by have := HK1.out; have := HJ16.out; have := HJ22.out; have := HJ25.out; first | omega | exact Nat.le_refl _⟩, ⟨rR_ HO_7.out⟩, ⟨rR_ HO_8.out⟩, ⟨bB_⟩⟩
              ·replace c30 := Bool.eq_false_iff.mpr c30
               subst c30
               have H1 : (folkmootref03_set.j4 kj25 l0 l1 a2 t381 x8_1 x9_1 x10_1 false false) = some r := by rw [if_neg (show ¬ (false = true) by decide)] at H; exact H
               clear H;have H := H1;clear H1
               have H' := Aside0.mk H
               clear H
               go_wp2
               go_meet
               case rel => exact ⟨_, (false), (by first | rfl | (rw [bl_gt] <;> rfl) | (simp; done) | (simp [*]; done)), H', ⟨by have := HK1.out; have := HJ16.out; have := HJ22.out; have := HJ25.out; first | omega | exact Nat.le_refl _⟩, ⟨rR_ HO_7.out⟩, ⟨rR_ HO_8.out⟩, ⟨bB_⟩⟩
             case rest =>
              clear HC29
              try clear c1
              try clear c2
              try clear p2
              try clear c3
              try clear p3
              try clear q3
              try clear hx3
              try clear c4
              try clear c5
              try clear c6
              try clear c10
              try clear c13
              try clear c13b0
              try clear c14
              try clear c14b0
              try clear c22
              try clear c24
              try clear c24b0
              try clear c24b1
              try clear c25
              try clear c27
              try clear c27b0
              try clear c27b1
              try clear c28
              try clear c30
              try clear hx384_0
              try clear hx386_0
              try clear p2
              try clear p3
              try clear p384
              try clear p386
              try clear q3
              try clear q384
              try clear q386
              obtain ⟨kq, x59_28, rfl, HA, HJ28, HO_7, HO_8, HB⟩ := hcut
              cases kq with
              | zero => exact absurd HA.out (by simp [folkmootref03_set.j4])
              | succ kj28 =>
               have H := HA.out;clear HA
               simp only [folkmootref03_set.j4] at H
               by_cases c31 : x59_28 = true
               ·subst c31
                have H1 : (if 0 ≤ x10_1 then (if x10_1 < (t381.length : Int) then (if x8_1.length < 4398046511104 then ((some (x8_1 ++ [(⟨rdOf ByteArray.empty t381 x10_1, (⟨#[]⟩ : ByteArray)⟩ : S71)] : List (S71))).bind fun y389 => (if x13_25 = true then (folkmootref03_set.l0 kj28 l0 l1 a2 t381 y389 x13_25 (wrap64 (x10_1 + 1))) else (if x9_1 = true then (if 0 ≤ (wrap64 ((y389.length : Int) - 1)) then (if (wrap64 ((y389.length : Int) - 1)) < (y389.length : Int) then (folkmootref03_set.l0 kj28 l0 l1 a2 t381 (y389.set ((wrap64 ((y389.length : Int) - 1)) : Int).toNat (⟨(rd_T71 y389 (wrap64 ((y389.length : Int) - 1))).f0, rdOf ByteArray.empty t381 x10_1⟩ : S71)) x13_25 (wrap64 (x10_1 + 1))) else (none)) else (none)) else (folkmootref03_set.l0 kj28 l0 l1 a2 t381 y389 x13_25 (wrap64 (x10_1 + 1)))))) else (none)) else (none)) else (none)) = some r := by rw [if_pos rfl] at H; exact H
                clear H;have H := H1;clear H1
                by_cases c32 : 0 ≤ x10_1
                ·rw [if_pos c32] at H
                 have c32b0 : decide (0 ≤ x10_1) = true := decide_eq_true c32
                 clear c32
                 by_cases c33 : x10_1 < (t381.length : Int)
                 ·rw [if_pos c33] at H
                  have c33b0 : decide (x10_1 < (t381.length : Int)) = true := decide_eq_true c33
                  clear c33
                  by_cases c34 : x8_1.length < 4398046511104
                  ·rw [if_pos c34] at H
                   have LMc34 := Aside0.mk c34
                   clear c34
                   obtain ⟨y389, hy389⟩ : ∃ y_ : List (S71), y_ = (x8_1 ++ [(⟨rdOf ByteArray.empty t381 x10_1, (⟨#[]⟩ : ByteArray)⟩ : S71)]) := ⟨_, rfl⟩
                   replace H : (if x13_25 = true then (folkmootref03_set.l0 kj28 l0 l1 a2 t381 y389 x13_25 (wrap64 (x10_1 + 1))) else (if x9_1 = true then (if 0 ≤ (wrap64 ((y389.length : Int) - 1)) then (if (wrap64 ((y389.length : Int) - 1)) < (y389.length : Int) then (folkmootref03_set.l0 kj28 l0 l1 a2 t381 (y389.set ((wrap64 ((y389.length : Int) - 1)) : Int).toNat (⟨(rd_T71 y389 (wrap64 ((y389.length : Int) - 1))).f0, rdOf ByteArray.empty t381 x10_1⟩ : S71)) x13_25 (wrap64 (x10_1 + 1))) else (none)) else (none)) else (folkmootref03_set.l0 kj28 l0 l1 a2 t381 y389 x13_25 (wrap64 (x10_1 + 1))))) = some r := by first | (rw [hy389]; with_reducible exact H) | (have H2_ := (Option.bind_some _ _).symm.trans H; rw [hy389]; with_reducible exact H2_) | (have H2_ := (Option.bind_some _ _).symm.trans H; with_reducible exact H2_) | with_reducible exact H | (rw [hy389]; exact H) | exact H
                   have Ny389 := Aside0.mk hy389
                   clear hy389
                   by_cases c35 : x13_25 = true
                   ·subst c35
                    have H1 : (folkmootref03_set.l0 kj28 l0 l1 a2 t381 y389 true (wrap64 (x10_1 + 1))) = some r := by rw [if_pos rfl] at H; exact H
                    clear H;have H := H1;clear H1
                    have H' := Aside0.mk H
                    clear H
                    have p388 : 0 ≤ (x10_1 : Int) := of_decide_eq_true (by first | (with_reducible assumption) | assumption)
                    have q388 : x10_1 < (t381.length : Int) := of_decide_eq_true (by first | (with_reducible assumption) | assumption)
                    obtain ⟨ad388, e388, hx388_0⟩ := Kd.at_string (Kd.R_reads' HO_7.out).2.2 x10_1 p388 q388
                    obtain rfl : ad384 = ad388 := (by injection e388)
                    replace p388 := eq_true p388
                    replace q388 := eq_true q388
                    go_wp2_with (first | ((with_reducible refine gate_builtin (b := .append) (xs := #[.tmp 60, .tmp 66]) rfl ?_); at_builtin; refine Kd.R_append k71 (w0 := w) w.heap.size rfl (.tmp 60) (.tmp 66) 40 71 (.agg #[(.string ⟨#[]⟩), (.string ⟨#[]⟩)]) 32 rfl Tryz.underlying40 info71 rfl (by decide) (by omega) u8 x8_1 (⟨rdOf ByteArray.empty t381 x10_1, (⟨#[]⟩ : ByteArray)⟩ : S71) [.string (rdOf ByteArray.empty t381 x10_1), .string (⟨#[]⟩ : ByteArray)] (fun _ => True) (fun _ => False) rfl rfl ?aP (fun _ hk => hk.elim) ?aF ?aO ?aB ?aS ?aL ?_; (case aP => exact k71_mkM _ _ _ (⟨rdOf ByteArray.empty t381 x10_1, (⟨#[]⟩ : ByteArray)⟩ : S71)); (case aB => exact bB_); (case aF => exact (fun _ _ => trivial)); (case aO => exact (rR_ HO_8.out)); (case aS => exact (below_size bB_)); (case aL => have := LMc34.out; omega); intro v390 w36 ho hb hg hat; rw [← Ny389.out] at ho; have n0_ := Aside0.mk (Kd.R_over' (rR_ HO_7.out) (Kd.R_typed (rR_ HO_8.out)) (by decide) hg); have n1_ := Aside0.mk (hb); have n2_ := Aside0.mk (ho); clear HO_7; clear HB; clear HO_8; have HO_7 := n0_; have HB := n1_; have HO391 := n2_; clear n0_ n1_ n2_; clear ho hb hg hat))
                    go_roundg kj28
                    case measure => have := HK1.out; have := HJ16.out; have := HJ22.out; have := HJ25.out; have := HJ28.out; omega
                    case rel => exact ⟨(y389), (true), (wrap64 (x10_1 + 1)), (by first | rfl | (rw [bl_gt] <;> rfl) | (simp; done) | (simp [*]; done)), (by first | rfl | (rw [bl_gt] <;> rfl) | (simp; done) | (simp [*]; done)), H', ⟨by have := HK1.out; have := HJ16.out; have := HJ22.out; have := HJ25.out; have := HJ28.out; omega⟩, ⟨rR_ HO_7.out⟩, ⟨rR_ HO391.out⟩, ⟨bB_⟩⟩
                   ·replace c35 := Bool.eq_false_iff.mpr c35
                    subst c35
                    have H1 : (if x9_1 = true then (if 0 ≤ (wrap64 ((y389.length : Int) - 1)) then (if (wrap64 ((y389.length : Int) - 1)) < (y389.length : Int) then (folkmootref03_set.l0 kj28 l0 l1 a2 t381 (y389.set ((wrap64 ((y389.length : Int) - 1)) : Int).toNat (⟨(rd_T71 y389 (wrap64 ((y389.length : Int) - 1))).f0, rdOf ByteArray.empty t381 x10_1⟩ : S71)) false (wrap64 (x10_1 + 1))) else (none)) else (none)) else (folkmootref03_set.l0 kj28 l0 l1 a2 t381 y389 false (wrap64 (x10_1 + 1)))) = some r := by rw [if_neg (show ¬ (false = true) by decide)] at H; exact H
                    clear H;have H := H1;clear H1
                    by_cases c37 : x9_1 = true
                    ·subst c37
                     have H1 : (if 0 ≤ (wrap64 ((y389.length : Int) - 1)) then (if (wrap64 ((y389.length : Int) - 1)) < (y389.length : Int) then (folkmootref03_set.l0 kj28 l0 l1 a2 t381 (y389.set ((wrap64 ((y389.length : Int) - 1)) : Int).toNat (⟨(rd_T71 y389 (wrap64 ((y389.length : Int) - 1))).f0, rdOf ByteArray.empty t381 x10_1⟩ : S71)) false (wrap64 (x10_1 + 1))) else (none)) else (none)) = some r := by rw [if_pos rfl] at H; exact H
                     clear H;have H := H1;clear H1
                     obtain ⟨ji38, hji38⟩ : ∃ j_ : Int, (wrap64 ((y389.length : Int) - 1)) = j_ := ⟨_, rfl⟩
                     replace H : (if 0 ≤ (ji38) then (if (ji38) < (y389.length : Int) then (folkmootref03_set.l0 kj28 l0 l1 a2 t381 (y389.set ((ji38) : Int).toNat (⟨(rd_T71 y389 (ji38)).f0, rdOf ByteArray.empty t381 x10_1⟩ : S71)) false (wrap64 (x10_1 + 1))) else (none)) else (none)) = some r := by first | (rw [hji38] at H; exact H) | (simp only [hji38] at H ⊢; exact H)
                     have hji38w : (IntKind.i64.wrap ((y389.length : Int) - 1)) = ji38 := (i64_w _).trans hji38
                     by_cases c39 : 0 ≤ (ji38)
                     ·rw [if_pos c39] at H
                      have c39b0 : decide (0 ≤ (ji38)) = true := decide_eq_true c39
                      clear c39
                      by_cases c40 : (ji38) < (y389.length : Int)
                      ·rw [if_pos c40] at H
                       have c40b0 : decide ((ji38) < (y389.length : Int)) = true := decide_eq_true c40
                       clear c40
                       obtain ⟨y393, hy393⟩ : ∃ y_ : List (S71), y_ = (y389.set ((ji38) : Int).toNat (⟨(rd_T71 y389 (ji38)).f0, rdOf ByteArray.empty t381 x10_1⟩ : S71)) := ⟨_, rfl⟩
                       replace H : (folkmootref03_set.l0 kj28 l0 l1 a2 t381 y393 false (wrap64 (x10_1 + 1))) = some r := by first | (rw [hy393]; with_reducible exact H) | (have H2_ := (Option.bind_some _ _).symm.trans H; rw [hy393]; with_reducible exact H2_) | (have H2_ := (Option.bind_some _ _).symm.trans H; with_reducible exact H2_) | with_reducible exact H | (rw [hy393]; exact H) | exact H
                       have Ny393 := Aside0.mk hy393
                       clear hy393
                       have H' := Aside0.mk H
                       clear H
                       have p388 : 0 ≤ (x10_1 : Int) := of_decide_eq_true (by first | (with_reducible assumption) | assumption)
                       have q388 : x10_1 < (t381.length : Int) := of_decide_eq_true (by first | (with_reducible assumption) | assumption)
                       obtain ⟨ad388, e388, hx388_0⟩ := Kd.at_string (Kd.R_reads' HO_7.out).2.2 x10_1 p388 q388
                       obtain rfl : ad384 = ad388 := (by injection e388)
                       replace p388 := eq_true p388
                       replace q388 := eq_true q388
                       go_wp2_with (first | ((with_reducible refine gate_builtin (b := .append) (xs := #[.tmp 60, .tmp 66]) rfl ?_); at_builtin; refine Kd.R_append k71 (w0 := w) w.heap.size rfl (.tmp 60) (.tmp 66) 40 71 (.agg #[(.string ⟨#[]⟩), (.string ⟨#[]⟩)]) 32 rfl Tryz.underlying40 info71 rfl (by decide) (by omega) u8 x8_1 (⟨rdOf ByteArray.empty t381 x10_1, (⟨#[]⟩ : ByteArray)⟩ : S71) [.string (rdOf ByteArray.empty t381 x10_1), .string (⟨#[]⟩ : ByteArray)] (fun _ => True) (fun _ => False) rfl rfl ?aP (fun _ hk => hk.elim) ?aF ?aO ?aB ?aS ?aL ?_; (case aP => exact k71_mkM _ _ _ (⟨rdOf ByteArray.empty t381 x10_1, (⟨#[]⟩ : ByteArray)⟩ : S71)); (case aB => exact bB_); (case aF => exact (fun _ _ => trivial)); (case aO => exact (rR_ HO_8.out)); (case aS => exact (below_size bB_)); (case aL => have := LMc34.out; omega); intro v390 w42 ho hb hg hat; rw [← Ny389.out] at ho; have n0_ := Aside0.mk (Kd.R_over' (rR_ HO_7.out) (Kd.R_typed (rR_ HO_8.out)) (by decide) hg); have n1_ := Aside0.mk (hb); have n2_ := Aside0.mk (ho); clear HO_7; clear HB; clear HO_8; have HO_7 := n0_; have HB := n1_; have HO391 := n2_; clear n0_ n1_ n2_; clear ho hb hg hat; obtain ⟨Ao43, co43, eo43⟩ := Kd.R_slice HO391.out; subst eo43; have p392 : 0 ≤ (x10_1 : Int) := of_decide_eq_true (by first | (with_reducible assumption) | assumption); have q392 : x10_1 < (t381.length : Int) := of_decide_eq_true (by first | (with_reducible assumption) | assumption); obtain ⟨ad392, e392, hx392_0⟩ := Kd.at_string (Kd.R_reads' HO_7.out).2.2 x10_1 p392 q392; obtain rfl : ad384 = ad392 := (by injection e392); replace p392 := eq_true p392; replace q392 := eq_true q392; have p41 : 0 ≤ ((ji38) : Int) := of_decide_eq_true (by first | (with_reducible assumption) | assumption); have q41 : ((ji38) : Int) < ((y389.length : Int) : Int) := of_decide_eq_true (by first | (with_reducible assumption) | assumption); obtain ⟨go41, co41, eo41, gb41, gl41, cl41, HG41⟩ := Kd.R_form HO391.out (by omega); (first | cases eo41 | (injection eo41 with ea_ en_ ec_; (first | subst ea_ | (injection ea_ with ea_; subst ea_)); subst ec_; clear en_)); have GB41 := Aside0.mk gb41; have GG41 := Aside0.mk HG41; clear gb41 gl41 HG41; obtain ⟨ce41, hcl41, hM41, hcc41, hfr41⟩ := Kd.R_elem HO391.out z71 ((ji38) : Int) p41 q41; obtain rfl := k71_openM hM41; have hx41_0 : w42.cell? ⟨go41, ((ji38) : Int).toNat * 2, none⟩ = some (.string ((rd_T71 y389 (ji38)).f0)) := hcc41 0 _ rfl; have hx41_1 : w42.cell? ⟨go41, ((ji38) : Int).toNat * 2 + 1, none⟩ = some (.string ((rd_T71 y389 (ji38)).f1)) := hcc41 1 _ rfl; have hf41_0 : w42.frozen? ⟨go41, ((ji38) : Int).toNat * 2, none⟩ = false := hfr41 0; have hf41_1 : w42.frozen? ⟨go41, ((ji38) : Int).toNat * 2 + 1, none⟩ = false := hfr41 1; clear hcl41 hcc41 hfr41 hM41; replace p41 := eq_true p41; replace q41 := eq_true q41; have HX44 := Aside0.mk (show Kd.R k71 71 w42 w.heap.size (fun _ => True) (.slice (some ⟨go41, 0, none⟩) y389.length co43) y389 from (rR_ HO391.out)); obtain ⟨ce44, hcl44, hM44, hcc44, hfr44⟩ := Kd.R_elem HX44.out z71 ((ji38) : Int) (of_decide_eq_true (by first | (with_reducible assumption) | assumption)) (by have h_ : ((ji38) : Int) < ((y389.length : Int) : Int) := of_decide_eq_true (by first | (with_reducible assumption) | assumption); first | exact h_ | (have e_ := (Kd.R_reads' HO391.out).1; omega) | simpa using h_); obtain rfl := k71_openM hM44; have HP44 := Kd.R_seg HX44.out ((ji38) : Int) (of_decide_eq_true (by first | (with_reducible assumption) | assumption)) (by have h_ : ((ji38) : Int) < ((y389.length : Int) : Int) := of_decide_eq_true (by first | (with_reducible assumption) | assumption); first | exact h_ | (have e_ := (Kd.R_reads' HO391.out).1; omega) | simpa using h_) (seg := [.string (rdOf ByteArray.empty t381 x10_1)]) (j := 1) hcl44 hcc44 (show 2 ≤ 2 from by decide) (x' := (⟨(rd_T71 y389 (ji38)).f0, rdOf ByteArray.empty t381 x10_1⟩ : S71)) (k71_mkM _ _ _ (⟨(rd_T71 y389 (ji38)).f0, rdOf ByteArray.empty t381 x10_1⟩ : S71) ) (fun _ hk => hk); have hx44_1 := hcc44 1 _ rfl; (try simp only [show (k71).sz = 2 from rfl, Nat.mul_one, Nat.add_zero] at hx44_1); have hf44_1 := hfr44 1; (try simp only [show (k71).sz = 2 from rfl, Nat.mul_one, Nat.add_zero] at hf44_1); clear hcl44 hcc44 hfr44 hM44) | ((with_reducible refine gate_store (t := 9) (p := 82) rfl ?_); refine store_event (t := 9) (p := 82) (v := ?vo_w45) (w1 := (w42.setCell ⟨go41, ((ji38) : Int).toNat * 2 + 1, none⟩ (.string (rdOf ByteArray.empty t381 x10_1)))) ?hg ?ho ?hn ?hr ?_; (case ho => rfl); (case hg => rfl); (case hn => rfl); (case hr => first | (go_simp; done) | (go_simp; rfl)); intro w45 hw; have hg : w42.grownBy w45 (some go41) := (by rw [hw]; exact HP44.2); have hp_ : Kd.R k71 71 w45 w.heap.size (fun _ => True) (.slice (some ⟨go41, 0, none⟩) y389.length co43) y393 := (by rw [hw, Ny393.out]; exact HP44.1); clear HP44; have n0_ := Aside0.mk (Kd.R_over' (v := (.slice (some ⟨go41, 0, none⟩) y389.length co43)) (rR_ HO_7.out) (Kd.R_typed HO391.out) (by decide) hg); have n1_ := Aside0.mk (hp_); have n2_ := Aside0.mk ((by rw [hw]; exact below_set (HB.out) GB41.out : Below w.heap.size w w45)); clear HO_7; clear HO391; clear HB; have HO_7 := n0_; have HO391 := n1_; have HB := n2_; clear n0_ n1_ n2_; clear hg hw hp_))
                       go_roundg kj28
                       case measure => have := HK1.out; have := HJ16.out; have := HJ22.out; have := HJ25.out; have := HJ28.out; omega
                       case rel => exact ⟨(y393), (false), (wrap64 (x10_1 + 1)), (by first | rfl | (rw [bl_gt] <;> rfl) | (simp; done) | (simp [*]; done)), (by first | rfl | (rw [bl_gt] <;> rfl) | (simp; done) | (simp [*]; done)), H', ⟨by have := HK1.out; have := HJ16.out; have := HJ22.out; have := HJ25.out; have := HJ28.out; omega⟩, ⟨rR_ HO_7.out⟩, ⟨rR_ HO391.out⟩, ⟨bB_⟩⟩
                      ·rw [if_neg c40] at H
                       exact absurd H (by simp)
                     ·rw [if_neg c39] at H
                      exact absurd H (by simp)
                    ·replace c37 := Bool.eq_false_iff.mpr c37
                     subst c37
                     have H1 : (folkmootref03_set.l0 kj28 l0 l1 a2 t381 y389 false (wrap64 (x10_1 + 1))) = some r := by rw [if_neg (show ¬ (false = true) by decide)] at H; exact H
                     clear H;have H := H1;clear H1
                     have H' := Aside0.mk H
                     clear H
                     have p388 : 0 ≤ (x10_1 : Int) := of_decide_eq_true (by first | (with_reducible assumption) | assumption)
                     have q388 : x10_1 < (t381.length : Int) := of_decide_eq_true (by first | (with_reducible assumption) | assumption)
                     obtain ⟨ad388, e388, hx388_0⟩ := Kd.at_string (Kd.R_reads' HO_7.out).2.2 x10_1 p388 q388
                     obtain rfl : ad384 = ad388 := (by injection e388)
                     replace p388 := eq_true p388
                     replace q388 := eq_true q388
                     go_wp2_with (first | ((with_reducible refine gate_builtin (b := .append) (xs := #[.tmp 60, .tmp 66]) rfl ?_); at_builtin; refine Kd.R_append k71 (w0 := w) w.heap.size rfl (.tmp 60) (.tmp 66) 40 71 (.agg #[(.string ⟨#[]⟩), (.string ⟨#[]⟩)]) 32 rfl Tryz.underlying40 info71 rfl (by decide) (by omega) u8 x8_1 (⟨rdOf ByteArray.empty t381 x10_1, (⟨#[]⟩ : ByteArray)⟩ : S71) [.string (rdOf ByteArray.empty t381 x10_1), .string (⟨#[]⟩ : ByteArray)] (fun _ => True) (fun _ => False) rfl rfl ?aP (fun _ hk => hk.elim) ?aF ?aO ?aB ?aS ?aL ?_; (case aP => exact k71_mkM _ _ _ (⟨rdOf ByteArray.empty t381 x10_1, (⟨#[]⟩ : ByteArray)⟩ : S71)); (case aB => exact bB_); (case aF => exact (fun _ _ => trivial)); (case aO => exact (rR_ HO_8.out)); (case aS => exact (below_size bB_)); (case aL => have := LMc34.out; omega); intro v390 w46 ho hb hg hat; rw [← Ny389.out] at ho; have n0_ := Aside0.mk (Kd.R_over' (rR_ HO_7.out) (Kd.R_typed (rR_ HO_8.out)) (by decide) hg); have n1_ := Aside0.mk (hb); have n2_ := Aside0.mk (ho); clear HO_7; clear HB; clear HO_8; have HO_7 := n0_; have HB := n1_; have HO391 := n2_; clear n0_ n1_ n2_; clear ho hb hg hat))
                     go_roundg kj28
                     case measure => have := HK1.out; have := HJ16.out; have := HJ22.out; have := HJ25.out; have := HJ28.out; omega
                     case rel => exact ⟨(y389), (false), (wrap64 (x10_1 + 1)), (by first | rfl | (rw [bl_gt] <;> rfl) | (simp; done) | (simp [*]; done)), (by first | rfl | (rw [bl_gt] <;> rfl) | (simp; done) | (simp [*]; done)), H', ⟨by have := HK1.out; have := HJ16.out; have := HJ22.out; have := HJ25.out; have := HJ28.out; omega⟩, ⟨rR_ HO_7.out⟩, ⟨rR_ HO391.out⟩, ⟨bB_⟩⟩
                  ·rw [if_neg c34] at H
                   exact absurd H (by simp)
                 ·rw [if_neg c33] at H
                  exact absurd H (by simp)
                ·rw [if_neg c32] at H
                 exact absurd H (by simp)
               ·replace c31 := Bool.eq_false_iff.mpr c31
                subst c31
                have H1 : (if x13_25 = true then (folkmootref03_set.l0 kj28 l0 l1 a2 t381 x8_1 x13_25 (wrap64 (x10_1 + 1))) else (if x9_1 = true then (if 0 ≤ x10_1 then (if x10_1 < (t381.length : Int) then (if 0 ≤ (wrap64 ((x8_1.length : Int) - 1)) then (if (wrap64 ((x8_1.length : Int) - 1)) < (x8_1.length : Int) then (folkmootref03_set.l0 kj28 l0 l1 a2 t381 (x8_1.set ((wrap64 ((x8_1.length : Int) - 1)) : Int).toNat (⟨(rd_T71 x8_1 (wrap64 ((x8_1.length : Int) - 1))).f0, rdOf ByteArray.empty t381 x10_1⟩ : S71)) x13_25 (wrap64 (x10_1 + 1))) else (none)) else (none)) else (none)) else (none)) else (folkmootref03_set.l0 kj28 l0 l1 a2 t381 x8_1 x13_25 (wrap64 (x10_1 + 1))))) = some r := by rw [if_neg (show ¬ (false = true) by decide)] at H; exact H
                clear H;have H := H1;clear H1
                by_cases c47 : x13_25 = true
                ·subst c47
                 have H1 : (folkmootref03_set.l0 kj28 l0 l1 a2 t381 x8_1 true (wrap64 (x10_1 + 1))) = some r := by rw [if_pos rfl] at H; exact H
                 clear H;have H := H1;clear H1
                 have H' := Aside0.mk H
                 clear H
                 go_wp2
                 go_roundg kj28
                 case measure => have := HK1.out; have := HJ16.out; have := HJ22.out; have := HJ25.out; have := HJ28.out; omega
                 case rel => exact ⟨(x8_1), (true), (wrap64 (x10_1 + 1)), (by first | rfl | (rw [bl_gt] <;> rfl) | (simp; done) | (simp [*]; done)), (by first | rfl | (rw [bl_gt] <;> rfl) | (simp; done) | (simp [*]; done)), H', ⟨by have := HK1.out; have := HJ16.out; have := HJ22.out; have := HJ25.out; have := HJ28.out; omega⟩, ⟨rR_ HO_7.out⟩, ⟨rR_ HO_8.out⟩, ⟨bB_⟩⟩
                ·replace c47 := Bool.eq_false_iff.mpr c47
                 subst c47
                 have H1 : (if x9_1 = true then (if 0 ≤ x10_1 then (if x10_1 < (t381.length : Int) then (if 0 ≤ (wrap64 ((x8_1.length : Int) - 1)) then (if (wrap64 ((x8_1.length : Int) - 1)) < (x8_1.length : Int) then (folkmootref03_set.l0 kj28 l0 l1 a2 t381 (x8_1.set ((wrap64 ((x8_1.length : Int) - 1)) : Int).toNat (⟨(rd_T71 x8_1 (wrap64 ((x8_1.length : Int) - 1))).f0, rdOf ByteArray.empty t381 x10_1⟩ : S71)) false (wrap64 (x10_1 + 1))) else (none)) else (none)) else (none)) else (none)) else (folkmootref03_set.l0 kj28 l0 l1 a2 t381 x8_1 false (wrap64 (x10_1 + 1)))) = some r := by rw [if_neg (show ¬ (false = true) by decide)] at H; exact H
                 clear H;have H := H1;clear H1
                 by_cases c48 : x9_1 = true
                 ·subst c48
                  have H1 : (if 0 ≤ x10_1 then (if x10_1 < (t381.length : Int) then (if 0 ≤ (wrap64 ((x8_1.length : Int) - 1)) then (if (wrap64 ((x8_1.length : Int) - 1)) < (x8_1.length : Int) then (folkmootref03_set.l0 kj28 l0 l1 a2 t381 (x8_1.set ((wrap64 ((x8_1.length : Int) - 1)) : Int).toNat (⟨(rd_T71 x8_1 (wrap64 ((x8_1.length : Int) - 1))).f0, rdOf ByteArray.empty t381 x10_1⟩ : S71)) false (wrap64 (x10_1 + 1))) else (none)) else (none)) else (none)) else (none)) = some r := by rw [if_pos rfl] at H; exact H
                  clear H;have H := H1;clear H1
                  by_cases c49 : 0 ≤ x10_1
                  ·rw [if_pos c49] at H
                   have c49b0 : decide (0 ≤ x10_1) = true := decide_eq_true c49
                   clear c49
                   by_cases c50 : x10_1 < (t381.length : Int)
                   ·rw [if_pos c50] at H
                    have c50b0 : decide (x10_1 < (t381.length : Int)) = true := decide_eq_true c50
                    clear c50
                    obtain ⟨ji51, hji51⟩ : ∃ j_ : Int, (wrap64 ((x8_1.length : Int) - 1)) = j_ := ⟨_, rfl⟩
                    replace H : (if 0 ≤ (ji51) then (if (ji51) < (x8_1.length : Int) then (folkmootref03_set.l0 kj28 l0 l1 a2 t381 (x8_1.set ((ji51) : Int).toNat (⟨(rd_T71 x8_1 (ji51)).f0, rdOf ByteArray.empty t381 x10_1⟩ : S71)) false (wrap64 (x10_1 + 1))) else (none)) else (none)) = some r := by first | (rw [hji51] at H; exact H) | (simp only [hji51] at H ⊢; exact H)
                    have hji51w : (IntKind.i64.wrap ((x8_1.length : Int) - 1)) = ji51 := (i64_w _).trans hji51
                    by_cases c52 : 0 ≤ (ji51)
                    ·rw [if_pos c52] at H
                     have c52b0 : decide (0 ≤ (ji51)) = true := decide_eq_true c52
                     clear c52
                     by_cases c53 : (ji51) < (x8_1.length : Int)
                     ·rw [if_pos c53] at H
                      have c53b0 : decide ((ji51) < (x8_1.length : Int)) = true := decide_eq_true c53
                      clear c53
                      obtain ⟨y395, hy395⟩ : ∃ y_ : List (S71), y_ = (x8_1.set ((ji51) : Int).toNat (⟨(rd_T71 x8_1 (ji51)).f0, rdOf ByteArray.empty t381 x10_1⟩ : S71)) := ⟨_, rfl⟩
                      replace H : (folkmootref03_set.l0 kj28 l0 l1 a2 t381 y395 false (wrap64 (x10_1 + 1))) = some r := by first | (rw [hy395]; with_reducible exact H) | (have H2_ := (Option.bind_some _ _).symm.trans H; rw [hy395]; with_reducible exact H2_) | (have H2_ := (Option.bind_some _ _).symm.trans H; with_reducible exact H2_) | with_reducible exact H | (rw [hy395]; exact H) | exact H
                      have Ny395 := Aside0.mk hy395
                      clear hy395
                      have H' := Aside0.mk H
                      clear H
                      obtain ⟨Ao55, co55, eo55⟩ := Kd.R_slice HO_8.out
                      subst eo55
                      have p394 : 0 ≤ (x10_1 : Int) := of_decide_eq_true (by first | (with_reducible assumption) | assumption)
                      have q394 : x10_1 < (t381.length : Int) := of_decide_eq_true (by first | (with_reducible assumption) | assumption)
                      obtain ⟨ad394, e394, hx394_0⟩ := Kd.at_string (Kd.R_reads' HO_7.out).2.2 x10_1 p394 q394
                      obtain rfl : ad384 = ad394 := (by injection e394)
                      replace p394 := eq_true p394
                      replace q394 := eq_true q394
                      have p54 : 0 ≤ ((ji51) : Int) := of_decide_eq_true (by first | (with_reducible assumption) | assumption)
                      have q54 : ((ji51) : Int) < ((x8_1.length : Int) : Int) := of_decide_eq_true (by first | (with_reducible assumption) | assumption)
                      obtain ⟨go54, co54, eo54, gb54, gl54, cl54, HG54⟩ := Kd.R_form HO_8.out (by omega)
                      (first | cases eo54 | (injection eo54 with ea_ en_ ec_; (first | subst ea_ | (injection ea_ with ea_; subst ea_)); subst ec_; clear en_))
                      have GB54 := Aside0.mk gb54
                      have GG54 := Aside0.mk HG54
                      clear gb54 gl54 HG54
                      obtain ⟨ce54, hcl54, hM54, hcc54, hfr54⟩ := Kd.R_elem HO_8.out z71 ((ji51) : Int) p54 q54
                      obtain rfl := k71_openM hM54
                      have hx54_0 : wc.cell? ⟨go54, ((ji51) : Int).toNat * 2, none⟩ = some (.string ((rd_T71 x8_1 (ji51)).f0)) := hcc54 0 _ rfl
                      have hx54_1 : wc.cell? ⟨go54, ((ji51) : Int).toNat * 2 + 1, none⟩ = some (.string ((rd_T71 x8_1 (ji51)).f1)) := hcc54 1 _ rfl
                      have hf54_0 : wc.frozen? ⟨go54, ((ji51) : Int).toNat * 2, none⟩ = false := hfr54 0
                      have hf54_1 : wc.frozen? ⟨go54, ((ji51) : Int).toNat * 2 + 1, none⟩ = false := hfr54 1
                      clear hcl54 hcc54 hfr54 hM54
                      replace p54 := eq_true p54
                      replace q54 := eq_true q54
                      have HX56 := Aside0.mk (show Kd.R k71 71 wc w.heap.size (fun _ => True) (.slice (some ⟨go54, 0, none⟩) x8_1.length co55) x8_1 from (rR_ HO_8.out))
                      obtain ⟨ce56, hcl56, hM56, hcc56, hfr56⟩ := Kd.R_elem HX56.out z71 ((ji51) : Int) (of_decide_eq_true (by first | (with_reducible assumption) | assumption)) (by have h_ : ((ji51) : Int) < ((x8_1.length : Int) : Int) := of_decide_eq_true (by first | (with_reducible assumption) | assumption); first | exact h_ | (have e_ := (Kd.R_reads' HO_8.out).1; omega) | simpa using h_)
                      obtain rfl := k71_openM hM56
                      have HP56 := Kd.R_seg HX56.out ((ji51) : Int) (of_decide_eq_true (by first | (with_reducible assumption) | assumption)) (by have h_ : ((ji51) : Int) < ((x8_1.length : Int) : Int) := of_decide_eq_true (by first | (with_reducible assumption) | assumption); first | exact h_ | (have e_ := (Kd.R_reads' HO_8.out).1; omega) | simpa using h_) (seg := [.string (rdOf ByteArray.empty t381 x10_1)]) (j := 1) hcl56 hcc56 (show 2 ≤ 2 from by decide) (x' := (⟨(rd_T71 x8_1 (ji51)).f0, rdOf ByteArray.empty t381 x10_1⟩ : S71)) (k71_mkM _ _ _ (⟨(rd_T71 x8_1 (ji51)).f0, rdOf ByteArray.empty t381 x10_1⟩ : S71) ) (fun _ hk => hk)
                      have hx56_1 := hcc56 1 _ rfl
                      (try simp only [show (k71).sz = 2 from rfl, Nat.mul_one, Nat.add_zero] at hx56_1)
                      have hf56_1 := hfr56 1
                      (try simp only [show (k71).sz = 2 from rfl, Nat.mul_one, Nat.add_zero] at hf56_1)
                      clear hcl56 hcc56 hfr56 hM56
                      go_wp2_with (first | ((with_reducible refine gate_store (t := 9) (p := 82) rfl ?_); refine store_event (t := 9) (p := 82) (v := ?vo_w57) (w1 := (wc.setCell ⟨go54, ((ji51) : Int).toNat * 2 + 1, none⟩ (.string (rdOf ByteArray.empty t381 x10_1)))) ?hg ?ho ?hn ?hr ?_; (case ho => rfl); (case hg => rfl); (case hn => rfl); (case hr => first | (go_simp; done) | (go_simp; rfl)); intro w57 hw; have hg : wc.grownBy w57 (some go54) := (by rw [hw]; exact HP56.2); have hp_ : Kd.R k71 71 w57 w.heap.size (fun _ => True) (.slice (some ⟨go54, 0, none⟩) x8_1.length co55) y395 := (by rw [hw, Ny395.out]; exact HP56.1); clear HP56; have n0_ := Aside0.mk (Kd.R_over' (v := (.slice (some ⟨go54, 0, none⟩) x8_1.length co55)) (rR_ HO_7.out) (Kd.R_typed HO_8.out) (by decide) hg); have n1_ := Aside0.mk (hp_); have n2_ := Aside0.mk ((by rw [hw]; exact below_set (HB.out) GB54.out : Below w.heap.size w w57)); clear HO_7; clear HO_8; clear HB; have HO_7 := n0_; have HO_8 := n1_; have HB := n2_; clear n0_ n1_ n2_; clear hg hw hp_))
                      go_roundg kj28
                      case measure => have := HK1.out; have := HJ16.out; have := HJ22.out; have := HJ25.out; have := HJ28.out; omega
                      case rel => exact ⟨(y395), (false), (wrap64 (x10_1 + 1)), (by first | rfl | (rw [bl_gt] <;> rfl) | (simp; done) | (simp [*]; done)), (by first | rfl | (rw [bl_gt] <;> rfl) | (simp; done) | (simp [*]; done)), H', ⟨by have := HK1.out; have := HJ16.out; have := HJ22.out; have := HJ25.out; have := HJ28.out; omega⟩, ⟨rR_ HO_7.out⟩, ⟨rR_ HO_8.out⟩, ⟨bB_⟩⟩
                     ·rw [if_neg c53] at H
                      exact absurd H (by simp)
                    ·rw [if_neg c52] at H
                     exact absurd H (by simp)
                   ·rw [if_neg c50] at H
                    exact absurd H (by simp)
                  ·rw [if_neg c49] at H
                   exact absurd H (by simp)
                 ·replace c48 := Bool.eq_false_iff.mpr c48
                  subst c48
                  have H1 : (folkmootref03_set.l0 kj28 l0 l1 a2 t381 x8_1 false (wrap64 (x10_1 + 1))) = some r := by rw [if_neg (show ¬ (false = true) by decide)] at H; exact H
                  clear H;have H := H1;clear H1
                  have H' := Aside0.mk H
                  clear H
                  go_wp2
                  go_roundg kj28
                  case measure => have := HK1.out; have := HJ16.out; have := HJ22.out; have := HJ25.out; have := HJ28.out; omega
                  case rel => exact ⟨(x8_1), (false), (wrap64 (x10_1 + 1)), (by first | rfl | (rw [bl_gt] <;> rfl) | (simp; done) | (simp [*]; done)), (by first | rfl | (rw [bl_gt] <;> rfl) | (simp; done) | (simp [*]; done)), H', ⟨by have := HK1.out; have := HJ16.out; have := HJ22.out; have := HJ25.out; have := HJ28.out; omega⟩, ⟨rR_ HO_7.out⟩, ⟨rR_ HO_8.out⟩, ⟨bB_⟩⟩
      ·rw [if_neg c14] at H
       exact absurd H (by simp)
     ·rw [if_neg c13] at H
      have c13b0 : decide (x10_1 < (t381.length : Int)) = false := decide_eq_false c13
      clear c13;obtain rfl := Option.some.inj H
      obtain ⟨Ao58, co58, eo58⟩ := Kd.R_slice HO_7.out
      subst eo58
      go_wp2
      go_ret
      exact ⟨_, by first | rfl | (rw [bl_gt] <;> rfl) | (simp [errW_none, errW_some] <;> rfl) | (simp [*, errW_none, errW_some] <;> rfl), by (with_reducible repeat (first | apply Kd.R_alloc | apply Kd.R_drewN | apply Kd.R_drew)); exact HO_8.out, bB_⟩
  ·rw [if_neg c5] at H
   exact absurd H (by simp)
 ·rw [if_neg c4] at H
  exact absurd H (by simp)
end Go.Proofs.YtgmlenpcchhmbaaGreat.P
end
section
set_option linter.unusedVariables false
set_option linter.unusedSimpArgs false
namespace Go.Proofs.YtgmlenpcchhmbaaGreat.P
open Go.RowKit Go.Proofs.YtgmlenpcchhmbaaGreatW.PrintWords Go.Proofs.YtgmlenpcchhmbaaGreatW.PrintLast Go.Proofs.YtgmlenpcchhmbaaGreatW.PrintMore
attribute [local go_sem] max2_int min2_int max_two min_two max_three min_three max_four min_four   -- for this text's walks alone
def folkmootref03_Union.f (k : Nat) (l0 : List (S71)) : Option ((List (S71))) := (folkmootref03_set.f k l0 ([] : List (S71)) 0).bind fun t396 => (some t396)
set_option maxHeartbeats 8000000 in
set_option maxRecDepth 100000 in
theorem folkmootref03_Union.calls (k : Nat) (A0 : Option Addr) (c0 : Nat) (l0 : List (S71)) (r : List (S71)) (w : World) (hr0 : Kd.C k71 w A0 l0.length l0) (hc0 : l0.length ≤ c0) (h : folkmootref03_Union.f k l0 = some r) :
  Calls Tryz.prog 25 #[.slice A0 l0.length c0] w fun e w' => ∃ v0_ : Value, e = .returned (v0_) ∧ Kd.R k71 71 w' w.heap.size (fun _ => True) v0_ r ∧ Below w.heap.size w w' := by
 have HR0 := Aside0.mk hr0
 have HC0 := Aside0.mk hc0
 clear hr0 hc0
 have HB := Aside0.mk (Below.refl w.heap.size w)
 have H : ((folkmootref03_set.f k l0 ([] : List (S71)) 0).bind fun t396 => (some t396)) = some r := h
 clear h
 replace H := Option.bind_eq_some_iff.mp H
 obtain ⟨t396, A20, H⟩ := H
 replace H : (some t396) = some r := H
 have A2 := Aside0.mk A20
 clear A20;obtain rfl := Option.some.inj H
 go_enter Tryz.func25, Tryz.ntmps25
 go_wp2_with (first | ((with_reducible refine gate_callee (f := 65) rfl ?_); refine goesL_ (some 4) rfl rfl Tryz.func65 (by kernel_rfl) rfl #[.slice A0 l0.length c0, .slice none 0 0, .int .i64 0] rfl (by (try simp only [List.map_toArray, List.map_cons, List.map_nil]); first | done | rfl | (simp only [List.length_drop, List.length_take]; rfl)) ?_; (refine (folkmootref03_set.calls k _ _ l0 _ _ ([] : List (S71)) 0 t396 _ ?side1 ?side2 ?side3 ?side4 A2.out).mono ?_); (case side1 => repeat (first | exact HR0.out | (with_reducible refine Kd.C_alloc ?_ _) | (with_reducible refine Kd.C_drewN ?_ _) | (with_reducible refine Kd.C_drew ?_))); (case side2 => exact HC0.out); (case side3 => exact Kd.C_nil _ _); (case side4 => exact Nat.le_refl _); rintro e w3 ⟨v397, rfl, ho0, hb⟩; refine ⟨_, rfl, ?_⟩; have n0_ := Aside0.mk (Kd.R_lower ho0 (below_size bB_)); have n1_ := Aside0.mk (below_step bB_ hb); clear HB; have HO398 := n0_; have HB := n1_; clear n0_ n1_; (try clear hb); (try clear hb2); (try clear hk); (try clear hi); (try clear ho0)))
 go_ret
 exact ⟨_, by first | rfl | (rw [bl_gt] <;> rfl) | (simp [errW_none, errW_some] <;> rfl) | (simp [*, errW_none, errW_some] <;> rfl), by (with_reducible repeat (first | apply Kd.R_alloc | apply Kd.R_drewN | apply Kd.R_drew)); exact HO398.out, bB_⟩
end Go.Proofs.YtgmlenpcchhmbaaGreat.P
end
section
set_option linter.unusedVariables false
set_option linter.unusedSimpArgs false
namespace Go.Proofs.YtgmlenpcchhmbaaGreat.P
open Go.RowKit Go.Proofs.YtgmlenpcchhmbaaGreatW.PrintWords Go.Proofs.YtgmlenpcchhmbaaGreatW.PrintLast Go.Proofs.YtgmlenpcchhmbaaGreatW.PrintMore
attribute [local go_sem] max2_int min2_int max_two min_two max_three min_three max_four min_four   -- for this text's walks alone
theorem eqA71 (d : Nat) (w : World) (x0 y0 : ByteArray) (x1 y1 : ByteArray) :
  (Op.equalIn (d + 2) 71 (.agg #[.string x0, .string x1]) (.agg #[.string y0, .string y1])).run Tryz.prog w = .ok (x0.toList == y0.toList && (x1.toList == y1.toList)) w := by
 refine eqA_of Tryz.underlying71 (by kernel_rfl) ?_;refine eqf_cons (by rfl) (by go_simp; rfl) (by go_simp; rfl) (by go_simp) ?_
 exact eqf_last (by rfl) (by go_simp; rfl) (by go_simp; rfl) (by go_simp)
end Go.Proofs.YtgmlenpcchhmbaaGreat.P
end
section
set_option linter.unusedVariables false
set_option linter.unusedSimpArgs false
namespace Go.Proofs.YtgmlenpcchhmbaaGreat.P
open Go.RowKit Go.Proofs.YtgmlenpcchhmbaaGreatW.PrintWords Go.Proofs.YtgmlenpcchhmbaaGreatW.PrintLast Go.Proofs.YtgmlenpcchhmbaaGreatW.PrintMore
attribute [local go_sem] max2_int min2_int max_two min_two max_three min_three max_four min_four   -- for this text's walks alone
attribute [local go_sem high] eqA71
def folkmootref03_Same.l0 : Nat → List (S71) → List (S71) → Int → Option (Bool)
 | 0, _, _, _ => none
 | k + 1, x0, x1, x5 => if x5 < (x0.length : Int) then (if 0 ≤ x5 then (if x5 < (x1.length : Int) then (if (!((((rd_T71 x0 x5).f0).toList) == (((rd_T71 x1 x5).f0).toList)) || (!((((rd_T71 x0 x5).f1).toList) == (((rd_T71 x1 x5).f1).toList)))) = true then (some false) else (folkmootref03_Same.l0 k x0 x1 (wrap64 (x5 + 1)))) else (none)) else (none)) else (some true)
def folkmootref03_Same.f (k : Nat) (l0 : List (S71)) (l1 : List (S71)) : Option (Bool) := if (l0.length : Int) = (l1.length : Int) then (folkmootref03_Same.l0 k l0 l1 0) else (some false)
set_option maxHeartbeats 8000000 in
set_option maxRecDepth 100000 in
theorem folkmootref03_Same.calls (k : Nat) (A0 : Option Addr) (c0 : Nat) (l0 : List (S71)) (A1 : Option Addr) (c1 : Nat) (l1 : List (S71)) (r : Bool) (w : World) (hr0 : Kd.C k71 w A0 l0.length l0) (hc0 : l0.length ≤ c0) (hr1 : Kd.C k71 w A1 l1.length l1) (hc1 : l1.length ≤ c1) (h : folkmootref03_Same.f k l0 l1 = some r) :
  Calls Tryz.prog 41 #[.slice A0 l0.length c0, .slice A1 l1.length c1] w fun e w' => e = .returned (.bool r) ∧ Drawn0 w w' := by
 have hu71 := Tryz.underlying71
 have HR0 := Aside0.mk hr0
 have HC0 := Aside0.mk hc0
 clear hr0 hc0
 have HR1 := Aside0.mk hr1
 have HC1 := Aside0.mk hc1
 clear hr1 hc1
 have H : (if (l0.length : Int) = (l1.length : Int) then (folkmootref03_Same.l0 k l0 l1 0) else (some false)) = some r := h
 clear h
 by_cases c3 : (l0.length : Int) = (l1.length : Int)
 ·rw [if_pos c3] at H
  have c3b0 : ((l0.length : Int) == (l1.length : Int)) = true := beq_iff_eq.mpr c3
  have c3b1 : ((l0.length : Int) != (l1.length : Int)) = false := bne_eq_false_iff_eq.mpr c3
  have c3b2 : (l0.length == l1.length) = true := by first | simpa using c3 | (simp at c3 ⊢; omega)
  clear c3
  have H' := Aside0.mk H
  clear H
  go_enter Tryz.func41, Tryz.ntmps41
  go_wp2
  repeat (go_quiet (fail); try go_wp2)
  go_loopg [5] k (fun kq v5 w' => ∃ (x5_1 : Int), v5 = .int .i64 x5_1 ∧ Aside0 (folkmootref03_Same.l0 kq l0 l1 x5_1 = some r) ∧ Aside0 (kq ≤ k) ∧ Drawn0 w w')
  case atStart => exact ⟨(0), (by first | rfl | (rw [bl_gt] <;> rfl) | (simp; done) | (simp [*]; done)), H', ⟨Nat.le_refl _⟩, by repeat (first | exact Drawn0.refl _ | apply Drawn0.step)⟩
  case round =>
   clear H'
   try clear c1
   try clear p2
   try clear c3
   try clear c3b0
   try clear c3b1
   try clear c3b2
   obtain ⟨x5_1, rfl, HA, HK1, ⟨m1, rfl⟩⟩ := hrel
   cases gk with
   | zero => exact absurd HA.out (by simp [folkmootref03_Same.l0])
   | succ k1 =>
    have H := HA.out;clear HA
    simp only [folkmootref03_Same.l0] at H
    by_cases c4 : x5_1 < (l0.length : Int)
    ·rw [if_pos c4] at H
     have c4b0 : decide (x5_1 < (l0.length : Int)) = true := decide_eq_true c4
     clear c4
     by_cases c5 : 0 ≤ x5_1
     ·rw [if_pos c5] at H
      have c5b0 : decide (0 ≤ x5_1) = true := decide_eq_true c5
      clear c5
      by_cases c6 : x5_1 < (l1.length : Int)
      ·rw [if_pos c6] at H
       have c6b0 : decide (x5_1 < (l1.length : Int)) = true := decide_eq_true c6
       clear c6
       by_cases c7 : (!((((rd_T71 l0 x5_1).f0).toList) == (((rd_T71 l1 x5_1).f0).toList)) || (!((((rd_T71 l0 x5_1).f1).toList) == (((rd_T71 l1 x5_1).f1).toList)))) = true
       ·rw [if_pos c7] at H
        have c7b0 : (!((((rd_T71 l0 x5_1).f0).toList) == (((rd_T71 l1 x5_1).f0).toList)) || (!((((rd_T71 l0 x5_1).f1).toList) == (((rd_T71 l1 x5_1).f1).toList)))) = true := c7
        clear c7;obtain rfl := Option.some.inj H
        have p773 : 0 ≤ (x5_1 : Int) := of_decide_eq_true (by first | (with_reducible assumption) | assumption)
        have q773 : x5_1 < (l0.length : Int) := of_decide_eq_true (by first | (with_reducible assumption) | assumption)
        obtain ⟨ad773, e773, hx773_0, hx773_1⟩ := at_T71 HR0.out x5_1 p773 q773
        cases e773
        replace p773 := eq_true p773
        replace q773 := eq_true q773
        have p774 : 0 ≤ (x5_1 : Int) := of_decide_eq_true (by first | (with_reducible assumption) | assumption)
        have q774 : x5_1 < (l1.length : Int) := of_decide_eq_true (by first | (with_reducible assumption) | assumption)
        obtain ⟨ad774, e774, hx774_0, hx774_1⟩ := at_T71 HR1.out x5_1 p774 q774
        cases e774
        replace p774 := eq_true p774
        replace q774 := eq_true q774
        go_wp2
        repeat (go_quiet (fail); try go_wp2)
        go_ret
        exact ⟨by first | rfl | (simp; done) | (simp [*]; done), by repeat (first | exact Drawn0.refl _ | apply Drawn0.step)⟩
       ·rw [if_neg c7] at H
        have c7b0 : (!((((rd_T71 l0 x5_1).f0).toList) == (((rd_T71 l1 x5_1).f0).toList)) || (!((((rd_T71 l0 x5_1).f1).toList) == (((rd_T71 l1 x5_1).f1).toList)))) = false := by simpa using c7
        clear c7
        have H' := Aside0.mk H
        clear H
        have p773 : 0 ≤ (x5_1 : Int) := of_decide_eq_true (by first | (with_reducible assumption) | assumption)
        have q773 : x5_1 < (l0.length : Int) := of_decide_eq_true (by first | (with_reducible assumption) | assumption)
        obtain ⟨ad773, e773, hx773_0, hx773_1⟩ := at_T71 HR0.out x5_1 p773 q773
        cases e773
        replace p773 := eq_true p773
        replace q773 := eq_true q773
        have p774 : 0 ≤ (x5_1 : Int) := of_decide_eq_true (by first | (with_reducible assumption) | assumption)
        have q774 : x5_1 < (l1.length : Int) := of_decide_eq_true (by first | (with_reducible assumption) | assumption)
        obtain ⟨ad774, e774, hx774_0, hx774_1⟩ := at_T71 HR1.out x5_1 p774 q774
        cases e774
        replace p774 := eq_true p774
        replace q774 := eq_true q774
        go_wp2
        repeat (go_quiet (fail); try go_wp2)
        go_roundg k1
        case measure => have := HK1.out; omega
        case rel => exact ⟨(wrap64 (x5_1 + 1)), (by first | rfl | (rw [bl_gt] <;> rfl) | (simp; done) | (simp [*]; done)), H', ⟨by have := HK1.out; omega⟩, by repeat (first | exact Drawn0.refl _ | apply Drawn0.step)⟩
      ·rw [if_neg c6] at H
       exact absurd H (by simp)
     ·rw [if_neg c5] at H
      exact absurd H (by simp)
    ·rw [if_neg c4] at H
     have c4b0 : decide (x5_1 < (l0.length : Int)) = false := decide_eq_false c4
     clear c4;obtain rfl := Option.some.inj H
     go_wp2
     repeat (go_quiet (fail); try go_wp2)
     go_ret
     exact ⟨by first | rfl | (simp; done) | (simp [*]; done), by repeat (first | exact Drawn0.refl _ | apply Drawn0.step)⟩
 ·rw [if_neg c3] at H
  have c3b0 : ((l0.length : Int) == (l1.length : Int)) = false := beq_eq_false_iff_ne.mpr c3
  have c3b1 : ((l0.length : Int) != (l1.length : Int)) = true := bne_iff_ne.mpr c3
  have c3b2 : (l0.length == l1.length) = false := by first | simpa using c3 | (simp at c3 ⊢; omega)
  obtain rfl := Option.some.inj H
  go_enter Tryz.func41, Tryz.ntmps41
  go_wp2
  repeat (go_quiet (fail); try go_wp2)
  go_ret
  exact ⟨by first | rfl | (simp; done) | (simp [*]; done), by repeat (first | exact Drawn0.refl _ | apply Drawn0.step)⟩
end Go.Proofs.YtgmlenpcchhmbaaGreat.P
end
section
set_option linter.unusedVariables false
set_option linter.unusedSimpArgs false
namespace Go.Proofs.YtgmlenpcchhmbaaGreat.P
open Go.RowKit Go.Proofs.YtgmlenpcchhmbaaGreatW.PrintWords Go.Proofs.YtgmlenpcchhmbaaGreatW.PrintLast Go.Proofs.YtgmlenpcchhmbaaGreatW.PrintMore
attribute [local go_sem] max2_int min2_int max_two min_two max_three min_three max_four min_four   -- for this text's walks alone
mutual
def folkmootref08_Check.l0 : Nat → List (S63) → Int → Option (Int)
 | 0, _, _ => none
 | k + 1, x0, x3 => if x3 < (x0.length : Int) then (if 0 ≤ x3 then (if ((rd_T63 x0 x3).f0) = 2 then (if ((rd_T63 x0 x3).f2).toList = ([] : List UInt8) then (folkmootref08_Check.j2 k x0 x3 true (((rd_T63 x0 x3).f3) == 0) ((rd_T63 x0 x3).f0) ((rd_T63 x0 x3).f1) ((rd_T63 x0 x3).f2) ((rd_T63 x0 x3).f3)) else ((folkmootref03_Key.f ((rd_T63 x0 x3).f2)).bind fun t292 => (if t292 = true then (folkmootref08_Check.j2 k x0 x3 (Op.bytesLess (((rd_T63 x0 x3).f1).toList) (((rd_T63 x0 x3).f2).toList)) (((rd_T63 x0 x3).f3) == 0) ((rd_T63 x0 x3).f0) ((rd_T63 x0 x3).f1) ((rd_T63 x0 x3).f2) ((rd_T63 x0 x3).f3)) else (folkmootref08_Check.j2 k x0 x3 false (((rd_T63 x0 x3).f3) == 0) ((rd_T63 x0 x3).f0) ((rd_T63 x0 x3).f1) ((rd_T63 x0 x3).f2) ((rd_T63 x0 x3).f3))))) else (if ((rd_T63 x0 x3).f0) = 6 then ((folkmootref03_Key.f ((rd_T63 x0 x3).f2)).bind fun t293 => (if t293 = true then (folkmootref08_Check.j2 k x0 x3 (((rd_T63 x0 x3).f2).toList != ((rd_T63 x0 x3).f1).toList) true ((rd_T63 x0 x3).f0) ((rd_T63 x0 x3).f1) ((rd_T63 x0 x3).f2) ((rd_T63 x0 x3).f3)) else (folkmootref08_Check.j2 k x0 x3 false true ((rd_T63 x0 x3).f0) ((rd_T63 x0 x3).f1) ((rd_T63 x0 x3).f2) ((rd_T63 x0 x3).f3)))) else (if ((rd_T63 x0 x3).f0) = 3 then (folkmootref08_Check.j1 k x0 x3 (((rd_T63 x0 x3).f2).toList == ([] : List UInt8)) (((rd_T63 x0 x3).f3) == 0) ((rd_T63 x0 x3).f0) (((rd_T63 x0 x3).f0) == 3) ((rd_T63 x0 x3).f0) ((rd_T63 x0 x3).f1) ((rd_T63 x0 x3).f2) ((rd_T63 x0 x3).f3)) else (folkmootref08_Check.j1 k x0 x3 (((rd_T63 x0 x3).f2).toList == ([] : List UInt8)) (((rd_T63 x0 x3).f3) == 0) ((rd_T63 x0 x3).f0) (((rd_T63 x0 x3).f0) == 4) ((rd_T63 x0 x3).f0) ((rd_T63 x0 x3).f1) ((rd_T63 x0 x3).f2) ((rd_T63 x0 x3).f3))))) else (none)) else (if (x0.length : Int) = 0 then (some 80) else (some 0))
def folkmootref08_Check.j2 : Nat → List (S63) → Int → Bool → Bool → Int → ByteArray → ByteArray → Int → Option (Int)
 | 0, _, _, _, _, _, _, _, _ => none
 | k + 1, x0, x3, x5, x6, x292000, x292001, x292002, x292003 => (folkmootref03_Key.f x292001).bind fun t294 => (if t294 = true then (if x5 = true then (if x6 = true then ((folkmootref07_Is.f x292003).bind fun t295 => (if t295 = true then (folkmootref08_Check.l0 k x0 (wrap64 (x3 + 1))) else (some 80))) else (some 80)) else (some 80)) else (some 80))
def folkmootref08_Check.j1 : Nat → List (S63) → Int → Bool → Bool → Int → Bool → Int → ByteArray → ByteArray → Int → Option (Int)
 | 0, _, _, _, _, _, _, _, _, _, _ => none
 | k + 1, x0, x3, x5, x6, x27, x55, x292000, x292001, x292002, x292003 => if x55 = true then (folkmootref08_Check.j2 k x0 x3 x5 true x292000 x292001 x292002 x292003) else (if x27 = 1 then (folkmootref08_Check.j2 k x0 x3 x5 x6 x292000 x292001 x292002 x292003) else (if x27 = 5 then (folkmootref08_Check.j2 k x0 x3 x5 x6 x292000 x292001 x292002 x292003) else (some 80)))
end
def folkmootref08_Check.f (k : Nat) (l0 : List (S63)) : Option (Int) := if (l0.length : Int) > 8 then (some 6) else (folkmootref08_Check.l0 k l0 0)
set_option maxHeartbeats 8000000 in
set_option maxRecDepth 100000 in
theorem folkmootref08_Check.calls (k : Nat) (A0 : Option Addr) (c0 : Nat) (l0 : List (S63)) (r : Int) (w : World) (hr0 : Kd.C k63 w A0 l0.length l0) (hc0 : l0.length ≤ c0) (h : folkmootref08_Check.f k l0 = some r) :
  Calls Tryz.prog 20 #[.slice A0 l0.length c0] w fun e w' => e = .returned (.int .i64 r) ∧ Below w.heap.size w w' := by
 have hu63 := Tryz.underlying63
 have HR0 := Aside0.mk hr0
 have HC0 := Aside0.mk hc0
 clear hr0 hc0
 have HB := Aside0.mk (Below.refl w.heap.size w)
 have H : (if (l0.length : Int) > 8 then (some 6) else (folkmootref08_Check.l0 k l0 0)) = some r := h
 clear h
 by_cases c2 : (l0.length : Int) > 8
 ·rw [if_pos c2] at H
  have c2b0 : decide (8 < (l0.length : Int)) = true := decide_eq_true c2
  have c2b1 : decide (8 < l0.length) = true := decide_eq_true (by omega)
  clear c2;obtain rfl := Option.some.inj H
  go_enter Tryz.func20, Tryz.ntmps20
  go_wp2
  go_ret
  exact ⟨by first | rfl | (rw [bl_gt] <;> rfl) | (simp [errW_none, errW_some] <;> rfl) | (simp [*, errW_none, errW_some] <;> rfl), bB_⟩
 ·rw [if_neg c2] at H
  have c2b0 : decide (8 < (l0.length : Int)) = false := decide_eq_false c2
  have c2b1 : decide (8 < l0.length) = false := decide_eq_false (by omega)
  clear c2
  have H' := Aside0.mk H
  clear H
  go_enter Tryz.func20, Tryz.ntmps20
  go_wp2
  go_loopg [3] k (fun kq v3 w' => ∃ (x3_1 : Int), v3 = .int .i64 x3_1 ∧ Aside0 (folkmootref08_Check.l0 kq l0 x3_1 = some r) ∧ Aside0 (kq ≤ k) ∧ Aside0 (Below w.heap.size w w'))
  case atStart => exact ⟨(0), (by first | rfl | (rw [bl_gt] <;> rfl) | (simp; done) | (simp [*]; done) | (simp [*, bl_gt]; done)), H', ⟨Nat.le_refl _⟩, ⟨bB_⟩⟩
  case round =>
   clear H'
   try clear c2
   try clear c2b0
   try clear c2b1
   try clear p2
   obtain ⟨x3_1, rfl, HA, HK1, HB⟩ := hrel
   cases gk with
   | zero => exact absurd HA.out (by simp [folkmootref08_Check.l0])
   | succ k1 =>
    have H := HA.out;clear HA
    simp only [folkmootref08_Check.l0] at H
    by_cases c3 : x3_1 < (l0.length : Int)
    ·rw [if_pos c3] at H
     have c3b0 : decide (x3_1 < (l0.length : Int)) = true := decide_eq_true c3
     clear c3
     by_cases c4 : 0 ≤ x3_1
     ·rw [if_pos c4] at H
      have c4b0 : decide (0 ≤ x3_1) = true := decide_eq_true c4
      clear c4
      have HC5 := Aside0.mk H
      clear H
      have p290 : 0 ≤ (x3_1 : Int) := of_decide_eq_true (by first | (with_reducible assumption) | assumption)
      have q290 : x3_1 < (l0.length : Int) := of_decide_eq_true (by first | (with_reducible assumption) | assumption)
      obtain ⟨ad290, e290, hx290_0, hx290_1, hx290_2, hx290_3⟩ := at_T63 HR0.out x3_1 p290 q290
      cases e290
      replace hx290_0 := (HB.out.cell (World.block_lt_of_cell? w _ hx290_0)).trans hx290_0
      replace hx290_1 := (HB.out.cell (World.block_lt_of_cell? w _ hx290_1)).trans hx290_1
      replace hx290_2 := (HB.out.cell (World.block_lt_of_cell? w _ hx290_2)).trans hx290_2
      replace hx290_3 := (HB.out.cell (World.block_lt_of_cell? w _ hx290_3)).trans hx290_3
      replace p290 := eq_true p290
      replace q290 := eq_true q290
      go_upto_block 2 with (first | ((with_reducible refine gate_dst (N := 4) rfl ?_); refine box_event ?hg (N := 4) ?hd (cs := #[.int .i64 0, .string (⟨#[]⟩ : ByteArray), .string (⟨#[]⟩ : ByteArray), .int .u64 0]) (t := 63) ?hr ?_; (case hd => rfl); (case hg => rfl); (case hr => first | (go_simp; done) | (go_simp; rfl)); intro gb291 hg w6 hbox hb; have n0_ := Aside0.mk (below_step bB_ hb); have n1_ := Aside0.mk (hbox); have n2_ := Aside0.mk ((by rw [hg]; exact (below_size bB_) : w.heap.size ≤ gb291)); have n3_ := Aside0.mk ((by rw [hg]; exact (below_size bB_) : w.heap.size ≤ gb291)); clear HB; have HB := n0_; have BK291 := n1_; have GW291 := n2_; have GE291 := n3_; clear n0_ n1_ n2_ n3_; clear hb hbox hg; have hcz7_0 : w6.cell? ⟨gb291, 0, none⟩ = some (.int .i64 0) := (blk_cell BK291.out 0).trans rfl; have hcz7_1 : w6.cell? ⟨gb291, 1, none⟩ = some (.string (⟨#[]⟩ : ByteArray)) := (blk_cell BK291.out 1).trans rfl; have hcz7_2 : w6.cell? ⟨gb291, 2, none⟩ = some (.string (⟨#[]⟩ : ByteArray)) := (blk_cell BK291.out 2).trans rfl; have hcz7_3 : w6.cell? ⟨gb291, 3, none⟩ = some (.int .u64 0) := (blk_cell BK291.out 3).trans rfl; have hfz7_0 := blk_frozen BK291.out 0; have hfz7_1 := blk_frozen BK291.out 1; have hfz7_2 := blk_frozen BK291.out 2; have hfz7_3 := blk_frozen BK291.out 3))
      (try simp only [Act.put, List.setIfInBounds_toArray, List.set_cons_zero, List.set_cons_succ])
      go_cut [5, 6] (fun v5 v6 wc => ∃ (kq : Nat) (x5_4 : Bool) (x6_4 : Bool), v5 = .bool x5_4 ∧ v6 = .bool x6_4 ∧ Aside0 (folkmootref08_Check.j2 kq l0 x3_1 x5_4 x6_4 ((rd_T63 l0 x3_1).f0) ((rd_T63 l0 x3_1).f1) ((rd_T63 l0 x3_1).f2) ((rd_T63 l0 x3_1).f3) = some r) ∧ Aside0 (kq ≤ k1) ∧ Aside0 (wc.heap[gb291]? = some (.cells #[.int .i64 ((rd_T63 l0 x3_1).f0), .string ((rd_T63 l0 x3_1).f1), .string ((rd_T63 l0 x3_1).f2), .int .u64 ((rd_T63 l0 x3_1).f3)] 63 (0, 0))) ∧ Aside0 (Below w.heap.size w wc))
      case first =>
       have H := HC5.out;clear HC5
       by_cases c8 : ((rd_T63 l0 x3_1).f0) = 2
       ·rw [if_pos c8] at H
        have c8b0 : (((rd_T63 l0 x3_1).f0) == 2) = true := beq_iff_eq.mpr c8
        have c8b1 : (((rd_T63 l0 x3_1).f0) != 2) = false := bne_eq_false_iff_eq.mpr c8
        clear c8
        (first | rw [c8b0] | (simp only [i64_w, i32_w]; rw [c8b0]) | skip)
        by_cases c9 : ((rd_T63 l0 x3_1).f2).toList = ([] : List UInt8)
        ·rw [if_pos c9] at H
         have c9b0 : (((rd_T63 l0 x3_1).f2).toList == ([] : List UInt8)) = true := beq_iff_eq.mpr c9
         have c9e : ((rd_T63 l0 x3_1).f2).toList.isEmpty = true := by rw [c9]; rfl
         have c9b1 : (((rd_T63 l0 x3_1).f2).toList != ([] : List UInt8)) = false := bne_eq_false_iff_eq.mpr c9
         clear c9
         have H' := Aside0.mk H
         clear H
         go_wp2
         first
         | (go_meet; case rel => exact ⟨_, (true), ((((rd_T63 l0 x3_1).f3) == 0)), (by first | rfl | (rw [bl_gt] <;> rfl) | (simp; done) | (simp [*]; done) | (simp [*, bl_gt]; done)), (by first | rfl | (rw [bl_gt] <;> rfl) | (simp; done) | (simp [*]; done) | (simp [*, bl_gt]; done)), H', ⟨by have := HK1.out; first | omega | exact Nat.le_refl _⟩, ⟨by (with_reducible repeat (first | refine blk_drewN ?_ _ | refine blk_drew ?_ | refine blk_alloc ?_ _)); refine blk_put (cs := #[.int .i64 ((rd_T63 l0 x3_1).f0), .string ((rd_T63 l0 x3_1).f1), .string ((rd_T63 l0 x3_1).f2), .int .u64 0]) ?_ 3 _ rfl; (with_reducible repeat (first | refine blk_drewN ?_ _ | refine blk_drew ?_ | refine blk_alloc ?_ _)); refine blk_put (cs := #[.int .i64 ((rd_T63 l0 x3_1).f0), .string ((rd_T63 l0 x3_1).f1), .string (⟨#[]⟩ : ByteArray), .int .u64 0]) ?_ 2 _ rfl; (with_reducible repeat (first | refine blk_drewN ?_ _ | refine blk_drew ?_ | refine blk_alloc ?_ _)); refine blk_put (cs := #[.int .i64 ((rd_T63 l0 x3_1).f0), .string (⟨#[]⟩ : ByteArray), .string (⟨#[]⟩ : ByteArray), .int .u64 0]) ?_ 1 _ rfl; (with_reducible repeat (first | refine blk_drewN ?_ _ | refine blk_drew ?_ | refine blk_alloc ?_ _)); refine blk_put (cs := #[.int .i64 0, .string (⟨#[]⟩ : ByteArray), .string (⟨#[]⟩ : ByteArray), .int .u64 0]) ?_ 0 _ rfl; (with_reducible repeat (first | refine blk_drewN ?_ _ | refine blk_drew ?_ | refine blk_alloc ?_ _)); exact BK291.out⟩, ⟨by repeat (first | (with_reducible first | exact HB.out | apply below_alloc | apply pw_below_drewN | apply below_drew1 | refine below_set ?_ GE291.out) | exact HB.out)⟩⟩)
         | (refine Met.intro ?_; go_step; (repeat apply Exists.intro); refine ⟨?_, ?_⟩; rotate_left; (focus (simp only [c8b0, c9b0]; try rfl)); exact ⟨_, (true), ((((rd_T63 l0 x3_1).f3) == 0)), (by first | rfl | (rw [bl_gt] <;> rfl) | (simp; done) | (simp [*]; done) | (simp [*, bl_gt]; done)), (by first | rfl | (rw [bl_gt] <;> rfl) | (simp; done) | (simp [*]; done) | (simp [*, bl_gt]; done)), H', ⟨by have := HK1.out; first | omega | exact Nat.le_refl _⟩, ⟨by (with_reducible repeat (first | refine blk_drewN ?_ _ | refine blk_drew ?_ | refine blk_alloc ?_ _)); refine blk_put (cs := #[.int .i64 ((rd_T63 l0 x3_1).f0), .string ((rd_T63 l0 x3_1).f1), .string ((rd_T63 l0 x3_1).f2), .int .u64 0]) ?_ 3 _ rfl; (with_reducible repeat (first | refine blk_drewN ?_ _ | refine blk_drew ?_ | refine blk_alloc ?_ _)); refine blk_put (cs := #[.int .i64 ((rd_T63 l0 x3_1).f0), .string ((rd_T63 l0 x3_1).f1), .string (⟨#[]⟩ : ByteArray), .int .u64 0]) ?_ 2 _ rfl; (with_reducible repeat (first | refine blk_drewN ?_ _ | refine blk_drew ?_ | refine blk_alloc ?_ _)); refine blk_put (cs := #[.int .i64 ((rd_T63 l0 x3_1).f0), .string (⟨#[]⟩ : ByteArray), .string (⟨#[]⟩ : ByteArray), .int .u64 0]) ?_ 1 _ rfl; (with_reducible repeat (first | refine blk_drewN ?_ _ | refine blk_drew ?_ | refine blk_alloc ?_ _)); refine blk_put (cs := #[.int .i64 0, .string (⟨#[]⟩ : ByteArray), .string (⟨#[]⟩ : ByteArray), .int .u64 0]) ?_ 0 _ rfl; (with_reducible repeat (first | refine blk_drewN ?_ _ | refine blk_drew ?_ | refine blk_alloc ?_ _)); exact BK291.out⟩, ⟨by repeat (first | (with_reducible first | exact HB.out | apply below_alloc | apply pw_below_drewN | apply below_drew1 | refine below_set ?_ GE291.out) | exact HB.out)⟩⟩)
        ·rw [if_neg c9] at H
         have c9b0 : (((rd_T63 l0 x3_1).f2).toList == ([] : List UInt8)) = false := beq_eq_false_iff_ne.mpr c9
         have c9e : ((rd_T63 l0 x3_1).f2).toList.isEmpty = false := by cases h_ : ((rd_T63 l0 x3_1).f2).toList with | nil => exact absurd h_ c9 | cons _ _ => rfl
         have c9b1 : (((rd_T63 l0 x3_1).f2).toList != ([] : List UInt8)) = true := bne_iff_ne.mpr c9
         replace H := Option.bind_eq_some_iff.mp H
         obtain ⟨t292, A100, H⟩ := H
         replace H : (if t292 = true then (folkmootref08_Check.j2 k1 l0 x3_1 (Op.bytesLess (((rd_T63 l0 x3_1).f1).toList) (((rd_T63 l0 x3_1).f2).toList)) (((rd_T63 l0 x3_1).f3) == 0) ((rd_T63 l0 x3_1).f0) ((rd_T63 l0 x3_1).f1) ((rd_T63 l0 x3_1).f2) ((rd_T63 l0 x3_1).f3)) else (folkmootref08_Check.j2 k1 l0 x3_1 false (((rd_T63 l0 x3_1).f3) == 0) ((rd_T63 l0 x3_1).f0) ((rd_T63 l0 x3_1).f1) ((rd_T63 l0 x3_1).f2) ((rd_T63 l0 x3_1).f3))) = some r := H
         have A10 := Aside0.mk A100
         clear A100
         by_cases c11 : t292 = true
         ·subst c11
          have H1 : (folkmootref08_Check.j2 k1 l0 x3_1 (Op.bytesLess (((rd_T63 l0 x3_1).f1).toList) (((rd_T63 l0 x3_1).f2).toList)) (((rd_T63 l0 x3_1).f3) == 0) ((rd_T63 l0 x3_1).f0) ((rd_T63 l0 x3_1).f1) ((rd_T63 l0 x3_1).f2) ((rd_T63 l0 x3_1).f3)) = some r := by rw [if_pos rfl] at H; exact H
          clear H;have H := H1;clear H1
          have H' := Aside0.mk H
          clear H
          have hcz12_0 : w6.cell? ⟨gb291, 0, none⟩ = some (.int .i64 0) := (blk_cell BK291.out 0).trans rfl
          have hcz12_1 : w6.cell? ⟨gb291, 1, none⟩ = some (.string (⟨#[]⟩ : ByteArray)) := (blk_cell BK291.out 1).trans rfl
          have hcz12_2 : w6.cell? ⟨gb291, 2, none⟩ = some (.string (⟨#[]⟩ : ByteArray)) := (blk_cell BK291.out 2).trans rfl
          have hcz12_3 : w6.cell? ⟨gb291, 3, none⟩ = some (.int .u64 0) := (blk_cell BK291.out 3).trans rfl
          have hfz12_0 := blk_frozen BK291.out 0
          have hfz12_1 := blk_frozen BK291.out 1
          have hfz12_2 := blk_frozen BK291.out 2
          have hfz12_3 := blk_frozen BK291.out 3
          go_wp2_with (first | (go_at_call 37; (with_reducible refine (folkmootref03_Key.calls ((rd_T63 l0 x3_1).f2) true _ A10.out).mono ?_); rintro e w' ⟨rfl, ⟨nd, rfl⟩⟩))
          first
          | (go_meet; case rel => exact ⟨_, ((Op.bytesLess (((rd_T63 l0 x3_1).f1).toList) (((rd_T63 l0 x3_1).f2).toList))), ((((rd_T63 l0 x3_1).f3) == 0)), (by first | rfl | (rw [bl_gt] <;> rfl) | (simp; done) | (simp [*]; done) | (simp [*, bl_gt]; done)), (by first | rfl | (rw [bl_gt] <;> rfl) | (simp; done) | (simp [*]; done) | (simp [*, bl_gt]; done)), H', ⟨by have := HK1.out; first | omega | exact Nat.le_refl _⟩, ⟨by (with_reducible repeat (first | refine blk_drewN ?_ _ | refine blk_drew ?_ | refine blk_alloc ?_ _)); refine blk_put (cs := #[.int .i64 ((rd_T63 l0 x3_1).f0), .string ((rd_T63 l0 x3_1).f1), .string ((rd_T63 l0 x3_1).f2), .int .u64 0]) ?_ 3 _ rfl; (with_reducible repeat (first | refine blk_drewN ?_ _ | refine blk_drew ?_ | refine blk_alloc ?_ _)); refine blk_put (cs := #[.int .i64 ((rd_T63 l0 x3_1).f0), .string ((rd_T63 l0 x3_1).f1), .string (⟨#[]⟩ : ByteArray), .int .u64 0]) ?_ 2 _ rfl; (with_reducible repeat (first | refine blk_drewN ?_ _ | refine blk_drew ?_ | refine blk_alloc ?_ _)); refine blk_put (cs := #[.int .i64 ((rd_T63 l0 x3_1).f0), .string (⟨#[]⟩ : ByteArray), .string (⟨#[]⟩ : ByteArray), .int .u64 0]) ?_ 1 _ rfl; (with_reducible repeat (first | refine blk_drewN ?_ _ | refine blk_drew ?_ | refine blk_alloc ?_ _)); refine blk_put (cs := #[.int .i64 0, .string (⟨#[]⟩ : ByteArray), .string (⟨#[]⟩ : ByteArray), .int .u64 0]) ?_ 0 _ rfl; (with_reducible repeat (first | refine blk_drewN ?_ _ | refine blk_drew ?_ | refine blk_alloc ?_ _)); exact BK291.out⟩, ⟨by repeat (first | (with_reducible first | exact HB.out | apply below_alloc | apply pw_below_drewN | apply below_drew1 | refine below_set ?_ GE291.out) | exact HB.out)⟩⟩)
          | (refine Met.intro ?_; go_step; (repeat apply Exists.intro); refine ⟨?_, ?_⟩; rotate_left; (focus (simp only [c8b0, c9b0]; try rfl)); exact ⟨_, ((Op.bytesLess (((rd_T63 l0 x3_1).f1).toList) (((rd_T63 l0 x3_1).f2).toList))), ((((rd_T63 l0 x3_1).f3) == 0)), (by first | rfl | (rw [bl_gt] <;> rfl) | (simp; done) | (simp [*]; done) | (simp [*, bl_gt]; done)), (by first | rfl | (rw [bl_gt] <;> rfl) | (simp; done) | (simp [*]; done) | (simp [*, bl_gt]; done)), H', ⟨by have := HK1.out; first | omega | exact Nat.le_refl _⟩, ⟨by (with_reducible repeat (first | refine blk_drewN ?_ _ | refine blk_drew ?_ | refine blk_alloc ?_ _)); refine blk_put (cs := #[.int .i64 ((rd_T63 l0 x3_1).f0), .string ((rd_T63 l0 x3_1).f1), .string ((rd_T63 l0 x3_1).f2), .int .u64 0]) ?_ 3 _ rfl; (with_reducible repeat (first | refine blk_drewN ?_ _ | refine blk_drew ?_ | refine blk_alloc ?_ _)); refine blk_put (cs := #[.int .i64 ((rd_T63 l0 x3_1).f0), .string ((rd_T63 l0 x3_1).f1), .string (⟨#[]⟩ : ByteArray), .int .u64 0]) ?_ 2 _ rfl; (with_reducible repeat (first | refine blk_drewN ?_ _ | refine blk_drew ?_ | refine blk_alloc ?_ _)); refine blk_put (cs := #[.int .i64 ((rd_T63 l0 x3_1).f0), .string (⟨#[]⟩ : ByteArray), .string (⟨#[]⟩ : ByteArray), .int .u64 0]) ?_ 1 _ rfl; (with_reducible repeat (first | refine blk_drewN ?_ _ | refine blk_drew ?_ | refine blk_alloc ?_ _)); refine blk_put (cs := #[.int .i64 0, .string (⟨#[]⟩ : ByteArray), .string (⟨#[]⟩ : ByteArray), .int .u64 0]) ?_ 0 _ rfl; (with_reducible repeat (first | refine blk_drewN ?_ _ | refine blk_drew ?_ | refine blk_alloc ?_ _)); exact BK291.out⟩, ⟨by repeat (first | (with_reducible first | exact HB.out | apply below_alloc | apply pw_below_drewN | apply below_drew1 | refine below_set ?_ GE291.out) | exact HB.out)⟩⟩)
         ·replace c11 := Bool.eq_false_iff.mpr c11
          subst c11
          have H1 : (folkmootref08_Check.j2 k1 l0 x3_1 false (((rd_T63 l0 x3_1).f3) == 0) ((rd_T63 l0 x3_1).f0) ((rd_T63 l0 x3_1).f1) ((rd_T63 l0 x3_1).f2) ((rd_T63 l0 x3_1).f3)) = some r := by rw [if_neg (show ¬ (false = true) by decide)] at H; exact H
          clear H;have H := H1;clear H1
          have H' := Aside0.mk H
          clear H
          have hcz13_0 : w6.cell? ⟨gb291, 0, none⟩ = some (.int .i64 0) := (blk_cell BK291.out 0).trans rfl
          have hcz13_1 : w6.cell? ⟨gb291, 1, none⟩ = some (.string (⟨#[]⟩ : ByteArray)) := (blk_cell BK291.out 1).trans rfl
          have hcz13_2 : w6.cell? ⟨gb291, 2, none⟩ = some (.string (⟨#[]⟩ : ByteArray)) := (blk_cell BK291.out 2).trans rfl
          have hcz13_3 : w6.cell? ⟨gb291, 3, none⟩ = some (.int .u64 0) := (blk_cell BK291.out 3).trans rfl
          have hfz13_0 := blk_frozen BK291.out 0
          have hfz13_1 := blk_frozen BK291.out 1
          have hfz13_2 := blk_frozen BK291.out 2
          have hfz13_3 := blk_frozen BK291.out 3
          go_wp2_with (first | (go_at_call 37; (with_reducible refine (folkmootref03_Key.calls ((rd_T63 l0 x3_1).f2) false _ A10.out).mono ?_); rintro e w' ⟨rfl, ⟨nd, rfl⟩⟩))
          first
          | (go_meet; case rel => exact ⟨_, (false), ((((rd_T63 l0 x3_1).f3) == 0)), (by first | rfl | (rw [bl_gt] <;> rfl) | (simp; done) | (simp [*]; done) | (simp [*, bl_gt]; done)), (by first | rfl | (rw [bl_gt] <;> rfl) | (simp; done) | (simp [*]; done) | (simp [*, bl_gt]; done)), H', ⟨by have := HK1.out; first | omega | exact Nat.le_refl _⟩, ⟨by (with_reducible repeat (first | refine blk_drewN ?_ _ | refine blk_drew ?_ | refine blk_alloc ?_ _)); refine blk_put (cs := #[.int .i64 ((rd_T63 l0 x3_1).f0), .string ((rd_T63 l0 x3_1).f1), .string ((rd_T63 l0 x3_1).f2), .int .u64 0]) ?_ 3 _ rfl; (with_reducible repeat (first | refine blk_drewN ?_ _ | refine blk_drew ?_ | refine blk_alloc ?_ _)); refine blk_put (cs := #[.int .i64 ((rd_T63 l0 x3_1).f0), .string ((rd_T63 l0 x3_1).f1), .string (⟨#[]⟩ : ByteArray), .int .u64 0]) ?_ 2 _ rfl; (with_reducible repeat (first | refine blk_drewN ?_ _ | refine blk_drew ?_ | refine blk_alloc ?_ _)); refine blk_put (cs := #[.int .i64 ((rd_T63 l0 x3_1).f0), .string (⟨#[]⟩ : ByteArray), .string (⟨#[]⟩ : ByteArray), .int .u64 0]) ?_ 1 _ rfl; (with_reducible repeat (first | refine blk_drewN ?_ _ | refine blk_drew ?_ | refine blk_alloc ?_ _)); refine blk_put (cs := #[.int .i64 0, .string (⟨#[]⟩ : ByteArray), .string (⟨#[]⟩ : ByteArray), .int .u64 0]) ?_ 0 _ rfl; (with_reducible repeat (first | refine blk_drewN ?_ _ | refine blk_drew ?_ | refine blk_alloc ?_ _)); exact BK291.out⟩, ⟨by repeat (first | (with_reducible first | exact HB.out | apply below_alloc | apply pw_below_drewN | apply below_drew1 | refine below_set ?_ GE291.out) | exact HB.out)⟩⟩)
          | (refine Met.intro ?_; go_step; (repeat apply Exists.intro); refine ⟨?_, ?_⟩; rotate_left; (focus (simp only [c8b0, c9b0]; try rfl)); exact ⟨_, (false), ((((rd_T63 l0 x3_1).f3) == 0)), (by first | rfl | (rw [bl_gt] <;> rfl) | (simp; done) | (simp [*]; done) | (simp [*, bl_gt]; done)), (by first | rfl | (rw [bl_gt] <;> rfl) | (simp; done) | (simp [*]; done) | (simp [*, bl_gt]; done)), H', ⟨by have := HK1.out; first | omega | exact Nat.le_refl _⟩, ⟨by (with_reducible repeat (first | refine blk_drewN ?_ _ | refine blk_drew ?_ | refine blk_alloc ?_ _)); refine blk_put (cs := #[.int .i64 ((rd_T63 l0 x3_1).f0), .string ((rd_T63 l0 x3_1).f1), .string ((rd_T63 l0 x3_1).f2), .int .u64 0]) ?_ 3 _ rfl; (with_reducible repeat (first | refine blk_drewN ?_ _ | refine blk_drew ?_ | refine blk_alloc ?_ _)); refine blk_put (cs := #[.int .i64 ((rd_T63 l0 x3_1).f0), .string ((rd_T63 l0 x3_1).f1), .string (⟨#[]⟩ : ByteArray), .int .u64 0]) ?_ 2 _ rfl; (with_reducible repeat (first | refine blk_drewN ?_ _ | refine blk_drew ?_ | refine blk_alloc ?_ _)); refine blk_put (cs := #[.int .i64 ((rd_T63 l0 x3_1).f0), .string (⟨#[]⟩ : ByteArray), .string (⟨#[]⟩ : ByteArray), .int .u64 0]) ?_ 1 _ rfl; (with_reducible repeat (first | refine blk_drewN ?_ _ | refine blk_drew ?_ | refine blk_alloc ?_ _)); refine blk_put (cs := #[.int .i64 0, .string (⟨#[]⟩ : ByteArray), .string (⟨#[]⟩ : ByteArray), .int .u64 0]) ?_ 0 _ rfl; (with_reducible repeat (first | refine blk_drewN ?_ _ | refine blk_drew ?_ | refine blk_alloc ?_ _)); exact BK291.out⟩, ⟨by repeat (first | (with_reducible first | exact HB.out | apply below_alloc | apply pw_below_drewN | apply below_drew1 | refine below_set ?_ GE291.out) | exact HB.out)⟩⟩)
       ·rw [if_neg c8] at H
        have c8b0 : (((rd_T63 l0 x3_1).f0) == 2) = false := beq_eq_false_iff_ne.mpr c8
        have c8b1 : (((rd_T63 l0 x3_1).f0) != 2) = true := bne_iff_ne.mpr c8
        (first | rw [c8b0] | (simp only [i64_w, i32_w]; rw [c8b0]) | skip)
        by_cases c14 : ((rd_T63 l0 x3_1).f0) = 6
        ·rw [if_pos c14] at H
         have c14b0 : (((rd_T63 l0 x3_1).f0) == 6) = true := beq_iff_eq.mpr c14
         have c14b1 : (((rd_T63 l0 x3_1).f0) != 6) = false := bne_eq_false_iff_eq.mpr c14
         clear c14
         replace H := Option.bind_eq_some_iff.mp H
         obtain ⟨t293, A150, H⟩ := H
         replace H : (if t293 = true then (folkmootref08_Check.j2 k1 l0 x3_1 (((rd_T63 l0 x3_1).f2).toList != ((rd_T63 l0 x3_1).f1).toList) true ((rd_T63 l0 x3_1).f0) ((rd_T63 l0 x3_1).f1) ((rd_T63 l0 x3_1).f2) ((rd_T63 l0 x3_1).f3)) else (folkmootref08_Check.j2 k1 l0 x3_1 false true ((rd_T63 l0 x3_1).f0) ((rd_T63 l0 x3_1).f1) ((rd_T63 l0 x3_1).f2) ((rd_T63 l0 x3_1).f3))) = some r := H
         have A15 := Aside0.mk A150
         clear A150
         by_cases c16 : t293 = true
         ·subst c16
          have H1 : (folkmootref08_Check.j2 k1 l0 x3_1 (((rd_T63 l0 x3_1).f2).toList != ((rd_T63 l0 x3_1).f1).toList) true ((rd_T63 l0 x3_1).f0) ((rd_T63 l0 x3_1).f1) ((rd_T63 l0 x3_1).f2) ((rd_T63 l0 x3_1).f3)) = some r := by rw [if_pos rfl] at H; exact H
          clear H;have H := H1;clear H1
          have H' := Aside0.mk H
          clear H
          have hcz17_0 : w6.cell? ⟨gb291, 0, none⟩ = some (.int .i64 0) := (blk_cell BK291.out 0).trans rfl
          have hcz17_1 : w6.cell? ⟨gb291, 1, none⟩ = some (.string (⟨#[]⟩ : ByteArray)) := (blk_cell BK291.out 1).trans rfl
          have hcz17_2 : w6.cell? ⟨gb291, 2, none⟩ = some (.string (⟨#[]⟩ : ByteArray)) := (blk_cell BK291.out 2).trans rfl
          have hcz17_3 : w6.cell? ⟨gb291, 3, none⟩ = some (.int .u64 0) := (blk_cell BK291.out 3).trans rfl
          have hfz17_0 := blk_frozen BK291.out 0
          have hfz17_1 := blk_frozen BK291.out 1
          have hfz17_2 := blk_frozen BK291.out 2
          have hfz17_3 := blk_frozen BK291.out 3
          go_wp2_with (first | ((with_reducible refine gate_callee (f := 37) rfl ?_); refine goesL_ (some 47) rfl rfl Tryz.func37 (by kernel_rfl) rfl #[.string ((rd_T63 l0 x3_1).f2)] rfl (by (try simp only [List.map_toArray, List.map_cons, List.map_nil]); first | done | rfl | (simp only [List.length_drop, List.length_take]; rfl)) ?_; (with_reducible refine (folkmootref03_Key.calls ((rd_T63 l0 x3_1).f2) true _ A15.out).mono ?_); rintro e w' ⟨rfl, ⟨nd, rfl⟩⟩; refine ⟨_, rfl, ?_⟩))
          first
          | (go_meet; case rel => exact ⟨_, ((((rd_T63 l0 x3_1).f2).toList != ((rd_T63 l0 x3_1).f1).toList)), (true), (by first | rfl | (rw [bl_gt] <;> rfl) | (simp; done) | (simp [*]; done) | (simp [*, bl_gt]; done)), (by first | rfl | (rw [bl_gt] <;> rfl) | (simp; done) | (simp [*]; done) | (simp [*, bl_gt]; done)), H', ⟨by have := HK1.out; first | omega | exact Nat.le_refl _⟩, ⟨by (with_reducible repeat (first | refine blk_drewN ?_ _ | refine blk_drew ?_ | refine blk_alloc ?_ _)); refine blk_put (cs := #[.int .i64 ((rd_T63 l0 x3_1).f0), .string ((rd_T63 l0 x3_1).f1), .string ((rd_T63 l0 x3_1).f2), .int .u64 0]) ?_ 3 _ rfl; (with_reducible repeat (first | refine blk_drewN ?_ _ | refine blk_drew ?_ | refine blk_alloc ?_ _)); refine blk_put (cs := #[.int .i64 ((rd_T63 l0 x3_1).f0), .string ((rd_T63 l0 x3_1).f1), .string (⟨#[]⟩ : ByteArray), .int .u64 0]) ?_ 2 _ rfl; (with_reducible repeat (first | refine blk_drewN ?_ _ | refine blk_drew ?_ | refine blk_alloc ?_ _)); refine blk_put (cs := #[.int .i64 ((rd_T63 l0 x3_1).f0), .string (⟨#[]⟩ : ByteArray), .string (⟨#[]⟩ : ByteArray), .int .u64 0]) ?_ 1 _ rfl; (with_reducible repeat (first | refine blk_drewN ?_ _ | refine blk_drew ?_ | refine blk_alloc ?_ _)); refine blk_put (cs := #[.int .i64 0, .string (⟨#[]⟩ : ByteArray), .string (⟨#[]⟩ : ByteArray), .int .u64 0]) ?_ 0 _ rfl; (with_reducible repeat (first | refine blk_drewN ?_ _ | refine blk_drew ?_ | refine blk_alloc ?_ _)); exact BK291.out⟩, ⟨by repeat (first | (with_reducible first | exact HB.out | apply below_alloc | apply pw_below_drewN | apply below_drew1 | refine below_set ?_ GE291.out) | exact HB.out)⟩⟩)
          | (refine Met.intro ?_; go_step; (repeat apply Exists.intro); refine ⟨?_, ?_⟩; rotate_left; (focus (simp only [c8b0, c14b0]; try rfl)); exact ⟨_, ((((rd_T63 l0 x3_1).f2).toList != ((rd_T63 l0 x3_1).f1).toList)), (true), (by first | rfl | (rw [bl_gt] <;> rfl) | (simp; done) | (simp [*]; done) | (simp [*, bl_gt]; done)), (by first | rfl | (rw [bl_gt] <;> rfl) | (simp; done) | (simp [*]; done) | (simp [*, bl_gt]; done)), H', ⟨by have := HK1.out; first | omega | exact Nat.le_refl _⟩, ⟨by (with_reducible repeat (first | refine blk_drewN ?_ _ | refine blk_drew ?_ | refine blk_alloc ?_ _)); refine blk_put (cs := #[.int .i64 ((rd_T63 l0 x3_1).f0), .string ((rd_T63 l0 x3_1).f1), .string ((rd_T63 l0 x3_1).f2), .int .u64 0]) ?_ 3 _ rfl; (with_reducible repeat (first | refine blk_drewN ?_ _ | refine blk_drew ?_ | refine blk_alloc ?_ _)); refine blk_put (cs := #[.int .i64 ((rd_T63 l0 x3_1).f0), .string ((rd_T63 l0 x3_1).f1), .string (⟨#[]⟩ : ByteArray), .int .u64 0]) ?_ 2 _ rfl; (with_reducible repeat (first | refine blk_drewN ?_ _ | refine blk_drew ?_ | refine blk_alloc ?_ _)); refine blk_put (cs := #[.int .i64 ((rd_T63 l0 x3_1).f0), .string (⟨#[]⟩ : ByteArray), .string (⟨#[]⟩ : ByteArray), .int .u64 0]) ?_ 1 _ rfl; (with_reducible repeat (first | refine blk_drewN ?_ _ | refine blk_drew ?_ | refine blk_alloc ?_ _)); refine blk_put (cs := #[.int .i64 0, .string (⟨#[]⟩ : ByteArray), .string (⟨#[]⟩ : ByteArray), .int .u64 0]) ?_ 0 _ rfl; (with_reducible repeat (first | refine blk_drewN ?_ _ | refine blk_drew ?_ | refine blk_alloc ?_ _)); exact BK291.out⟩, ⟨by repeat (first | (with_reducible first | exact HB.out | apply below_alloc | apply pw_below_drewN | apply below_drew1 | refine below_set ?_ GE291.out) | exact HB.out)⟩⟩)
         ·replace c16 := Bool.eq_false_iff.mpr c16
          subst c16
          have H1 : (folkmootref08_Check.j2 k1 l0 x3_1 false true ((rd_T63 l0 x3_1).f0) ((rd_T63 l0 x3_1).f1) ((rd_T63 l0 x3_1).f2) ((rd_T63 l0 x3_1).f3)) = some r := by rw [if_neg (show ¬ (false = true) by decide)] at H; exact H
          clear H;have H := H1;clear H1
          have H' := Aside0.mk H
          clear H
          have hcz18_0 : w6.cell? ⟨gb291, 0, none⟩ = some (.int .i64 0) := (blk_cell BK291.out 0).trans rfl
          have hcz18_1 : w6.cell? ⟨gb291, 1, none⟩ = some (.string (⟨#[]⟩ : ByteArray)) := (blk_cell BK291.out 1).trans rfl
          have hcz18_2 : w6.cell? ⟨gb291, 2, none⟩ = some (.string (⟨#[]⟩ : ByteArray)) := (blk_cell BK291.out 2).trans rfl
          have hcz18_3 : w6.cell? ⟨gb291, 3, none⟩ = some (.int .u64 0) := (blk_cell BK291.out 3).trans rfl
          have hfz18_0 := blk_frozen BK291.out 0
          have hfz18_1 := blk_frozen BK291.out 1
          have hfz18_2 := blk_frozen BK291.out 2
          have hfz18_3 := blk_frozen BK291.out 3
          go_wp2_with (first | ((with_reducible refine gate_callee (f := 37) rfl ?_); refine goesL_ (some 47) rfl rfl Tryz.func37 (by kernel_rfl) rfl #[.string ((rd_T63 l0 x3_1).f2)] rfl (by (try simp only [List.map_toArray, List.map_cons, List.map_nil]); first | done | rfl | (simp only [List.length_drop, List.length_take]; rfl)) ?_; (with_reducible refine (folkmootref03_Key.calls ((rd_T63 l0 x3_1).f2) false _ A15.out).mono ?_); rintro e w' ⟨rfl, ⟨nd, rfl⟩⟩; refine ⟨_, rfl, ?_⟩))
          first
          | (go_meet; case rel => exact ⟨_, (false), (true), (by first | rfl | (rw [bl_gt] <;> rfl) | (simp; done) | (simp [*]; done) | (simp [*, bl_gt]; done)), (by first | rfl | (rw [bl_gt] <;> rfl) | (simp; done) | (simp [*]; done) | (simp [*, bl_gt]; done)), H', ⟨by have := HK1.out; first | omega | exact Nat.le_refl _⟩, ⟨by (with_reducible repeat (first | refine blk_drewN ?_ _ | refine blk_drew ?_ | refine blk_alloc ?_ _)); refine blk_put (cs := #[.int .i64 ((rd_T63 l0 x3_1).f0), .string ((rd_T63 l0 x3_1).f1), .string ((rd_T63 l0 x3_1).f2), .int .u64 0]) ?_ 3 _ rfl; (with_reducible repeat (first | refine blk_drewN ?_ _ | refine blk_drew ?_ | refine blk_alloc ?_ _)); refine blk_put (cs := #[.int .i64 ((rd_T63 l0 x3_1).f0), .string ((rd_T63 l0 x3_1).f1), .string (⟨#[]⟩ : ByteArray), .int .u64 0]) ?_ 2 _ rfl; (with_reducible repeat (first | refine blk_drewN ?_ _ | refine blk_drew ?_ | refine blk_alloc ?_ _)); refine blk_put (cs := #[.int .i64 ((rd_T63 l0 x3_1).f0), .string (⟨#[]⟩ : ByteArray), .string (⟨#[]⟩ : ByteArray), .int .u64 0]) ?_ 1 _ rfl; (with_reducible repeat (first | refine blk_drewN ?_ _ | refine blk_drew ?_ | refine blk_alloc ?_ _)); refine blk_put (cs := #[.int .i64 0, .string (⟨#[]⟩ : ByteArray), .string (⟨#[]⟩ : ByteArray), .int .u64 0]) ?_ 0 _ rfl; (with_reducible repeat (first | refine blk_drewN ?_ _ | refine blk_drew ?_ | refine blk_alloc ?_ _)); exact BK291.out⟩, ⟨by repeat (first | (with_reducible first | exact HB.out | apply below_alloc | apply pw_below_drewN | apply below_drew1 | refine below_set ?_ GE291.out) | exact HB.out)⟩⟩)
          | (refine Met.intro ?_; go_step; (repeat apply Exists.intro); refine ⟨?_, ?_⟩; rotate_left; (focus (simp only [c8b0, c14b0]; try rfl)); exact ⟨_, (false), (true), (by first | rfl | (rw [bl_gt] <;> rfl) | (simp; done) | (simp [*]; done) | (simp [*, bl_gt]; done)), (by first | rfl | (rw [bl_gt] <;> rfl) | (simp; done) | (simp [*]; done) | (simp [*, bl_gt]; done)), H', ⟨by have := HK1.out; first | omega | exact Nat.le_refl _⟩, ⟨by (with_reducible repeat (first | refine blk_drewN ?_ _ | refine blk_drew ?_ | refine blk_alloc ?_ _)); refine blk_put (cs := #[.int .i64 ((rd_T63 l0 x3_1).f0), .string ((rd_T63 l0 x3_1).f1), .string ((rd_T63 l0 x3_1).f2), .int .u64 0]) ?_ 3 _ rfl; (with_reducible repeat (first | refine blk_drewN ?_ _ | refine blk_drew ?_ | refine blk_alloc ?_ _)); refine blk_put (cs := #[.int .i64 ((rd_T63 l0 x3_1).f0), .string ((rd_T63 l0 x3_1).f1), .string (⟨#[]⟩ : ByteArray), .int .u64 0]) ?_ 2 _ rfl; (with_reducible repeat (first | refine blk_drewN ?_ _ | refine blk_drew ?_ | refine blk_alloc ?_ _)); refine blk_put (cs := #[.int .i64 ((rd_T63 l0 x3_1).f0), .string (⟨#[]⟩ : ByteArray), .string (⟨#[]⟩ : ByteArray), .int .u64 0]) ?_ 1 _ rfl; (with_reducible repeat (first | refine blk_drewN ?_ _ | refine blk_drew ?_ | refine blk_alloc ?_ _)); refine blk_put (cs := #[.int .i64 0, .string (⟨#[]⟩ : ByteArray), .string (⟨#[]⟩ : ByteArray), .int .u64 0]) ?_ 0 _ rfl; (with_reducible repeat (first | refine blk_drewN ?_ _ | refine blk_drew ?_ | refine blk_alloc ?_ _)); exact BK291.out⟩, ⟨by repeat (first | (with_reducible first | exact HB.out | apply below_alloc | apply pw_below_drewN | apply below_drew1 | refine below_set ?_ GE291.out) | exact HB.out)⟩⟩)
        ·rw [if_neg c14] at H
         have c14b0 : (((rd_T63 l0 x3_1).f0) == 6) = false := beq_eq_false_iff_ne.mpr c14
         have c14b1 : (((rd_T63 l0 x3_1).f0) != 6) = true := bne_iff_ne.mpr c14
         have HC19 := Aside0.mk H
         clear H
         go_upto_if 55 with (fail)
         go_cut [55] (fun v55 wc => ∃ (kq : Nat) (x55_18 : Bool), v55 = .bool x55_18 ∧ Aside0 (folkmootref08_Check.j1 kq l0 x3_1 (((rd_T63 l0 x3_1).f2).toList == ([] : List UInt8)) (((rd_T63 l0 x3_1).f3) == 0) ((rd_T63 l0 x3_1).f0) x55_18 ((rd_T63 l0 x3_1).f0) ((rd_T63 l0 x3_1).f1) ((rd_T63 l0 x3_1).f2) ((rd_T63 l0 x3_1).f3) = some r) ∧ Aside0 (kq ≤ k1) ∧ Aside0 (wc.heap[gb291]? = some (.cells #[.int .i64 ((rd_T63 l0 x3_1).f0), .string ((rd_T63 l0 x3_1).f1), .string ((rd_T63 l0 x3_1).f2), .int .u64 ((rd_T63 l0 x3_1).f3)] 63 (0, 0))) ∧ Aside0 (Below w.heap.size w wc))
         case first =>
          have H := HC19.out;clear HC19
          by_cases c20 : ((rd_T63 l0 x3_1).f0) = 3
          ·rw [if_pos c20] at H
           have c20b0 : (((rd_T63 l0 x3_1).f0) == 3) = true := beq_iff_eq.mpr c20
           have c20b1 : (((rd_T63 l0 x3_1).f0) != 3) = false := bne_eq_false_iff_eq.mpr c20
           clear c20
           (first | rw [c20b0] | (simp only [i64_w, i32_w]; rw [c20b0]) | skip)
           have H' := Aside0.mk H
           clear H
           go_wp2
           first
           | (go_meet; case rel => exact ⟨_, ((((rd_T63 l0 x3_1).f0) == 3)), (by first | rfl | (rw [bl_gt] <;> rfl) | (simp; done) | (simp [*]; done) | (simp [*, bl_gt]; done)), H', ⟨by have := HK1.out; first | omega | exact Nat.le_refl _⟩, ⟨by (with_reducible repeat (first | refine blk_drewN ?_ _ | refine blk_drew ?_ | refine blk_alloc ?_ _)); refine blk_put (cs := #[.int .i64 ((rd_T63 l0 x3_1).f0), .string ((rd_T63 l0 x3_1).f1), .string ((rd_T63 l0 x3_1).f2), .int .u64 0]) ?_ 3 _ rfl; (with_reducible repeat (first | refine blk_drewN ?_ _ | refine blk_drew ?_ | refine blk_alloc ?_ _)); refine blk_put (cs := #[.int .i64 ((rd_T63 l0 x3_1).f0), .string ((rd_T63 l0 x3_1).f1), .string (⟨#[]⟩ : ByteArray), .int .u64 0]) ?_ 2 _ rfl; (with_reducible repeat (first | refine blk_drewN ?_ _ | refine blk_drew ?_ | refine blk_alloc ?_ _)); refine blk_put (cs := #[.int .i64 ((rd_T63 l0 x3_1).f0), .string (⟨#[]⟩ : ByteArray), .string (⟨#[]⟩ : ByteArray), .int .u64 0]) ?_ 1 _ rfl; (with_reducible repeat (first | refine blk_drewN ?_ _ | refine blk_drew ?_ | refine blk_alloc ?_ _)); refine blk_put (cs := #[.int .i64 0, .string (⟨#[]⟩ : ByteArray), .string (⟨#[]⟩ : ByteArray), .int .u64 0]) ?_ 0 _ rfl; (with_reducible repeat (first | refine blk_drewN ?_ _ | refine blk_drew ?_ | refine blk_alloc ?_ _)); exact BK291.out⟩, ⟨by repeat (first | (with_reducible first | exact HB.out | apply below_alloc | apply pw_below_drewN | apply below_drew1 | refine below_set ?_ GE291.out) | exact HB.out)⟩⟩)
           | (refine Met.intro ?_; go_step; (repeat apply Exists.intro); refine ⟨?_, ?_⟩; rotate_left; (focus (simp only [c8b0, c14b0, c20b0]; try rfl)); exact ⟨_, ((((rd_T63 l0 x3_1).f0) == 3)), (by first | rfl | (rw [bl_gt] <;> rfl) | (simp; done) | (simp [*]; done) | (simp [*, bl_gt]; done)), H', ⟨by have := HK1.out; first | omega | exact Nat.le_refl _⟩, ⟨by (with_reducible repeat (first | refine blk_drewN ?_ _ | refine blk_drew ?_ | refine blk_alloc ?_ _)); refine blk_put (cs := #[.int .i64 ((rd_T63 l0 x3_1).f0), .string ((rd_T63 l0 x3_1).f1), .string ((rd_T63 l0 x3_1).f2), .int .u64 0]) ?_ 3 _ rfl; (with_reducible repeat (first | refine blk_drewN ?_ _ | refine blk_drew ?_ | refine blk_alloc ?_ _)); refine blk_put (cs := #[.int .i64 ((rd_T63 l0 x3_1).f0), .string ((rd_T63 l0 x3_1).f1), .string (⟨#[]⟩ : ByteArray), .int .u64 0]) ?_ 2 _ rfl; (with_reducible repeat (first | refine blk_drewN ?_ _ | refine blk_drew ?_ | refine blk_alloc ?_ _)); refine blk_put (cs := #[.int .i64 ((rd_T63 l0 x3_1).f0), .string (⟨#[]⟩ : ByteArray), .string (⟨#[]⟩ : ByteArray), .int .u64 0]) ?_ 1 _ rfl; (with_reducible repeat (first | refine blk_drewN ?_ _ | refine blk_drew ?_ | refine blk_alloc ?_ _)); refine blk_put (cs := #[.int .i64 0, .string (⟨#[]⟩ : ByteArray), .string (⟨#[]⟩ : ByteArray), .int .u64 0]) ?_ 0 _ rfl; (with_reducible repeat (first | refine blk_drewN ?_ _ | refine blk_drew ?_ | refine blk_alloc ?_ _)); exact BK291.out⟩, ⟨by repeat (first | (with_reducible first | exact HB.out | apply below_alloc | apply pw_below_drewN | apply below_drew1 | refine below_set ?_ GE291.out) | exact HB.out)⟩⟩)
          ·rw [if_neg c20] at H
           have c20b0 : (((rd_T63 l0 x3_1).f0) == 3) = false := beq_eq_false_iff_ne.mpr c20
           have c20b1 : (((rd_T63 l0 x3_1).f0) != 3) = true := bne_iff_ne.mpr c20
           (first | rw [c20b0] | (simp only [i64_w, i32_w]; rw [c20b0]) | skip)
           have H' := Aside0.mk H
           clear H
           go_wp2
           first
           | (go_meet; case rel => exact ⟨_, ((((rd_T63 l0 x3_1).f0) == 4)), (by first | rfl | (rw [bl_gt] <;> rfl) | (simp; done) | (simp [*]; done) | (simp [*, bl_gt]; done)), H', ⟨by have := HK1.out; first | omega | exact Nat.le_refl _⟩, ⟨by (with_reducible repeat (first | refine blk_drewN ?_ _ | refine blk_drew ?_ | refine blk_alloc ?_ _)); refine blk_put (cs := #[.int .i64 ((rd_T63 l0 x3_1).f0), .string ((rd_T63 l0 x3_1).f1), .string ((rd_T63 l0 x3_1).f2), .int .u64 0]) ?_ 3 _ rfl; (with_reducible repeat (first | refine blk_drewN ?_ _ | refine blk_drew ?_ | refine blk_alloc ?_ _)); refine blk_put (cs := #[.int .i64 ((rd_T63 l0 x3_1).f0), .string ((rd_T63 l0 x3_1).f1), .string (⟨#[]⟩ : ByteArray), .int .u64 0]) ?_ 2 _ rfl; (with_reducible repeat (first | refine blk_drewN ?_ _ | refine blk_drew ?_ | refine blk_alloc ?_ _)); refine blk_put (cs := #[.int .i64 ((rd_T63 l0 x3_1).f0), .string (⟨#[]⟩ : ByteArray), .string (⟨#[]⟩ : ByteArray), .int .u64 0]) ?_ 1 _ rfl; (with_reducible repeat (first | refine blk_drewN ?_ _ | refine blk_drew ?_ | refine blk_alloc ?_ _)); refine blk_put (cs := #[.int .i64 0, .string (⟨#[]⟩ : ByteArray), .string (⟨#[]⟩ : ByteArray), .int .u64 0]) ?_ 0 _ rfl; (with_reducible repeat (first | refine blk_drewN ?_ _ | refine blk_drew ?_ | refine blk_alloc ?_ _)); exact BK291.out⟩, ⟨by repeat (first | (with_reducible first | exact HB.out | apply below_alloc | apply pw_below_drewN | apply below_drew1 | refine below_set ?_ GE291.out) | exact HB.out)⟩⟩)
           | (refine Met.intro ?_; go_step; (repeat apply Exists.intro); refine ⟨?_, ?_⟩; rotate_left; (focus (simp only [c8b0, c14b0, c20b0]; try rfl)); exact ⟨_, ((((rd_T63 l0 x3_1).f0) == 4)), (by first | rfl | (rw [bl_gt] <;> rfl) | (simp; done) | (simp [*]; done) | (simp [*, bl_gt]; done)), H', ⟨by have := HK1.out; first | omega | exact Nat.le_refl _⟩, ⟨by (with_reducible repeat (first | refine blk_drewN ?_ _ | refine blk_drew ?_ | refine blk_alloc ?_ _)); refine blk_put (cs := #[.int .i64 ((rd_T63 l0 x3_1).f0), .string ((rd_T63 l0 x3_1).f1), .string ((rd_T63 l0 x3_1).f2), .int .u64 0]) ?_ 3 _ rfl; (with_reducible repeat (first | refine blk_drewN ?_ _ | refine blk_drew ?_ | refine blk_alloc ?_ _)); refine blk_put (cs := #[.int .i64 ((rd_T63 l0 x3_1).f0), .string ((rd_T63 l0 x3_1).f1), .string (⟨#[]⟩ : ByteArray), .int .u64 0]) ?_ 2 _ rfl; (with_reducible repeat (first | refine blk_drewN ?_ _ | refine blk_drew ?_ | refine blk_alloc ?_ _)); refine blk_put (cs := #[.int .i64 ((rd_T63 l0 x3_1).f0), .string (⟨#[]⟩ : ByteArray), .string (⟨#[]⟩ : ByteArray), .int .u64 0]) ?_ 1 _ rfl; (with_reducible repeat (first | refine blk_drewN ?_ _ | refine blk_drew ?_ | refine blk_alloc ?_ _)); refine blk_put (cs := #[.int .i64 0, .string (⟨#[]⟩ : ByteArray), .string (⟨#[]⟩ : ByteArray), .int .u64 0]) ?_ 0 _ rfl; (with_reducible repeat (first | refine blk_drewN ?_ _ | refine blk_drew ?_ | refine blk_alloc ?_ _)); exact BK291.out⟩, ⟨by repeat (first | (with_reducible first | exact HB.out | apply below_alloc | apply pw_below_drewN | apply below_drew1 | refine below_set ?_ GE291.out) | exact HB.out)⟩⟩)
         case rest =>
          clear HC19
          try clear c1
          try clear c2
          try clear c2b0
          try clear c2b1
          try clear p2
          try clear q2
          try clear hx2
          try clear c3
          try clear c3b0
          try clear c4
          try clear c4b0
          try clear c8
          try clear c8b0
          try clear c8b1
          try clear c9
          try clear c9b0
          try clear c9b1
          try clear c11
          try clear c14
          try clear c14b0
          try clear c14b1
          try clear c16
          try clear c20
          try clear c20b0
          try clear c20b1
          try clear hcz12_0
          try clear hcz12_1
          try clear hcz12_2
          try clear hcz12_3
          try clear hcz13_0
          try clear hcz13_1
          try clear hcz13_2
          try clear hcz13_3
          try clear hcz17_0
          try clear hcz17_1
          try clear hcz17_2
          try clear hcz17_3
          try clear hcz18_0
          try clear hcz18_1
          try clear hcz18_2
          try clear hcz18_3
          try clear hcz7_0
          try clear hcz7_1
          try clear hcz7_2
          try clear hcz7_3
          try clear hfz12_0
          try clear hfz12_1
          try clear hfz12_2
          try clear hfz12_3
          try clear hfz13_0
          try clear hfz13_1
          try clear hfz13_2
          try clear hfz13_3
          try clear hfz17_0
          try clear hfz17_1
          try clear hfz17_2
          try clear hfz17_3
          try clear hfz18_0
          try clear hfz18_1
          try clear hfz18_2
          try clear hfz18_3
          try clear hfz7_0
          try clear hfz7_1
          try clear hfz7_2
          try clear hfz7_3
          try clear hx290_0
          try clear hx290_1
          try clear hx290_2
          try clear hx290_3
          try clear p2
          try clear p290
          try clear q290
          obtain ⟨kq, x55_18, rfl, HA, HJ18, BK291, HB⟩ := hcut
          cases kq with
          | zero => exact absurd HA.out (by simp [folkmootref08_Check.j1])
          | succ kj18 =>
           have H := HA.out;clear HA
           simp only [folkmootref08_Check.j1] at H
           by_cases c21 : x55_18 = true
           ·subst c21
            have H1 : (folkmootref08_Check.j2 kj18 l0 x3_1 (((rd_T63 l0 x3_1).f2).toList == ([] : List UInt8)) true ((rd_T63 l0 x3_1).f0) ((rd_T63 l0 x3_1).f1) ((rd_T63 l0 x3_1).f2) ((rd_T63 l0 x3_1).f3)) = some r := by rw [if_pos rfl] at H; exact H
            clear H;have H := H1;clear H1
            have H' := Aside0.mk H
            clear H
            go_wp2
            first
            | (go_meet; case rel => exact ⟨_, ((((rd_T63 l0 x3_1).f2).toList == ([] : List UInt8))), (true), (by first | rfl | (rw [bl_gt] <;> rfl) | (simp; done) | (simp [*]; done) | (simp [*, bl_gt]; done)), (by first | rfl | (rw [bl_gt] <;> rfl) | (simp; done) | (simp [*]; done) | (simp [*, bl_gt]; done)), H', ⟨by have := HK1.out; have := HJ18.out; first | omega | exact Nat.le_refl _⟩, ⟨by (with_reducible repeat (first | refine blk_drewN ?_ _ | refine blk_drew ?_ | refine blk_alloc ?_ _)); exact BK291.out⟩, ⟨by repeat (first | (with_reducible first | exact HB.out | apply below_alloc | apply pw_below_drewN | apply below_drew1 | refine below_set ?_ GE291.out) | exact HB.out)⟩⟩)
            | (refine Met.intro ?_; go_step; (repeat apply Exists.intro); refine ⟨?_, ?_⟩; rotate_left; (focus (simp only [c8b0, c14b0]; try rfl)); exact ⟨_, ((((rd_T63 l0 x3_1).f2).toList == ([] : List UInt8))), (true), (by first | rfl | (rw [bl_gt] <;> rfl) | (simp; done) | (simp [*]; done) | (simp [*, bl_gt]; done)), (by first | rfl | (rw [bl_gt] <;> rfl) | (simp; done) | (simp [*]; done) | (simp [*, bl_gt]; done)), H', ⟨by have := HK1.out; have := HJ18.out; first | omega | exact Nat.le_refl _⟩, ⟨by (with_reducible repeat (first | refine blk_drewN ?_ _ | refine blk_drew ?_ | refine blk_alloc ?_ _)); exact BK291.out⟩, ⟨by repeat (first | (with_reducible first | exact HB.out | apply below_alloc | apply pw_below_drewN | apply below_drew1 | refine below_set ?_ GE291.out) | exact HB.out)⟩⟩)
           ·replace c21 := Bool.eq_false_iff.mpr c21
            subst c21
            have H1 : (if ((rd_T63 l0 x3_1).f0) = 1 then (folkmootref08_Check.j2 kj18 l0 x3_1 (((rd_T63 l0 x3_1).f2).toList == ([] : List UInt8)) (((rd_T63 l0 x3_1).f3) == 0) ((rd_T63 l0 x3_1).f0) ((rd_T63 l0 x3_1).f1) ((rd_T63 l0 x3_1).f2) ((rd_T63 l0 x3_1).f3)) else (if ((rd_T63 l0 x3_1).f0) = 5 then (folkmootref08_Check.j2 kj18 l0 x3_1 (((rd_T63 l0 x3_1).f2).toList == ([] : List UInt8)) (((rd_T63 l0 x3_1).f3) == 0) ((rd_T63 l0 x3_1).f0) ((rd_T63 l0 x3_1).f1) ((rd_T63 l0 x3_1).f2) ((rd_T63 l0 x3_1).f3)) else (some 80))) = some r := by rw [if_neg (show ¬ (false = true) by decide)] at H; exact H
            clear H;have H := H1;clear H1
            by_cases c22 : ((rd_T63 l0 x3_1).f0) = 1
            ·rw [if_pos c22] at H
             have c22b0 : (((rd_T63 l0 x3_1).f0) == 1) = true := beq_iff_eq.mpr c22
             have c22b1 : (((rd_T63 l0 x3_1).f0) != 1) = false := bne_eq_false_iff_eq.mpr c22
             clear c22
             have H' := Aside0.mk H
             clear H
             go_wp2
             first
             | (go_meet; case rel => exact ⟨_, ((((rd_T63 l0 x3_1).f2).toList == ([] : List UInt8))), ((((rd_T63 l0 x3_1).f3) == 0)), (by first | rfl | (rw [bl_gt] <;> rfl) | (simp; done) | (simp [*]; done) | (simp [*, bl_gt]; done)), (by first | rfl | (rw [bl_gt] <;> rfl) | (simp; done) | (simp [*]; done) | (simp [*, bl_gt]; done)), H', ⟨by have := HK1.out; have := HJ18.out; first | omega | exact Nat.le_refl _⟩, ⟨by (with_reducible repeat (first | refine blk_drewN ?_ _ | refine blk_drew ?_ | refine blk_alloc ?_ _)); exact BK291.out⟩, ⟨by repeat (first | (with_reducible first | exact HB.out | apply below_alloc | apply pw_below_drewN | apply below_drew1 | refine below_set ?_ GE291.out) | exact HB.out)⟩⟩)
             | (refine Met.intro ?_; go_step; (repeat apply Exists.intro); refine ⟨?_, ?_⟩; rotate_left; (focus (simp only [c8b0, c14b0, c22b0]; try rfl)); exact ⟨_, ((((rd_T63 l0 x3_1).f2).toList == ([] : List UInt8))), ((((rd_T63 l0 x3_1).f3) == 0)), (by first | rfl | (rw [bl_gt] <;> rfl) | (simp; done) | (simp [*]; done) | (simp [*, bl_gt]; done)), (by first | rfl | (rw [bl_gt] <;> rfl) | (simp; done) | (simp [*]; done) | (simp [*, bl_gt]; done)), H', ⟨by have := HK1.out; have := HJ18.out; first | omega | exact Nat.le_refl _⟩, ⟨by (with_reducible repeat (first | refine blk_drewN ?_ _ | refine blk_drew ?_ | refine blk_alloc ?_ _)); exact BK291.out⟩, ⟨by repeat (first | (with_reducible first | exact HB.out | apply below_alloc | apply pw_below_drewN | apply below_drew1 | refine below_set ?_ GE291.out) | exact HB.out)⟩⟩)
            ·rw [if_neg c22] at H
             have c22b0 : (((rd_T63 l0 x3_1).f0) == 1) = false := beq_eq_false_iff_ne.mpr c22
             have c22b1 : (((rd_T63 l0 x3_1).f0) != 1) = true := bne_iff_ne.mpr c22
             by_cases c23 : ((rd_T63 l0 x3_1).f0) = 5
             ·rw [if_pos c23] at H
              have c23b0 : (((rd_T63 l0 x3_1).f0) == 5) = true := beq_iff_eq.mpr c23
              have c23b1 : (((rd_T63 l0 x3_1).f0) != 5) = false := bne_eq_false_iff_eq.mpr c23
              clear c23
              have H' := Aside0.mk H
              clear H
              go_wp2
              first
              | (go_meet; case rel => exact ⟨_, ((((rd_T63 l0 x3_1).f2).toList == ([] : List UInt8))), ((((rd_T63 l0 x3_1).f3) == 0)), (by first | rfl | (rw [bl_gt] <;> rfl) | (simp; done) | (simp [*]; done) | (simp [*, bl_gt]; done)), (by first | rfl | (rw [bl_gt] <;> rfl) | (simp; done) | (simp [*]; done) | (simp [*, bl_gt]; done)), H', ⟨by have := HK1.out; have := HJ18.out; first | omega | exact Nat.le_refl _⟩, ⟨by (with_reducible repeat (first | refine blk_drewN ?_ _ | refine blk_drew ?_ | refine blk_alloc ?_ _)); exact BK291.out⟩, ⟨by repeat (first | (with_reducible first | exact HB.out | apply below_alloc | apply pw_below_drewN | apply below_drew1 | refine below_set ?_ GE291.out) | exact HB.out)⟩⟩)
              | (refine Met.intro ?_; go_step; (repeat apply Exists.intro); refine ⟨?_, ?_⟩; rotate_left; (focus (simp only [c8b0, c14b0, c22b0, c23b0]; try rfl)); exact ⟨_, ((((rd_T63 l0 x3_1).f2).toList == ([] : List UInt8))), ((((rd_T63 l0 x3_1).f3) == 0)), (by first | rfl | (rw [bl_gt] <;> rfl) | (simp; done) | (simp [*]; done) | (simp [*, bl_gt]; done)), (by first | rfl | (rw [bl_gt] <;> rfl) | (simp; done) | (simp [*]; done) | (simp [*, bl_gt]; done)), H', ⟨by have := HK1.out; have := HJ18.out; first | omega | exact Nat.le_refl _⟩, ⟨by (with_reducible repeat (first | refine blk_drewN ?_ _ | refine blk_drew ?_ | refine blk_alloc ?_ _)); exact BK291.out⟩, ⟨by repeat (first | (with_reducible first | exact HB.out | apply below_alloc | apply pw_below_drewN | apply below_drew1 | refine below_set ?_ GE291.out) | exact HB.out)⟩⟩)
             ·rw [if_neg c23] at H
              have c23b0 : (((rd_T63 l0 x3_1).f0) == 5) = false := beq_eq_false_iff_ne.mpr c23
              have c23b1 : (((rd_T63 l0 x3_1).f0) != 5) = true := bne_iff_ne.mpr c23
              obtain rfl := Option.some.inj H
              go_wp2
              go_ret
              exact ⟨by first | rfl | (rw [bl_gt] <;> rfl) | (simp [errW_none, errW_some] <;> rfl) | (simp [*, errW_none, errW_some] <;> rfl), by repeat (first | (with_reducible first | exact HB.out | apply below_alloc | apply pw_below_drewN | apply below_drew1 | refine below_set ?_ GE291.out) | exact HB.out)⟩
      case rest =>
       clear HC5
       try clear c1
       try clear c2
       try clear c2b0
       try clear c2b1
       try clear p2
       try clear q2
       try clear hx2
       try clear c3
       try clear c3b0
       try clear c4
       try clear c4b0
       try clear c8
       try clear c8b0
       try clear c8b1
       try clear c9
       try clear c9b0
       try clear c9b1
       try clear c11
       try clear c14
       try clear c14b0
       try clear c14b1
       try clear c16
       try clear c20
       try clear c20b0
       try clear c20b1
       try clear c21
       try clear c22
       try clear c22b0
       try clear c22b1
       try clear c23
       try clear c23b0
       try clear c23b1
       try clear hcz12_0
       try clear hcz12_1
       try clear hcz12_2
       try clear hcz12_3
       try clear hcz13_0
       try clear hcz13_1
       try clear hcz13_2
       try clear hcz13_3
       try clear hcz17_0
       try clear hcz17_1
       try clear hcz17_2
       try clear hcz17_3
       try clear hcz18_0
       try clear hcz18_1
       try clear hcz18_2
       try clear hcz18_3
       try clear hcz7_0
       try clear hcz7_1
       try clear hcz7_2
       try clear hcz7_3
       try clear hfz12_0
       try clear hfz12_1
       try clear hfz12_2
       try clear hfz12_3
       try clear hfz13_0
       try clear hfz13_1
       try clear hfz13_2
       try clear hfz13_3
       try clear hfz17_0
       try clear hfz17_1
       try clear hfz17_2
       try clear hfz17_3
       try clear hfz18_0
       try clear hfz18_1
       try clear hfz18_2
       try clear hfz18_3
       try clear hfz7_0
       try clear hfz7_1
       try clear hfz7_2
       try clear hfz7_3
       try clear hx290_0
       try clear hx290_1
       try clear hx290_2
       try clear hx290_3
       try clear p2
       try clear p290
       try clear q2
       try clear q290
       obtain ⟨kq, x5_4, x6_4, rfl, rfl, HA, HJ4, BK291, HB⟩ := hcut
       cases kq with
       | zero => exact absurd HA.out (by simp [folkmootref08_Check.j2])
       | succ kj4 =>
        have H := HA.out;clear HA
        simp only [folkmootref08_Check.j2] at H
        replace H := Option.bind_eq_some_iff.mp H
        obtain ⟨t294, A240, H⟩ := H
        replace H : (if t294 = true then (if x5_4 = true then (if x6_4 = true then ((folkmootref07_Is.f ((rd_T63 l0 x3_1).f3)).bind fun t295 => (if t295 = true then (folkmootref08_Check.l0 kj4 l0 (wrap64 (x3_1 + 1))) else (some 80))) else (some 80)) else (some 80)) else (some 80)) = some r := H
        have A24 := Aside0.mk A240
        clear A240
        by_cases c25 : t294 = true
        ·subst c25
         have H1 : (if x5_4 = true then (if x6_4 = true then ((folkmootref07_Is.f ((rd_T63 l0 x3_1).f3)).bind fun t295 => (if t295 = true then (folkmootref08_Check.l0 kj4 l0 (wrap64 (x3_1 + 1))) else (some 80))) else (some 80)) else (some 80)) = some r := by rw [if_pos rfl] at H; exact H
         clear H;have H := H1;clear H1
         by_cases c26 : x5_4 = true
         ·subst c26
          have H1 : (if x6_4 = true then ((folkmootref07_Is.f ((rd_T63 l0 x3_1).f3)).bind fun t295 => (if t295 = true then (folkmootref08_Check.l0 kj4 l0 (wrap64 (x3_1 + 1))) else (some 80))) else (some 80)) = some r := by rw [if_pos rfl] at H; exact H
          clear H;have H := H1;clear H1
          by_cases c27 : x6_4 = true
          ·subst c27
           have H1 : ((folkmootref07_Is.f ((rd_T63 l0 x3_1).f3)).bind fun t295 => (if t295 = true then (folkmootref08_Check.l0 kj4 l0 (wrap64 (x3_1 + 1))) else (some 80))) = some r := by rw [if_pos rfl] at H; exact H
           clear H;have H := H1;clear H1
           replace H := Option.bind_eq_some_iff.mp H
           obtain ⟨t295, A280, H⟩ := H
           replace H : (if t295 = true then (folkmootref08_Check.l0 kj4 l0 (wrap64 (x3_1 + 1))) else (some 80)) = some r := H
           have A28 := Aside0.mk A280
           clear A280
           by_cases c29 : t295 = true
           ·subst c29
            have H1 : (folkmootref08_Check.l0 kj4 l0 (wrap64 (x3_1 + 1))) = some r := by rw [if_pos rfl] at H; exact H
            clear H;have H := H1;clear H1
            have H' := Aside0.mk H
            clear H
            have hcz30_0 : wc.cell? ⟨gb291, 0, none⟩ = some (.int .i64 ((rd_T63 l0 x3_1).f0)) := (blk_cell BK291.out 0).trans rfl
            have hcz30_1 : wc.cell? ⟨gb291, 1, none⟩ = some (.string ((rd_T63 l0 x3_1).f1)) := (blk_cell BK291.out 1).trans rfl
            have hcz30_2 : wc.cell? ⟨gb291, 2, none⟩ = some (.string ((rd_T63 l0 x3_1).f2)) := (blk_cell BK291.out 2).trans rfl
            have hcz30_3 : wc.cell? ⟨gb291, 3, none⟩ = some (.int .u64 ((rd_T63 l0 x3_1).f3)) := (blk_cell BK291.out 3).trans rfl
            have hfz30_0 := blk_frozen BK291.out 0
            have hfz30_1 := blk_frozen BK291.out 1
            have hfz30_2 := blk_frozen BK291.out 2
            have hfz30_3 := blk_frozen BK291.out 3
            go_wp2_with (first | ((with_reducible refine gate_callee (f := 37) rfl ?_); refine goesL_ (some 63) rfl rfl Tryz.func37 (by kernel_rfl) rfl #[.string ((rd_T63 l0 x3_1).f1)] rfl (by (try simp only [List.map_toArray, List.map_cons, List.map_nil]); first | done | rfl | (simp only [List.length_drop, List.length_take]; rfl)) ?_; (with_reducible refine (folkmootref03_Key.calls ((rd_T63 l0 x3_1).f1) true _ A24.out).mono ?_); rintro e w' ⟨rfl, ⟨nd, rfl⟩⟩; refine ⟨_, rfl, ?_⟩) | (go_at_call 59; (with_reducible refine (folkmootref07_Is.calls ((rd_T63 l0 x3_1).f3) true _ A28.out).mono ?_); rintro e w' ⟨rfl, ⟨nd, rfl⟩⟩))
            go_roundg kj4
            case measure => have := HK1.out; have := HJ4.out; omega
            case rel => exact ⟨(wrap64 (x3_1 + 1)), (by first | rfl | (rw [bl_gt] <;> rfl) | (simp; done) | (simp [*]; done) | (simp [*, bl_gt]; done)), H', ⟨by have := HK1.out; have := HJ4.out; omega⟩, ⟨by repeat (first | (with_reducible first | exact HB.out | apply below_alloc | apply pw_below_drewN | apply below_drew1 | refine below_set ?_ GE291.out) | exact HB.out)⟩⟩
           ·replace c29 := Bool.eq_false_iff.mpr c29
            subst c29
            have H1 : (some 80) = some r := by rw [if_neg (show ¬ (false = true) by decide)] at H; exact H
            clear H;have H := H1;clear H1;obtain rfl := Option.some.inj H
            have hcz31_0 : wc.cell? ⟨gb291, 0, none⟩ = some (.int .i64 ((rd_T63 l0 x3_1).f0)) := (blk_cell BK291.out 0).trans rfl
            have hcz31_1 : wc.cell? ⟨gb291, 1, none⟩ = some (.string ((rd_T63 l0 x3_1).f1)) := (blk_cell BK291.out 1).trans rfl
            have hcz31_2 : wc.cell? ⟨gb291, 2, none⟩ = some (.string ((rd_T63 l0 x3_1).f2)) := (blk_cell BK291.out 2).trans rfl
            have hcz31_3 : wc.cell? ⟨gb291, 3, none⟩ = some (.int .u64 ((rd_T63 l0 x3_1).f3)) := (blk_cell BK291.out 3).trans rfl
            have hfz31_0 := blk_frozen BK291.out 0
            have hfz31_1 := blk_frozen BK291.out 1
            have hfz31_2 := blk_frozen BK291.out 2
            have hfz31_3 := blk_frozen BK291.out 3
            go_wp2_with (first | ((with_reducible refine gate_callee (f := 37) rfl ?_); refine goesL_ (some 63) rfl rfl Tryz.func37 (by kernel_rfl) rfl #[.string ((rd_T63 l0 x3_1).f1)] rfl (by (try simp only [List.map_toArray, List.map_cons, List.map_nil]); first | done | rfl | (simp only [List.length_drop, List.length_take]; rfl)) ?_; (with_reducible refine (folkmootref03_Key.calls ((rd_T63 l0 x3_1).f1) true _ A24.out).mono ?_); rintro e w' ⟨rfl, ⟨nd, rfl⟩⟩; refine ⟨_, rfl, ?_⟩) | (go_at_call 59; (with_reducible refine (folkmootref07_Is.calls ((rd_T63 l0 x3_1).f3) false _ A28.out).mono ?_); rintro e w' ⟨rfl, ⟨nd, rfl⟩⟩))
            go_ret
            exact ⟨by first | rfl | (rw [bl_gt] <;> rfl) | (simp [errW_none, errW_some] <;> rfl) | (simp [*, errW_none, errW_some] <;> rfl), by repeat (first | (with_reducible first | exact HB.out | apply below_alloc | apply pw_below_drewN | apply below_drew1 | refine below_set ?_ GE291.out) | exact HB.out)⟩
          ·replace c27 := Bool.eq_false_iff.mpr c27
           subst c27
           have H1 : (some 80) = some r := by rw [if_neg (show ¬ (false = true) by decide)] at H; exact H
           clear H;have H := H1;clear H1;obtain rfl := Option.some.inj H
           have hcz32_0 : wc.cell? ⟨gb291, 0, none⟩ = some (.int .i64 ((rd_T63 l0 x3_1).f0)) := (blk_cell BK291.out 0).trans rfl
           have hcz32_1 : wc.cell? ⟨gb291, 1, none⟩ = some (.string ((rd_T63 l0 x3_1).f1)) := (blk_cell BK291.out 1).trans rfl
           have hcz32_2 : wc.cell? ⟨gb291, 2, none⟩ = some (.string ((rd_T63 l0 x3_1).f2)) := (blk_cell BK291.out 2).trans rfl
           have hcz32_3 : wc.cell? ⟨gb291, 3, none⟩ = some (.int .u64 ((rd_T63 l0 x3_1).f3)) := (blk_cell BK291.out 3).trans rfl
           have hfz32_0 := blk_frozen BK291.out 0
           have hfz32_1 := blk_frozen BK291.out 1
           have hfz32_2 := blk_frozen BK291.out 2
           have hfz32_3 := blk_frozen BK291.out 3
           go_wp2_with (first | ((with_reducible refine gate_callee (f := 37) rfl ?_); refine goesL_ (some 63) rfl rfl Tryz.func37 (by kernel_rfl) rfl #[.string ((rd_T63 l0 x3_1).f1)] rfl (by (try simp only [List.map_toArray, List.map_cons, List.map_nil]); first | done | rfl | (simp only [List.length_drop, List.length_take]; rfl)) ?_; (with_reducible refine (folkmootref03_Key.calls ((rd_T63 l0 x3_1).f1) true _ A24.out).mono ?_); rintro e w' ⟨rfl, ⟨nd, rfl⟩⟩; refine ⟨_, rfl, ?_⟩))
           go_ret
           exact ⟨by first | rfl | (rw [bl_gt] <;> rfl) | (simp [errW_none, errW_some] <;> rfl) | (simp [*, errW_none, errW_some] <;> rfl), by repeat (first | (with_reducible first | exact HB.out | apply below_alloc | apply pw_below_drewN | apply below_drew1 | refine below_set ?_ GE291.out) | exact HB.out)⟩
         ·replace c26 := Bool.eq_false_iff.mpr c26
          subst c26
          have H1 : (some 80) = some r := by rw [if_neg (show ¬ (false = true) by decide)] at H; exact H
          clear H;have H := H1;clear H1;obtain rfl := Option.some.inj H
          have hcz33_0 : wc.cell? ⟨gb291, 0, none⟩ = some (.int .i64 ((rd_T63 l0 x3_1).f0)) := (blk_cell BK291.out 0).trans rfl
          have hcz33_1 : wc.cell? ⟨gb291, 1, none⟩ = some (.string ((rd_T63 l0 x3_1).f1)) := (blk_cell BK291.out 1).trans rfl
          have hcz33_2 : wc.cell? ⟨gb291, 2, none⟩ = some (.string ((rd_T63 l0 x3_1).f2)) := (blk_cell BK291.out 2).trans rfl
          have hcz33_3 : wc.cell? ⟨gb291, 3, none⟩ = some (.int .u64 ((rd_T63 l0 x3_1).f3)) := (blk_cell BK291.out 3).trans rfl
          have hfz33_0 := blk_frozen BK291.out 0
          have hfz33_1 := blk_frozen BK291.out 1
          have hfz33_2 := blk_frozen BK291.out 2
          have hfz33_3 := blk_frozen BK291.out 3
          go_wp2_with (first | ((with_reducible refine gate_callee (f := 37) rfl ?_); refine goesL_ (some 63) rfl rfl Tryz.func37 (by kernel_rfl) rfl #[.string ((rd_T63 l0 x3_1).f1)] rfl (by (try simp only [List.map_toArray, List.map_cons, List.map_nil]); first | done | rfl | (simp only [List.length_drop, List.length_take]; rfl)) ?_; (with_reducible refine (folkmootref03_Key.calls ((rd_T63 l0 x3_1).f1) true _ A24.out).mono ?_); rintro e w' ⟨rfl, ⟨nd, rfl⟩⟩; refine ⟨_, rfl, ?_⟩))
          go_ret
          exact ⟨by first | rfl | (rw [bl_gt] <;> rfl) | (simp [errW_none, errW_some] <;> rfl) | (simp [*, errW_none, errW_some] <;> rfl), by repeat (first | (with_reducible first | exact HB.out | apply below_alloc | apply pw_below_drewN | apply below_drew1 | refine below_set ?_ GE291.out) | exact HB.out)⟩
        ·replace c25 := Bool.eq_false_iff.mpr c25
         subst c25
         have H1 : (some 80) = some r := by rw [if_neg (show ¬ (false = true) by decide)] at H; exact H
         clear H;have H := H1;clear H1;obtain rfl := Option.some.inj H
         have hcz34_0 : wc.cell? ⟨gb291, 0, none⟩ = some (.int .i64 ((rd_T63 l0 x3_1).f0)) := (blk_cell BK291.out 0).trans rfl
         have hcz34_1 : wc.cell? ⟨gb291, 1, none⟩ = some (.string ((rd_T63 l0 x3_1).f1)) := (blk_cell BK291.out 1).trans rfl
         have hcz34_2 : wc.cell? ⟨gb291, 2, none⟩ = some (.string ((rd_T63 l0 x3_1).f2)) := (blk_cell BK291.out 2).trans rfl
         have hcz34_3 : wc.cell? ⟨gb291, 3, none⟩ = some (.int .u64 ((rd_T63 l0 x3_1).f3)) := (blk_cell BK291.out 3).trans rfl
         have hfz34_0 := blk_frozen BK291.out 0
         have hfz34_1 := blk_frozen BK291.out 1
         have hfz34_2 := blk_frozen BK291.out 2
         have hfz34_3 := blk_frozen BK291.out 3
         go_wp2_with (first | ((with_reducible refine gate_callee (f := 37) rfl ?_); refine goesL_ (some 63) rfl rfl Tryz.func37 (by kernel_rfl) rfl #[.string ((rd_T63 l0 x3_1).f1)] rfl (by (try simp only [List.map_toArray, List.map_cons, List.map_nil]); first | done | rfl | (simp only [List.length_drop, List.length_take]; rfl)) ?_; (with_reducible refine (folkmootref03_Key.calls ((rd_T63 l0 x3_1).f1) false _ A24.out).mono ?_); rintro e w' ⟨rfl, ⟨nd, rfl⟩⟩; refine ⟨_, rfl, ?_⟩))
         go_ret
         exact ⟨by first | rfl | (rw [bl_gt] <;> rfl) | (simp [errW_none, errW_some] <;> rfl) | (simp [*, errW_none, errW_some] <;> rfl), by repeat (first | (with_reducible first | exact HB.out | apply below_alloc | apply pw_below_drewN | apply below_drew1 | refine below_set ?_ GE291.out) | exact HB.out)⟩
     ·rw [if_neg c4] at H
      exact absurd H (by simp)
    ·rw [if_neg c3] at H
     have c3b0 : decide (x3_1 < (l0.length : Int)) = false := decide_eq_false c3
     clear c3
     by_cases c35 : (l0.length : Int) = 0
     ·rw [if_pos c35] at H
      have c35b0 : ((l0.length : Int) == 0) = true := beq_iff_eq.mpr c35
      have c35b1 : ((l0.length : Int) != 0) = false := bne_eq_false_iff_eq.mpr c35
      clear c35;obtain rfl := Option.some.inj H
      go_wp2
      go_ret
      exact ⟨by first | rfl | (rw [bl_gt] <;> rfl) | (simp [errW_none, errW_some] <;> rfl) | (simp [*, errW_none, errW_some] <;> rfl), bB_⟩
     ·rw [if_neg c35] at H
      have c35b0 : ((l0.length : Int) == 0) = false := beq_eq_false_iff_ne.mpr c35
      have c35b1 : ((l0.length : Int) != 0) = true := bne_iff_ne.mpr c35
      have c35b2 : ¬ (l0 = []) := fun h_ => c35 (by rw [h_]; rfl)
      obtain rfl := Option.some.inj H
      go_wp2
      go_ret
      exact ⟨by first | rfl | (rw [bl_gt] <;> rfl) | (simp [errW_none, errW_some] <;> rfl) | (simp [*, errW_none, errW_some] <;> rfl), bB_⟩
end Go.Proofs.YtgmlenpcchhmbaaGreat.P
end
