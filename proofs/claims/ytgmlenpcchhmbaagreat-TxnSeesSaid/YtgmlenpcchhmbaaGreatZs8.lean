/- what the claim's row stands on, part 8. -/
import Derived.Test.YtgmlenpcchhmbaaGreatZs1
import Derived.Test.YtgmlenpcchhmbaaGreatZs3
import Derived.Test.YtgmlenpcchhmbaaGreatZs2
import Derived.Test.YtgmlenpcchhmbaaGreatZs5
import Derived.Test.YtgmlenpcchhmbaaGreatZs7
section
set_option linter.unusedVariables false
set_option linter.unusedSimpArgs false
namespace Go.Proofs.YtgmlenpcchhmbaaGreat.P
open Go.RowKit Go.Proofs.YtgmlenpcchhmbaaGreatW.PrintWords Go.Proofs.YtgmlenpcchhmbaaGreatW.PrintLast Go.Proofs.YtgmlenpcchhmbaaGreatW.PrintMore
attribute [local go_sem] max2_int min2_int max_two min_two max_three min_three max_four min_four   -- for this text's walks alone
set_option linter.unusedVariables false
set_option linter.unusedSimpArgs false
mutual
def folkmootlaw08_TxnSees.j0 : Nat → ByteArray → Int → List (S61) → ByteArray → List (S63) → Bool → Option (Bool)
 | 0, _, _, _, _, _, _ => none
 | k + 1, x0, x1, x2, x3, x9, x40 => if x40 = true then ((folkmootlaw08_live.f).bind fun t192 => (some t192)) else ((txn_Eval.f x9 x2).bind fun bt193 => (if (bt193.2.length : Int) = 5 then (if 0 < (bt193.2.length : Int) then (if ((rd_T65 bt193.2 0).f0 = true) then (if 1 < (bt193.2.length : Int) then (if ((rd_T65 bt193.2 1).f0 = true) then (if ((rd_T65 bt193.2 1).f1) = x1 then (if 2 < (bt193.2.length : Int) then (if ((rd_T65 bt193.2 2).f0 = true) then (if 3 < (bt193.2.length : Int) then (if (rd_T65 bt193.2 3).f0 = true then (folkmootlaw08_TxnSees.j1 k x0 x2 x3 bt193.1 bt193.2 true) else (if ((rd_T65 bt193.2 3).f1) = 0 then (if (bt193.1.length : Int) = 1 then (if 0 < (bt193.1.length : Int) then (folkmootlaw08_TxnSees.j1 k x0 x2 x3 bt193.1 bt193.2 (!((rd_T69 bt193.1 0).f2))) else (none)) else (folkmootlaw08_TxnSees.j1 k x0 x2 x3 bt193.1 bt193.2 true)) else (folkmootlaw08_TxnSees.j1 k x0 x2 x3 bt193.1 bt193.2 true))) else (none)) else (folkmootlaw08_TxnSees.j1 k x0 x2 x3 bt193.1 bt193.2 true)) else (none)) else (folkmootlaw08_TxnSees.j1 k x0 x2 x3 bt193.1 bt193.2 true)) else (folkmootlaw08_TxnSees.j1 k x0 x2 x3 bt193.1 bt193.2 true)) else (none)) else (folkmootlaw08_TxnSees.j1 k x0 x2 x3 bt193.1 bt193.2 true)) else (none)) else (folkmootlaw08_TxnSees.j1 k x0 x2 x3 bt193.1 bt193.2 true)))
def folkmootlaw08_TxnSees.j1 : Nat → ByteArray → List (S61) → ByteArray → List (S69) → List (S65) → Bool → Option (Bool)
 | 0, _, _, _, _, _, _ => none
 | k + 1, x0, x2, x3, x10, x11, x104 => if x104 = true then (some false) else ((txn_Apply.f x2 (([(⟨x0, 0, true⟩ : S69)] : List (S69)))).bind fun t209 => (if 4 < (x11.length : Int) then ((txn_Pick.f t209 (([(⟨x0, x3⟩ : S71)] : List (S71)))).bind fun t216 => ((folkmootref08_Pairs.f k ((rd_T65 x11 4).f2) t216).bind fun t219 => (if t219 = true then ((txn_Apply.f x2 x10).bind fun t220 => ((folkmootref08_Pairs.f k t220 t209).bind fun t223 => (if t223 = true then ((folkmootlaw08_live.f).bind fun t224 => (some t224)) else (some false)))) else (some false)))) else (none)))
end
def folkmootlaw08_TxnSees.f (k : Nat) (a0 : ByteArray) (a1 : Int) (l2 : List (S61)) (a3 : ByteArray) : Option (Bool) := (some (([(⟨3, a0, (⟨#[]⟩ : ByteArray), a1⟩ : S63), (⟨1, a0, (⟨#[]⟩ : ByteArray), 0⟩ : S63), (⟨5, a0, (⟨#[]⟩ : ByteArray), 0⟩ : S63), (⟨1, a0, (⟨#[]⟩ : ByteArray), 0⟩ : S63), (⟨2, a0, a3, 0⟩ : S63)] : List (S63)) : List (S63))).bind fun y185 => ((folkmootlaw08_small.f k y185 l2).bind fun t188 => (if t188 = true then ((txn_Check.f y185).bind fun t189 => ((folkmootlaw08_num.f t189).bind fun t190 => (if t190 = 0 then ((folkmootref08_Data.f k l2).bind fun t191 => (folkmootlaw08_TxnSees.j0 k a0 a1 l2 a3 y185 (!t191))) else (folkmootlaw08_TxnSees.j0 k a0 a1 l2 a3 y185 true)))) else (folkmootlaw08_TxnSees.j0 k a0 a1 l2 a3 y185 true)))
def folkmootlaw08_TxnSees.T8 : Bool × List (List Nat × List Nat) := (true, [([], []), ([0], [0]), ([1], [1]), ([2], [2]), ([], []), ([], []), ([], []), ([5, 6], [5, 6]), ([7], [7]), ([4, 8], [4, 8]), ([3, 9, 9], [3, 9]), ([10, 10], [10]), ([11], [11]), ([11], [11]), ([12, 13, 11, 11], [11, 12, 13]), ([11], [11]), ([14, 15, 14, 11], [11, 14, 15]), ([11, 16], [11, 16]), ([17, 16], [17]), ([18, 18], [18]), ([18, 19], [18, 19]), ([20, 19, 0, 1, 2, 3, 4, 5, 6, 7, 8, 9, 10, 11, 12, 13, 14, 15, 16, 17, 18, 19, 20], [20])])
def folkmootlaw08_TxnSees.B8 : List Nat := [0, 1, 3, 7, 0, 0, 0, 96, 224, 496, 1023, 2047, 4095, 4095, 16383, 4095, 65535, 131071, 262143, 524287, 1048575, 2097151]
theorem folkmootlaw08_TxnSees.tab8 : rtab .any (opsOf Tryz.f7 8) = folkmootlaw08_TxnSees.T8 := by kernel_rfl
theorem folkmootlaw08_TxnSees.bits8 : waitsOk folkmootlaw08_TxnSees.T8.2 folkmootlaw08_TxnSees.B8 = true := by kernel_rfl
set_option maxHeartbeats 8000000 in
set_option maxRecDepth 100000 in
theorem folkmootlaw08_TxnSees.calls (k : Nat) (a0 : ByteArray) (a1 : Int) (A2 : Option Addr) (c2 : Nat) (l2 : List (S61)) (a3 : ByteArray) (r : Bool) (w : World) (hr2 : Kd.C k61 w A2 l2.length l2) (hc2 : l2.length ≤ c2) (h : folkmootlaw08_TxnSees.f k a0 a1 l2 a3 = some r) :
  Calls Tryz.prog 7 #[.string a0, .int .u64 a1, .slice A2 l2.length c2, .string a3] w fun e w' => e = .returned (.bool r) ∧ Below w.heap.size w w' := by
 have hu63 := Tryz.underlying63
 have hu69 := Tryz.underlying69
 have hu71 := Tryz.underlying71
 have HR2 := Aside0.mk hr2
 have HC2 := Aside0.mk hc2
 clear hr2 hc2
 have HB := Aside0.mk (Below.refl w.heap.size w)
 have H : ((some (([(⟨3, a0, (⟨#[]⟩ : ByteArray), a1⟩ : S63), (⟨1, a0, (⟨#[]⟩ : ByteArray), 0⟩ : S63), (⟨5, a0, (⟨#[]⟩ : ByteArray), 0⟩ : S63), (⟨1, a0, (⟨#[]⟩ : ByteArray), 0⟩ : S63), (⟨2, a0, a3, 0⟩ : S63)] : List (S63)) : List (S63))).bind fun y185 => ((folkmootlaw08_small.f k y185 l2).bind fun t188 => (if t188 = true then ((txn_Check.f y185).bind fun t189 => ((folkmootlaw08_num.f t189).bind fun t190 => (if t190 = 0 then ((folkmootref08_Data.f k l2).bind fun t191 => (folkmootlaw08_TxnSees.j0 k a0 a1 l2 a3 y185 (!t191))) else (folkmootlaw08_TxnSees.j0 k a0 a1 l2 a3 y185 true)))) else (folkmootlaw08_TxnSees.j0 k a0 a1 l2 a3 y185 true)))) = some r := h
 clear h
 obtain ⟨y185, hy185⟩ : ∃ y_ : List (S63), y_ = (([(⟨3, a0, (⟨#[]⟩ : ByteArray), a1⟩ : S63), (⟨1, a0, (⟨#[]⟩ : ByteArray), 0⟩ : S63), (⟨5, a0, (⟨#[]⟩ : ByteArray), 0⟩ : S63), (⟨1, a0, (⟨#[]⟩ : ByteArray), 0⟩ : S63), (⟨2, a0, a3, 0⟩ : S63)] : List (S63))) := ⟨_, rfl⟩
 replace H : ((folkmootlaw08_small.f k y185 l2).bind fun t188 => (if t188 = true then ((txn_Check.f y185).bind fun t189 => ((folkmootlaw08_num.f t189).bind fun t190 => (if t190 = 0 then ((folkmootref08_Data.f k l2).bind fun t191 => (folkmootlaw08_TxnSees.j0 k a0 a1 l2 a3 y185 (!t191))) else (folkmootlaw08_TxnSees.j0 k a0 a1 l2 a3 y185 true)))) else (folkmootlaw08_TxnSees.j0 k a0 a1 l2 a3 y185 true))) = some r := by first | (rw [hy185]; with_reducible exact H) | (have H2_ := (Option.bind_some _ _).symm.trans H; rw [hy185]; with_reducible exact H2_) | (have H2_ := (Option.bind_some _ _).symm.trans H; with_reducible exact H2_) | with_reducible exact H | (rw [hy185]; exact H) | exact H
 have Ny185 := Aside0.mk hy185
 clear hy185
 have HC5 := Aside0.mk H
 clear H
 go_enter Tryz.func7, Tryz.ntmps7
 go_upto_region 2 with (first | ((with_reducible refine gate_dst (N := 25) rfl ?_); (try (refine gate_guard (by rfl) ?_; dsimp only)); refine Kd.R_lit k63 _ 63 ?hg (N := 25) ?hd (xs := ([(⟨3, a0, (⟨#[]⟩ : ByteArray), a1⟩ : S63), (⟨1, a0, (⟨#[]⟩ : ByteArray), 0⟩ : S63), (⟨5, a0, (⟨#[]⟩ : ByteArray), 0⟩ : S63), (⟨1, a0, (⟨#[]⟩ : ByteArray), 0⟩ : S63), (⟨2, a0, a3, 0⟩ : S63)] : List (S63))) (inner := [.int .i64 3, .string a0, .string (⟨#[]⟩ : ByteArray), .int .u64 a1, .int .i64 1, .string a0, .string (⟨#[]⟩ : ByteArray), .int .u64 0, .int .i64 5, .string a0, .string (⟨#[]⟩ : ByteArray), .int .u64 0, .int .i64 1, .string a0, .string (⟨#[]⟩ : ByteArray), .int .u64 0, .int .i64 2, .string a0, .string a3, .int .u64 0]) (ok := fun _ => True) (okp := fun _ => True) ?hr ?hp (fun _ hk => hk) trivial (Below.refl _ _) (Nat.le_refl _) (by simp) ?_; (case hd => rfl); (case hg => rfl); (case hr => first | (go_simp; done) | (go_simp; rfl)); (case hp => exact (Reps.c4 (show Kd.M k63 _ _ _ (⟨3, a0, (⟨#[]⟩ : ByteArray), a1⟩ : S63) [.int .i64 3, .string a0, .string (⟨#[]⟩ : ByteArray), .int .u64 a1] from (k63_mkM _ _ _ (⟨3, a0, (⟨#[]⟩ : ByteArray), a1⟩ : S63) )) (Reps.c4 (show Kd.M k63 _ _ _ (⟨1, a0, (⟨#[]⟩ : ByteArray), 0⟩ : S63) [.int .i64 1, .string a0, .string (⟨#[]⟩ : ByteArray), .int .u64 0] from (k63_mkM _ _ _ (⟨1, a0, (⟨#[]⟩ : ByteArray), 0⟩ : S63) )) (Reps.c4 (show Kd.M k63 _ _ _ (⟨5, a0, (⟨#[]⟩ : ByteArray), 0⟩ : S63) [.int .i64 5, .string a0, .string (⟨#[]⟩ : ByteArray), .int .u64 0] from (k63_mkM _ _ _ (⟨5, a0, (⟨#[]⟩ : ByteArray), 0⟩ : S63) )) (Reps.c4 (show Kd.M k63 _ _ _ (⟨1, a0, (⟨#[]⟩ : ByteArray), 0⟩ : S63) [.int .i64 1, .string a0, .string (⟨#[]⟩ : ByteArray), .int .u64 0] from (k63_mkM _ _ _ (⟨1, a0, (⟨#[]⟩ : ByteArray), 0⟩ : S63) )) (Reps.c4 (show Kd.M k63 _ _ _ (⟨2, a0, a3, 0⟩ : S63) [.int .i64 2, .string a0, .string a3, .int .u64 0] from (k63_mkM _ _ _ (⟨2, a0, a3, 0⟩ : S63) )) (Reps.none _ _))))))); intro v186 w6 ho7 hb hg_ hnew_; clear hg_ hnew_; (first | rw [← Ny185.out] at ho7 | (simp only [Int.reduceToNat] at ho7; rw [← Ny185.out] at ho7)); have n0_ := Aside0.mk (Kd.R_lower ho7 (below_size (by repeat (first | (with_reducible first | exact HB.out | apply below_alloc | apply pw_below_drewN | apply below_drew1) | exact HB.out)))); have n1_ := Aside0.mk (below_step (by repeat (first | (with_reducible first | exact HB.out | apply below_alloc | apply pw_below_drewN | apply below_drew1) | exact HB.out)) hb); clear HB; have HO187 := n0_; have HB := n1_; clear n0_ n1_; clear hb ho7))
 (try simp only [Act.put, List.setIfInBounds_toArray, List.set_cons_zero, List.set_cons_succ])
 go_cut [40] (fun v40 wc => ∃ (kq : Nat) (x40_4 : Bool), v40 = .bool x40_4 ∧ Aside0 (folkmootlaw08_TxnSees.j0 kq a0 a1 l2 a3 y185 x40_4 = some r) ∧ Aside0 (kq ≤ k) ∧ Aside0 (Kd.R k63 63 wc w.heap.size (fun _ => True) v186 y185) ∧ Aside0 (Below w.heap.size w wc))
 case first =>
  have H := HC5.out
  clear HC5
  replace H := Option.bind_eq_some_iff.mp H
  obtain ⟨t188, A80, H⟩ := H
  replace H : (if t188 = true then ((txn_Check.f y185).bind fun t189 => ((folkmootlaw08_num.f t189).bind fun t190 => (if t190 = 0 then ((folkmootref08_Data.f k l2).bind fun t191 => (folkmootlaw08_TxnSees.j0 k a0 a1 l2 a3 y185 (!t191))) else (folkmootlaw08_TxnSees.j0 k a0 a1 l2 a3 y185 true)))) else (folkmootlaw08_TxnSees.j0 k a0 a1 l2 a3 y185 true)) = some r := H
  have A8 := Aside0.mk A80
  clear A80
  by_cases c9 : t188 = true
  ·subst c9
   have H1 : ((txn_Check.f y185).bind fun t189 => ((folkmootlaw08_num.f t189).bind fun t190 => (if t190 = 0 then ((folkmootref08_Data.f k l2).bind fun t191 => (folkmootlaw08_TxnSees.j0 k a0 a1 l2 a3 y185 (!t191))) else (folkmootlaw08_TxnSees.j0 k a0 a1 l2 a3 y185 true)))) = some r := by rw [if_pos rfl] at H; exact H
   clear H
   have H := H1
   clear H1
   replace H := Option.bind_eq_some_iff.mp H
   obtain ⟨t189, A100, H⟩ := H
   replace H : ((folkmootlaw08_num.f t189).bind fun t190 => (if t190 = 0 then ((folkmootref08_Data.f k l2).bind fun t191 => (folkmootlaw08_TxnSees.j0 k a0 a1 l2 a3 y185 (!t191))) else (folkmootlaw08_TxnSees.j0 k a0 a1 l2 a3 y185 true))) = some r := H
   have A10 := Aside0.mk A100
   clear A100
   replace H := Option.bind_eq_some_iff.mp H
   obtain ⟨t190, A110, H⟩ := H
   replace H : (if t190 = 0 then ((folkmootref08_Data.f k l2).bind fun t191 => (folkmootlaw08_TxnSees.j0 k a0 a1 l2 a3 y185 (!t191))) else (folkmootlaw08_TxnSees.j0 k a0 a1 l2 a3 y185 true)) = some r := H
   have A11 := Aside0.mk A110
   clear A110
   by_cases c12 : t190 = 0
   ·rw [if_pos c12] at H
    have c12b0 : (t190 == 0) = true := beq_iff_eq.mpr c12
    have c12b1 : (t190 != 0) = false := bne_eq_false_iff_eq.mpr c12
    clear c12
    (first | rw [c12b0] | (simp only [i64_w, i32_w]; rw [c12b0]) | skip)
    replace H := Option.bind_eq_some_iff.mp H
    obtain ⟨t191, A130, H⟩ := H
    replace H : (folkmootlaw08_TxnSees.j0 k a0 a1 l2 a3 y185 (!t191)) = some r := H
    have A13 := Aside0.mk A130
    clear A130
    have H' := Aside0.mk H
    clear H
    obtain ⟨Ao14, co14, eo14⟩ := Kd.R_slice HO187.out
    subst eo14
    go_wp2_with (first | ((with_reducible refine gate_callee (f := 13) rfl ?_); refine goesL_ (some 28) rfl rfl Tryz.func13 (by kernel_rfl) rfl #[.slice Ao14 y185.length co14, .slice A2 l2.length c2] rfl (by (try simp only [List.map_toArray, List.map_cons, List.map_nil]); first | done | rfl | (simp only [List.length_drop, List.length_take]; rfl)) ?_; (with_reducible refine (folkmootlaw08_small.calls k _ _ y185 _ _ l2 true _ ?side1 ?side2 ?side3 ?side4 A8.out).mono ?_); (case side1 => repeat (first | exact (Kd.R_reads' HO187.out).2.2 | (with_reducible refine Kd.C_alloc ?_ _) | (with_reducible refine Kd.C_drewN ?_ _) | (with_reducible refine Kd.C_drew ?_))); (case side2 => exact (Kd.R_reads' HO187.out).2.1); (case side3 => repeat (first | exact (Kd.C_below HR2.out HB.out) | (with_reducible refine Kd.C_alloc ?_ _) | (with_reducible refine Kd.C_drewN ?_ _) | (with_reducible refine Kd.C_drew ?_))); (case side4 => exact HC2.out); rintro e w' ⟨rfl, ⟨nd, rfl⟩⟩; refine ⟨_, rfl, ?_⟩) | (go_at_call 18; (with_reducible refine (txn_Check.calls _ _ y185 t189 _ ?side1 ?side2 A10.out).mono ?_); (case side1 => repeat (first | exact (Kd.R_reads' HO187.out).2.2 | (with_reducible refine Kd.C_alloc ?_ _) | (with_reducible refine Kd.C_drewN ?_ _) | (with_reducible refine Kd.C_drew ?_))); (case side2 => exact (Kd.R_reads' HO187.out).2.1); rintro e w15 ⟨rfl, hb⟩; have n0_ := Aside0.mk (Kd.R_below (by (with_reducible repeat (first | apply Kd.R_alloc | apply Kd.R_drewN | apply Kd.R_drew)); exact HO187.out) hb); have n1_ := Aside0.mk (below_step (by repeat (first | (with_reducible first | exact HB.out | apply below_alloc | apply pw_below_drewN | apply below_drew1) | exact HB.out)) hb); clear HO187; clear HB; have HO187 := n0_; have HB := n1_; clear n0_ n1_; (try clear hb); (try clear hb2); (try clear hk); (try clear hi)) | (go_at_call 17; (with_reducible refine (folkmootlaw08_num.calls t189 t190 _ A11.out).mono ?_); rintro e w' ⟨rfl, ⟨nd, rfl⟩⟩) | (go_at_call 24; (with_reducible refine (folkmootref08_Data.calls k _ _ l2 t191 _ ?side1 ?side2 A13.out).mono ?_); (case side1 => repeat (first | exact (Kd.C_below HR2.out (by repeat (first | (with_reducible first | exact HB.out | apply below_alloc | apply pw_below_drewN | apply below_drew1) | exact HB.out))) | (with_reducible refine Kd.C_alloc ?_ _) | (with_reducible refine Kd.C_drewN ?_ _) | (with_reducible refine Kd.C_drew ?_))); (case side2 => exact HC2.out); rintro e w16 ⟨rfl, hb⟩; have n0_ := Aside0.mk (Kd.R_below (by (with_reducible repeat (first | apply Kd.R_alloc | apply Kd.R_drewN | apply Kd.R_drew)); exact HO187.out) hb); have n1_ := Aside0.mk (below_step (by repeat (first | (with_reducible first | exact HB.out | apply below_alloc | apply pw_below_drewN | apply below_drew1) | exact HB.out)) hb); clear HO187; clear HB; have HO187 := n0_; have HB := n1_; clear n0_ n1_; (try clear hb); (try clear hb2); (try clear hk); (try clear hi)))
    first
    | (go_meet; case rel => exact ⟨_, (!t191), (by first | rfl | (rw [bl_gt] <;> rfl) | (simp; done) | (simp [*]; done)), H', ⟨by first | omega | exact Nat.le_refl _⟩, ⟨by (with_reducible repeat (first | apply Kd.R_alloc | apply Kd.R_drewN | apply Kd.R_drew)); exact HO187.out⟩, ⟨by repeat (first | (with_reducible first | exact HB.out | apply below_alloc | apply pw_below_drewN | apply below_drew1) | exact HB.out)⟩⟩)
    | (refine Met.intro ?_; go_step; (repeat apply Exists.intro); refine ⟨?_, ?_⟩; rotate_left; (focus (simp only [c12b0]; try rfl)); exact ⟨_, (!t191), (by first | rfl | (rw [bl_gt] <;> rfl) | (simp; done) | (simp [*]; done)), H', ⟨by first | omega | exact Nat.le_refl _⟩, ⟨by (with_reducible repeat (first | apply Kd.R_alloc | apply Kd.R_drewN | apply Kd.R_drew)); exact HO187.out⟩, ⟨by repeat (first | (with_reducible first | exact HB.out | apply below_alloc | apply pw_below_drewN | apply below_drew1) | exact HB.out)⟩⟩)
   ·rw [if_neg c12] at H
    have c12b0 : (t190 == 0) = false := beq_eq_false_iff_ne.mpr c12
    have c12b1 : (t190 != 0) = true := bne_iff_ne.mpr c12
    (first | rw [c12b0] | (simp only [i64_w, i32_w]; rw [c12b0]) | skip)
    have H' := Aside0.mk H
    clear H
    obtain ⟨Ao17, co17, eo17⟩ := Kd.R_slice HO187.out
    subst eo17
    go_wp2_with (first | ((with_reducible refine gate_callee (f := 13) rfl ?_); refine goesL_ (some 28) rfl rfl Tryz.func13 (by kernel_rfl) rfl #[.slice Ao17 y185.length co17, .slice A2 l2.length c2] rfl (by (try simp only [List.map_toArray, List.map_cons, List.map_nil]); first | done | rfl | (simp only [List.length_drop, List.length_take]; rfl)) ?_; (with_reducible refine (folkmootlaw08_small.calls k _ _ y185 _ _ l2 true _ ?side1 ?side2 ?side3 ?side4 A8.out).mono ?_); (case side1 => repeat (first | exact (Kd.R_reads' HO187.out).2.2 | (with_reducible refine Kd.C_alloc ?_ _) | (with_reducible refine Kd.C_drewN ?_ _) | (with_reducible refine Kd.C_drew ?_))); (case side2 => exact (Kd.R_reads' HO187.out).2.1); (case side3 => repeat (first | exact (Kd.C_below HR2.out HB.out) | (with_reducible refine Kd.C_alloc ?_ _) | (with_reducible refine Kd.C_drewN ?_ _) | (with_reducible refine Kd.C_drew ?_))); (case side4 => exact HC2.out); rintro e w' ⟨rfl, ⟨nd, rfl⟩⟩; refine ⟨_, rfl, ?_⟩) | (go_at_call 18; (with_reducible refine (txn_Check.calls _ _ y185 t189 _ ?side1 ?side2 A10.out).mono ?_); (case side1 => repeat (first | exact (Kd.R_reads' HO187.out).2.2 | (with_reducible refine Kd.C_alloc ?_ _) | (with_reducible refine Kd.C_drewN ?_ _) | (with_reducible refine Kd.C_drew ?_))); (case side2 => exact (Kd.R_reads' HO187.out).2.1); rintro e w18 ⟨rfl, hb⟩; have n0_ := Aside0.mk (Kd.R_below (by (with_reducible repeat (first | apply Kd.R_alloc | apply Kd.R_drewN | apply Kd.R_drew)); exact HO187.out) hb); have n1_ := Aside0.mk (below_step (by repeat (first | (with_reducible first | exact HB.out | apply below_alloc | apply pw_below_drewN | apply below_drew1) | exact HB.out)) hb); clear HO187; clear HB; have HO187 := n0_; have HB := n1_; clear n0_ n1_; (try clear hb); (try clear hb2); (try clear hk); (try clear hi)) | (go_at_call 17; (with_reducible refine (folkmootlaw08_num.calls t189 t190 _ A11.out).mono ?_); rintro e w' ⟨rfl, ⟨nd, rfl⟩⟩))
    first
    | (go_meet; case rel => exact ⟨_, (true), (by first | rfl | (rw [bl_gt] <;> rfl) | (simp; done) | (simp [*]; done)), H', ⟨by first | omega | exact Nat.le_refl _⟩, ⟨by (with_reducible repeat (first | apply Kd.R_alloc | apply Kd.R_drewN | apply Kd.R_drew)); exact HO187.out⟩, ⟨by repeat (first | (with_reducible first | exact HB.out | apply below_alloc | apply pw_below_drewN | apply below_drew1) | exact HB.out)⟩⟩)
    | (refine Met.intro ?_; go_step; (repeat apply Exists.intro); refine ⟨?_, ?_⟩; rotate_left; (focus (simp only [c12b0]; try rfl)); exact ⟨_, (true), (by first | rfl | (rw [bl_gt] <;> rfl) | (simp; done) | (simp [*]; done)), H', ⟨by first | omega | exact Nat.le_refl _⟩, ⟨by (with_reducible repeat (first | apply Kd.R_alloc | apply Kd.R_drewN | apply Kd.R_drew)); exact HO187.out⟩, ⟨by repeat (first | (with_reducible first | exact HB.out | apply below_alloc | apply pw_below_drewN | apply below_drew1) | exact HB.out)⟩⟩)
  ·replace c9 := Bool.eq_false_iff.mpr c9
   subst c9
   have H1 : (folkmootlaw08_TxnSees.j0 k a0 a1 l2 a3 y185 true) = some r := by rw [if_neg (show ¬ (false = true) by decide)] at H; exact H
   clear H
   have H := H1
   clear H1
   have H' := Aside0.mk H
   clear H
   obtain ⟨Ao19, co19, eo19⟩ := Kd.R_slice HO187.out
   subst eo19
   go_wp2_with (first | ((with_reducible refine gate_callee (f := 13) rfl ?_); refine goesL_ (some 28) rfl rfl Tryz.func13 (by kernel_rfl) rfl #[.slice Ao19 y185.length co19, .slice A2 l2.length c2] rfl (by (try simp only [List.map_toArray, List.map_cons, List.map_nil]); first | done | rfl | (simp only [List.length_drop, List.length_take]; rfl)) ?_; (with_reducible refine (folkmootlaw08_small.calls k _ _ y185 _ _ l2 false _ ?side1 ?side2 ?side3 ?side4 A8.out).mono ?_); (case side1 => repeat (first | exact (Kd.R_reads' HO187.out).2.2 | (with_reducible refine Kd.C_alloc ?_ _) | (with_reducible refine Kd.C_drewN ?_ _) | (with_reducible refine Kd.C_drew ?_))); (case side2 => exact (Kd.R_reads' HO187.out).2.1); (case side3 => repeat (first | exact (Kd.C_below HR2.out HB.out) | (with_reducible refine Kd.C_alloc ?_ _) | (with_reducible refine Kd.C_drewN ?_ _) | (with_reducible refine Kd.C_drew ?_))); (case side4 => exact HC2.out); rintro e w' ⟨rfl, ⟨nd, rfl⟩⟩; refine ⟨_, rfl, ?_⟩))
   go_meet
   case rel => exact ⟨_, (true), (by first | rfl | (rw [bl_gt] <;> rfl) | (simp; done) | (simp [*]; done)), H', ⟨by first | omega | exact Nat.le_refl _⟩, ⟨by (with_reducible repeat (first | apply Kd.R_alloc | apply Kd.R_drewN | apply Kd.R_drew)); exact HO187.out⟩, ⟨by repeat (first | (with_reducible first | exact HB.out | apply below_alloc | apply pw_below_drewN | apply below_drew1) | exact HB.out)⟩⟩
 case rest =>
  clear HC5
  try clear c1
  try clear c2
  try clear p2
  try clear c4
  try clear c7
  try clear c9
  try clear c12
  try clear c12b0
  try clear c12b1
  try clear c13
  obtain ⟨kq, x40_4, rfl, HA, HJ4, HO_9, HB⟩ := hcut
  cases kq with
  | zero => exact absurd HA.out (by simp [folkmootlaw08_TxnSees.j0])
  | succ kj4 =>
   have H := HA.out
   clear HA
   simp only [folkmootlaw08_TxnSees.j0] at H
   by_cases c20 : x40_4 = true
   ·subst c20
    have H1 : ((folkmootlaw08_live.f).bind fun t192 => (some t192)) = some r := by rw [if_pos rfl] at H; exact H
    clear H
    have H := H1
    clear H1
    replace H := Option.bind_eq_some_iff.mp H
    obtain ⟨t192, A210, H⟩ := H
    replace H : (some t192) = some r := H
    have A21 := Aside0.mk A210
    clear A210
    obtain rfl := Option.some.inj H
    go_wp2_with (first | ((with_reducible refine gate_callee (f := 14) rfl ?_); refine goesL_ (some 41) rfl rfl Tryz.func14 (by kernel_rfl) rfl #[] rfl (by (try simp only [List.map_toArray, List.map_cons, List.map_nil]); first | done | rfl | (simp only [List.length_drop, List.length_take]; rfl)) ?_; (with_reducible refine (folkmootlaw08_live.calls  t192 _ A21.out).mono ?_); rintro e w22 ⟨rfl, hb⟩; refine ⟨_, rfl, ?_⟩; have n0_ := Aside0.mk (Kd.R_below (by (with_reducible repeat (first | apply Kd.R_alloc | apply Kd.R_drewN | apply Kd.R_drew)); exact HO_9.out) hb); have n1_ := Aside0.mk (below_step (by repeat (first | (with_reducible first | exact HB.out | apply below_alloc | apply pw_below_drewN | apply below_drew1) | exact HB.out)) hb); clear HO_9; clear HB; have HO_9 := n0_; have HB := n1_; clear n0_ n1_; (try clear hb); (try clear hb2); (try clear hk); (try clear hi)))
    go_ret
    exact ⟨by first | rfl | (rw [bl_gt] <;> rfl) | (simp [errW_none, errW_some] <;> rfl) | (simp [*, errW_none, errW_some] <;> rfl), by repeat (first | (with_reducible first | exact HB.out | apply below_alloc | apply pw_below_drewN | apply below_drew1) | exact HB.out)⟩
   ·replace c20 := Bool.eq_false_iff.mpr c20
    subst c20
    have H1 : ((txn_Eval.f y185 l2).bind fun bt193 => (if (bt193.2.length : Int) = 5 then (if 0 < (bt193.2.length : Int) then (if ((rd_T65 bt193.2 0).f0 = true) then (if 1 < (bt193.2.length : Int) then (if ((rd_T65 bt193.2 1).f0 = true) then (if ((rd_T65 bt193.2 1).f1) = a1 then (if 2 < (bt193.2.length : Int) then (if ((rd_T65 bt193.2 2).f0 = true) then (if 3 < (bt193.2.length : Int) then (if (rd_T65 bt193.2 3).f0 = true then (folkmootlaw08_TxnSees.j1 kj4 a0 l2 a3 bt193.1 bt193.2 true) else (if ((rd_T65 bt193.2 3).f1) = 0 then (if (bt193.1.length : Int) = 1 then (if 0 < (bt193.1.length : Int) then (folkmootlaw08_TxnSees.j1 kj4 a0 l2 a3 bt193.1 bt193.2 (!((rd_T69 bt193.1 0).f2))) else (none)) else (folkmootlaw08_TxnSees.j1 kj4 a0 l2 a3 bt193.1 bt193.2 true)) else (folkmootlaw08_TxnSees.j1 kj4 a0 l2 a3 bt193.1 bt193.2 true))) else (none)) else (folkmootlaw08_TxnSees.j1 kj4 a0 l2 a3 bt193.1 bt193.2 true)) else (none)) else (folkmootlaw08_TxnSees.j1 kj4 a0 l2 a3 bt193.1 bt193.2 true)) else (folkmootlaw08_TxnSees.j1 kj4 a0 l2 a3 bt193.1 bt193.2 true)) else (none)) else (folkmootlaw08_TxnSees.j1 kj4 a0 l2 a3 bt193.1 bt193.2 true)) else (none)) else (folkmootlaw08_TxnSees.j1 kj4 a0 l2 a3 bt193.1 bt193.2 true))) = some r := by rw [if_neg (show ¬ (false = true) by decide)] at H; exact H
    clear H
    have H := H1
    clear H1
    replace H := Option.bind_eq_some_iff.mp H
    obtain ⟨⟨t193, t194⟩, A230, H⟩ := H
    replace H : (if (t194.length : Int) = 5 then (if 0 < (t194.length : Int) then (if ((rd_T65 t194 0).f0 = true) then (if 1 < (t194.length : Int) then (if ((rd_T65 t194 1).f0 = true) then (if ((rd_T65 t194 1).f1) = a1 then (if 2 < (t194.length : Int) then (if ((rd_T65 t194 2).f0 = true) then (if 3 < (t194.length : Int) then (if (rd_T65 t194 3).f0 = true then (folkmootlaw08_TxnSees.j1 kj4 a0 l2 a3 t193 t194 true) else (if ((rd_T65 t194 3).f1) = 0 then (if (t193.length : Int) = 1 then (if 0 < (t193.length : Int) then (folkmootlaw08_TxnSees.j1 kj4 a0 l2 a3 t193 t194 (!((rd_T69 t193 0).f2))) else (none)) else (folkmootlaw08_TxnSees.j1 kj4 a0 l2 a3 t193 t194 true)) else (folkmootlaw08_TxnSees.j1 kj4 a0 l2 a3 t193 t194 true))) else (none)) else (folkmootlaw08_TxnSees.j1 kj4 a0 l2 a3 t193 t194 true)) else (none)) else (folkmootlaw08_TxnSees.j1 kj4 a0 l2 a3 t193 t194 true)) else (folkmootlaw08_TxnSees.j1 kj4 a0 l2 a3 t193 t194 true)) else (none)) else (folkmootlaw08_TxnSees.j1 kj4 a0 l2 a3 t193 t194 true)) else (none)) else (folkmootlaw08_TxnSees.j1 kj4 a0 l2 a3 t193 t194 true)) = some r := H
    have A23 := Aside0.mk A230
    clear A230
    have HC24 := Aside0.mk H
    clear H
    obtain ⟨Ao25, co25, eo25⟩ := Kd.R_slice HO_9.out
    subst eo25
    go_upto_region 5 with (first | ((with_reducible refine gate_callee (f := 26) rfl ?_); refine goesL_ (some 45) rfl rfl Tryz.func26 (by kernel_rfl) rfl #[.slice Ao25 y185.length co25, .slice A2 l2.length c2] rfl (by (try simp only [List.map_toArray, List.map_cons, List.map_nil]); first | done | rfl | (simp only [List.length_drop, List.length_take]; rfl)) ?_; (with_reducible refine (txn_Eval.calls _ _ y185 _ _ l2 t193 t194 _ ?side1 ?side2 ?side3 ?side4 A23.out).mono ?_); (case side1 => repeat (first | exact (Kd.R_reads' HO_9.out).2.2 | (with_reducible refine Kd.C_alloc ?_ _) | (with_reducible refine Kd.C_drewN ?_ _) | (with_reducible refine Kd.C_drew ?_))); (case side2 => exact (Kd.R_reads' HO_9.out).2.1); (case side3 => repeat (first | exact (Kd.C_below HR2.out HB.out) | (with_reducible refine Kd.C_alloc ?_ _) | (with_reducible refine Kd.C_drewN ?_ _) | (with_reducible refine Kd.C_drew ?_))); (case side4 => exact HC2.out); rintro e w26 ⟨v195, v197, rfl, ho0, ho1, hb⟩; refine ⟨_, rfl, ?_⟩; have n0_ := Aside0.mk (Kd.R_below (by (with_reducible repeat (first | apply Kd.R_alloc | apply Kd.R_drewN | apply Kd.R_drew)); exact HO_9.out) hb); have n1_ := Aside0.mk (Kd.R_lower ho0 (below_size (by repeat (first | (with_reducible first | exact HB.out | apply below_alloc | apply pw_below_drewN | apply below_drew1) | exact HB.out)))); have n2_ := Aside0.mk (Kd.S_lower ho1 (below_size (by repeat (first | (with_reducible first | exact HB.out | apply below_alloc | apply pw_below_drewN | apply below_drew1) | exact HB.out)))); have n3_ := Aside0.mk (below_step (by repeat (first | (with_reducible first | exact HB.out | apply below_alloc | apply pw_below_drewN | apply below_drew1) | exact HB.out)) hb); clear HO_9; clear HB; have HO_9 := n0_; have HO196 := n1_; have HO198 := n2_; have HB := n3_; clear n0_ n1_ n2_ n3_; (try clear hb); (try clear hb2); (try clear hk); (try clear hi); (try clear ho0); (try clear ho1)))
    (try simp only [Act.put, List.setIfInBounds_toArray, List.set_cons_zero, List.set_cons_succ])
    go_cut [104] (fun v104 wc => ∃ (kq : Nat) (x104_23 : Bool), v104 = .bool x104_23 ∧ Aside0 (folkmootlaw08_TxnSees.j1 kq a0 l2 a3 t193 t194 x104_23 = some r) ∧ Aside0 (kq ≤ kj4) ∧ Aside0 (Kd.R k69 69 wc w.heap.size (fun _ => True) v195 t193) ∧ Aside0 (Kd.S k65 65 wc w.heap.size (fun _ => True) v197 t194) ∧ Aside0 (Below w.heap.size w wc))
    case first =>
     have H := HC24.out
     clear HC24
     by_cases c27 : (t194.length : Int) = 5
     ·rw [if_pos c27] at H
      have c27b0 : ((t194.length : Int) == 5) = true := beq_iff_eq.mpr c27
      have c27b1 : ((t194.length : Int) != 5) = false := bne_eq_false_iff_eq.mpr c27
      clear c27
      (first | rw [c27b0] | (simp only [i64_w, i32_w]; rw [c27b0]) | skip)
      by_cases c28 : 0 < (t194.length : Int)
      ·rw [if_pos c28] at H
       have c28b0 : decide (0 < (t194.length : Int)) = true := decide_eq_true c28
       have c28b1 : decide (0 < t194.length) = true := decide_eq_true (by omega)
       clear c28
       obtain ⟨bq29, hbq29⟩ : ∃ b_ : Bool, b_ = ((rd_T65 t194 0).f0) := ⟨_, rfl⟩
       replace H : (if (bq29 = true) then (if 1 < (t194.length : Int) then (if ((rd_T65 t194 1).f0 = true) then (if ((rd_T65 t194 1).f1) = a1 then (if 2 < (t194.length : Int) then (if ((rd_T65 t194 2).f0 = true) then (if 3 < (t194.length : Int) then (if (rd_T65 t194 3).f0 = true then (folkmootlaw08_TxnSees.j1 kj4 a0 l2 a3 t193 t194 true) else (if ((rd_T65 t194 3).f1) = 0 then (if (t193.length : Int) = 1 then (if 0 < (t193.length : Int) then (folkmootlaw08_TxnSees.j1 kj4 a0 l2 a3 t193 t194 (!((rd_T69 t193 0).f2))) else (none)) else (folkmootlaw08_TxnSees.j1 kj4 a0 l2 a3 t193 t194 true)) else (folkmootlaw08_TxnSees.j1 kj4 a0 l2 a3 t193 t194 true))) else (none)) else (folkmootlaw08_TxnSees.j1 kj4 a0 l2 a3 t193 t194 true)) else (none)) else (folkmootlaw08_TxnSees.j1 kj4 a0 l2 a3 t193 t194 true)) else (folkmootlaw08_TxnSees.j1 kj4 a0 l2 a3 t193 t194 true)) else (none)) else (folkmootlaw08_TxnSees.j1 kj4 a0 l2 a3 t193 t194 true)) = some r := by rw [← hbq29] at H; exact H
       have Nbq29 := Aside0.mk hbq29
       clear hbq29
       by_cases c30 : (bq29 = true)
       ·subst c30
        have H1 : (if 1 < (t194.length : Int) then (if ((rd_T65 t194 1).f0 = true) then (if ((rd_T65 t194 1).f1) = a1 then (if 2 < (t194.length : Int) then (if ((rd_T65 t194 2).f0 = true) then (if 3 < (t194.length : Int) then (if (rd_T65 t194 3).f0 = true then (folkmootlaw08_TxnSees.j1 kj4 a0 l2 a3 t193 t194 true) else (if ((rd_T65 t194 3).f1) = 0 then (if (t193.length : Int) = 1 then (if 0 < (t193.length : Int) then (folkmootlaw08_TxnSees.j1 kj4 a0 l2 a3 t193 t194 (!((rd_T69 t193 0).f2))) else (none)) else (folkmootlaw08_TxnSees.j1 kj4 a0 l2 a3 t193 t194 true)) else (folkmootlaw08_TxnSees.j1 kj4 a0 l2 a3 t193 t194 true))) else (none)) else (folkmootlaw08_TxnSees.j1 kj4 a0 l2 a3 t193 t194 true)) else (none)) else (folkmootlaw08_TxnSees.j1 kj4 a0 l2 a3 t193 t194 true)) else (folkmootlaw08_TxnSees.j1 kj4 a0 l2 a3 t193 t194 true)) else (none)) = some r := by rw [if_pos rfl] at H; exact H
        clear H
        have H := H1
        clear H1
        by_cases c31 : 1 < (t194.length : Int)
        ·rw [if_pos c31] at H
         have c31b0 : decide (1 < (t194.length : Int)) = true := decide_eq_true c31
         have c31b1 : decide (1 < t194.length) = true := decide_eq_true (by omega)
         clear c31
         obtain ⟨bq32, hbq32⟩ : ∃ b_ : Bool, b_ = ((rd_T65 t194 1).f0) := ⟨_, rfl⟩
         replace H : (if (bq32 = true) then (if ((rd_T65 t194 1).f1) = a1 then (if 2 < (t194.length : Int) then (if ((rd_T65 t194 2).f0 = true) then (if 3 < (t194.length : Int) then (if (rd_T65 t194 3).f0 = true then (folkmootlaw08_TxnSees.j1 kj4 a0 l2 a3 t193 t194 true) else (if ((rd_T65 t194 3).f1) = 0 then (if (t193.length : Int) = 1 then (if 0 < (t193.length : Int) then (folkmootlaw08_TxnSees.j1 kj4 a0 l2 a3 t193 t194 (!((rd_T69 t193 0).f2))) else (none)) else (folkmootlaw08_TxnSees.j1 kj4 a0 l2 a3 t193 t194 true)) else (folkmootlaw08_TxnSees.j1 kj4 a0 l2 a3 t193 t194 true))) else (none)) else (folkmootlaw08_TxnSees.j1 kj4 a0 l2 a3 t193 t194 true)) else (none)) else (folkmootlaw08_TxnSees.j1 kj4 a0 l2 a3 t193 t194 true)) else (folkmootlaw08_TxnSees.j1 kj4 a0 l2 a3 t193 t194 true)) = some r := by rw [← hbq32] at H; exact H
         have Nbq32 := Aside0.mk hbq32
         clear hbq32
         by_cases c33 : (bq32 = true)
         ·subst c33
          have H1 : (if ((rd_T65 t194 1).f1) = a1 then (if 2 < (t194.length : Int) then (if ((rd_T65 t194 2).f0 = true) then (if 3 < (t194.length : Int) then (if (rd_T65 t194 3).f0 = true then (folkmootlaw08_TxnSees.j1 kj4 a0 l2 a3 t193 t194 true) else (if ((rd_T65 t194 3).f1) = 0 then (if (t193.length : Int) = 1 then (if 0 < (t193.length : Int) then (folkmootlaw08_TxnSees.j1 kj4 a0 l2 a3 t193 t194 (!((rd_T69 t193 0).f2))) else (none)) else (folkmootlaw08_TxnSees.j1 kj4 a0 l2 a3 t193 t194 true)) else (folkmootlaw08_TxnSees.j1 kj4 a0 l2 a3 t193 t194 true))) else (none)) else (folkmootlaw08_TxnSees.j1 kj4 a0 l2 a3 t193 t194 true)) else (none)) else (folkmootlaw08_TxnSees.j1 kj4 a0 l2 a3 t193 t194 true)) = some r := by rw [if_pos rfl] at H; exact H
          clear H
          have H := H1
          clear H1
          by_cases c34 : ((rd_T65 t194 1).f1) = a1
          ·rw [if_pos c34] at H
           have c34b0 : (((rd_T65 t194 1).f1) == a1) = true := beq_iff_eq.mpr c34
           have c34b1 : (((rd_T65 t194 1).f1) != a1) = false := bne_eq_false_iff_eq.mpr c34
           clear c34
           by_cases c35 : 2 < (t194.length : Int)
           ·rw [if_pos c35] at H
            have c35b0 : decide (2 < (t194.length : Int)) = true := decide_eq_true c35
            have c35b1 : decide (2 < t194.length) = true := decide_eq_true (by omega)
            clear c35
            obtain ⟨bq36, hbq36⟩ : ∃ b_ : Bool, b_ = ((rd_T65 t194 2).f0) := ⟨_, rfl⟩
            replace H : (if (bq36 = true) then (if 3 < (t194.length : Int) then (if (rd_T65 t194 3).f0 = true then (folkmootlaw08_TxnSees.j1 kj4 a0 l2 a3 t193 t194 true) else (if ((rd_T65 t194 3).f1) = 0 then (if (t193.length : Int) = 1 then (if 0 < (t193.length : Int) then (folkmootlaw08_TxnSees.j1 kj4 a0 l2 a3 t193 t194 (!((rd_T69 t193 0).f2))) else (none)) else (folkmootlaw08_TxnSees.j1 kj4 a0 l2 a3 t193 t194 true)) else (folkmootlaw08_TxnSees.j1 kj4 a0 l2 a3 t193 t194 true))) else (none)) else (folkmootlaw08_TxnSees.j1 kj4 a0 l2 a3 t193 t194 true)) = some r := by rw [← hbq36] at H; exact H
            have Nbq36 := Aside0.mk hbq36
            clear hbq36
            by_cases c37 : (bq36 = true)
            ·subst c37
             have H1 : (if 3 < (t194.length : Int) then (if (rd_T65 t194 3).f0 = true then (folkmootlaw08_TxnSees.j1 kj4 a0 l2 a3 t193 t194 true) else (if ((rd_T65 t194 3).f1) = 0 then (if (t193.length : Int) = 1 then (if 0 < (t193.length : Int) then (folkmootlaw08_TxnSees.j1 kj4 a0 l2 a3 t193 t194 (!((rd_T69 t193 0).f2))) else (none)) else (folkmootlaw08_TxnSees.j1 kj4 a0 l2 a3 t193 t194 true)) else (folkmootlaw08_TxnSees.j1 kj4 a0 l2 a3 t193 t194 true))) else (none)) = some r := by rw [if_pos rfl] at H; exact H
             clear H
             have H := H1
             clear H1
             by_cases c38 : 3 < (t194.length : Int)
             ·rw [if_pos c38] at H
              have c38b0 : decide (3 < (t194.length : Int)) = true := decide_eq_true c38
              have c38b1 : decide (3 < t194.length) = true := decide_eq_true (by omega)
              clear c38
              obtain ⟨bq39, hbq39⟩ : ∃ b_ : Bool, b_ = ((rd_T65 t194 3).f0) := ⟨_, rfl⟩
              replace H : (if bq39 = true then (folkmootlaw08_TxnSees.j1 kj4 a0 l2 a3 t193 t194 true) else (if ((rd_T65 t194 3).f1) = 0 then (if (t193.length : Int) = 1 then (if 0 < (t193.length : Int) then (folkmootlaw08_TxnSees.j1 kj4 a0 l2 a3 t193 t194 (!((rd_T69 t193 0).f2))) else (none)) else (folkmootlaw08_TxnSees.j1 kj4 a0 l2 a3 t193 t194 true)) else (folkmootlaw08_TxnSees.j1 kj4 a0 l2 a3 t193 t194 true))) = some r := by rw [← hbq39] at H; exact H
              have Nbq39 := Aside0.mk hbq39
              clear hbq39
              by_cases c40 : bq39 = true
              ·subst c40
               have H1 : (folkmootlaw08_TxnSees.j1 kj4 a0 l2 a3 t193 t194 true) = some r := by rw [if_pos rfl] at H; exact H
               clear H
               have H := H1
               clear H1
               have H' := Aside0.mk H
               clear H
               obtain ⟨Ao41, co41, eo41⟩ := Kd.S_slice HO198.out
               subst eo41
               have p199 : 0 ≤ (0 : Int) := (by omega)
               have q199 : 0 < (t194.length : Int) := of_decide_eq_true (by first | (with_reducible assumption) | assumption)
               obtain ⟨ad199, A199_2, c199_2, e199, hx199_0, hx199_1, hx199_2, hl199_2, hi199_2⟩ := at_T65 (Kd.S_reads' HO198.out).2.2 0 p199 q199
               (try rw [← Nbq29.out] at hx199_0)
               (try rw [← Nbq32.out] at hx199_0)
               (try rw [← Nbq36.out] at hx199_0)
               (try rw [← Nbq39.out] at hx199_0)
               cases e199
               obtain ⟨ce199, hce199, hMe199, hcc199⟩ := Kd.S_get HO198.out z65 0 p199 (by first | exact q199 | exact of_decide_eq_true (by first | (with_reducible assumption) | assumption) | (have e_ := (Kd.S_reads' HO198.out).1; omega))
               obtain ⟨ve199_2, rfl, ge199_2⟩ := k65_openM hMe199
               have hv199_2 := hcc199 2 _ rfl
               rw [add_field _ _ 2 (by omega)] at hv199_2
               replace hv199_2 := Option.some.inj (hv199_2.symm.trans hx199_2)
               rw [hv199_2] at ge199_2
               have HL199_2 := Aside0.mk (show Kd.R k61 61 _ _ _ _ ((rd_T65 t194 0).f2) from ge199_2)
               clear hv199_2 ge199_2
               clear hcc199 hce199
               have qi199 : (0 < t194.length) = True := eq_true (by omega)
               (try rw [show ((0 : Int)).toNat = 0 from rfl] at hx199_0)
               (try rw [show 0 * 3 = 0 from rfl] at hx199_0)
               (try rw [Addr.add_zero'] at hx199_0)
               (try rw [show ((0 : Int)).toNat = 0 from rfl] at hx199_1)
               (try rw [show 0 * 3 = 0 from rfl] at hx199_1)
               (try rw [Addr.add_zero'] at hx199_1)
               (try rw [show ((0 : Int)).toNat = 0 from rfl] at hx199_2)
               (try rw [show 0 * 3 = 0 from rfl] at hx199_2)
               (try rw [Addr.add_zero'] at hx199_2)
               have HR199_2 := Aside0.mk hi199_2
               have HC199_2 := Aside0.mk hl199_2
               clear hi199_2 hl199_2
               replace p199 := eq_true p199
               replace q199 := eq_true q199
               have p200 : 0 ≤ (1 : Int) := (by omega)
               have q200 : 1 < (t194.length : Int) := of_decide_eq_true (by first | (with_reducible assumption) | assumption)
               obtain ⟨ad200, A200_2, c200_2, e200, hx200_0, hx200_1, hx200_2, hl200_2, hi200_2⟩ := at_T65 (Kd.S_reads' HO198.out).2.2 1 p200 q200
               (try rw [← Nbq29.out] at hx200_0)
               (try rw [← Nbq32.out] at hx200_0)
               (try rw [← Nbq36.out] at hx200_0)
               (try rw [← Nbq39.out] at hx200_0)
               obtain rfl : ad199 = ad200 := (by injection e200)
               obtain ⟨ce200, hce200, hMe200, hcc200⟩ := Kd.S_get HO198.out z65 1 p200 (by first | exact q200 | exact of_decide_eq_true (by first | (with_reducible assumption) | assumption) | (have e_ := (Kd.S_reads' HO198.out).1; omega))
               obtain ⟨ve200_2, rfl, ge200_2⟩ := k65_openM hMe200
               have hv200_2 := hcc200 2 _ rfl
               rw [add_field _ _ 2 (by omega)] at hv200_2
               replace hv200_2 := Option.some.inj (hv200_2.symm.trans hx200_2)
               rw [hv200_2] at ge200_2
               have HL200_2 := Aside0.mk (show Kd.R k61 61 _ _ _ _ ((rd_T65 t194 1).f2) from ge200_2)
               clear hv200_2 ge200_2
               clear hcc200 hce200
               (try simp only [show (1 : Int).toNat = 1 from rfl, Nat.reduceMul, Nat.reduceEqDiff, Go.Addr.add, ↓reduceIte] at hx200_0)
               (try simp only [show (1 : Int).toNat = 1 from rfl, Nat.reduceMul, Nat.reduceEqDiff, Go.Addr.add, ↓reduceIte] at hx200_1)
               (try simp only [show (1 : Int).toNat = 1 from rfl, Nat.reduceMul, Nat.reduceEqDiff, Go.Addr.add, ↓reduceIte] at hx200_2)
               have qi200 : (1 < t194.length) = True := eq_true (by omega)
               (try rw [show ((1 : Int)).toNat = 1 from rfl] at hx200_0)
               (try rw [show 1 * 3 = 3 from rfl] at hx200_0)
               (try rw [show ((1 : Int)).toNat = 1 from rfl] at hx200_1)
               (try rw [show 1 * 3 = 3 from rfl] at hx200_1)
               (try rw [show ((1 : Int)).toNat = 1 from rfl] at hx200_2)
               (try rw [show 1 * 3 = 3 from rfl] at hx200_2)
               have HR200_2 := Aside0.mk hi200_2
               have HC200_2 := Aside0.mk hl200_2
               clear hi200_2 hl200_2
               replace p200 := eq_true p200
               replace q200 := eq_true q200
               have p201 : 0 ≤ (1 : Int) := (by omega)
               have q201 : 1 < (t194.length : Int) := of_decide_eq_true (by first | (with_reducible assumption) | assumption)
               obtain ⟨ad201, A201_2, c201_2, e201, hx201_0, hx201_1, hx201_2, hl201_2, hi201_2⟩ := at_T65 (Kd.S_reads' HO198.out).2.2 1 p201 q201
               (try rw [← Nbq29.out] at hx201_0)
               (try rw [← Nbq32.out] at hx201_0)
               (try rw [← Nbq36.out] at hx201_0)
               (try rw [← Nbq39.out] at hx201_0)
               obtain rfl : ad199 = ad201 := (by injection e201)
               obtain ⟨ce201, hce201, hMe201, hcc201⟩ := Kd.S_get HO198.out z65 1 p201 (by first | exact q201 | exact of_decide_eq_true (by first | (with_reducible assumption) | assumption) | (have e_ := (Kd.S_reads' HO198.out).1; omega))
               obtain ⟨ve201_2, rfl, ge201_2⟩ := k65_openM hMe201
               have hv201_2 := hcc201 2 _ rfl
               rw [add_field _ _ 2 (by omega)] at hv201_2
               replace hv201_2 := Option.some.inj (hv201_2.symm.trans hx201_2)
               rw [hv201_2] at ge201_2
               have HL201_2 := Aside0.mk (show Kd.R k61 61 _ _ _ _ ((rd_T65 t194 1).f2) from ge201_2)
               clear hv201_2 ge201_2
               clear hcc201 hce201
               (try simp only [show (1 : Int).toNat = 1 from rfl, Nat.reduceMul, Nat.reduceEqDiff, Go.Addr.add, ↓reduceIte] at hx201_0)
               (try simp only [show (1 : Int).toNat = 1 from rfl, Nat.reduceMul, Nat.reduceEqDiff, Go.Addr.add, ↓reduceIte] at hx201_1)
               (try simp only [show (1 : Int).toNat = 1 from rfl, Nat.reduceMul, Nat.reduceEqDiff, Go.Addr.add, ↓reduceIte] at hx201_2)
               have qi201 : (1 < t194.length) = True := eq_true (by omega)
               (try rw [show ((1 : Int)).toNat = 1 from rfl] at hx201_0)
               (try rw [show 1 * 3 = 3 from rfl] at hx201_0)
               (try rw [show ((1 : Int)).toNat = 1 from rfl] at hx201_1)
               (try rw [show 1 * 3 = 3 from rfl] at hx201_1)
               (try rw [show ((1 : Int)).toNat = 1 from rfl] at hx201_2)
               (try rw [show 1 * 3 = 3 from rfl] at hx201_2)
               have HR201_2 := Aside0.mk hi201_2
               have HC201_2 := Aside0.mk hl201_2
               clear hi201_2 hl201_2
               replace p201 := eq_true p201
               replace q201 := eq_true q201
               have ea_ := Option.some.inj (hx200_2.symm.trans hx201_2)
               injection ea_ with ea_ en_ ec_
               subst ea_
               subst ec_
               clear en_
               have p202 : 0 ≤ (2 : Int) := (by omega)
               have q202 : 2 < (t194.length : Int) := of_decide_eq_true (by first | (with_reducible assumption) | assumption)
               obtain ⟨ad202, A202_2, c202_2, e202, hx202_0, hx202_1, hx202_2, hl202_2, hi202_2⟩ := at_T65 (Kd.S_reads' HO198.out).2.2 2 p202 q202
               (try rw [← Nbq29.out] at hx202_0)
               (try rw [← Nbq32.out] at hx202_0)
               (try rw [← Nbq36.out] at hx202_0)
               (try rw [← Nbq39.out] at hx202_0)
               obtain rfl : ad199 = ad202 := (by injection e202)
               obtain ⟨ce202, hce202, hMe202, hcc202⟩ := Kd.S_get HO198.out z65 2 p202 (by first | exact q202 | exact of_decide_eq_true (by first | (with_reducible assumption) | assumption) | (have e_ := (Kd.S_reads' HO198.out).1; omega))
               obtain ⟨ve202_2, rfl, ge202_2⟩ := k65_openM hMe202
               have hv202_2 := hcc202 2 _ rfl
               rw [add_field _ _ 2 (by omega)] at hv202_2
               replace hv202_2 := Option.some.inj (hv202_2.symm.trans hx202_2)
               rw [hv202_2] at ge202_2
               have HL202_2 := Aside0.mk (show Kd.R k61 61 _ _ _ _ ((rd_T65 t194 2).f2) from ge202_2)
               clear hv202_2 ge202_2
               clear hcc202 hce202
               (try simp only [show (2 : Int).toNat = 2 from rfl, Nat.reduceMul, Nat.reduceEqDiff, Go.Addr.add, ↓reduceIte] at hx202_0)
               (try simp only [show (2 : Int).toNat = 2 from rfl, Nat.reduceMul, Nat.reduceEqDiff, Go.Addr.add, ↓reduceIte] at hx202_1)
               (try simp only [show (2 : Int).toNat = 2 from rfl, Nat.reduceMul, Nat.reduceEqDiff, Go.Addr.add, ↓reduceIte] at hx202_2)
               have qi202 : (2 < t194.length) = True := eq_true (by omega)
               (try rw [show ((2 : Int)).toNat = 2 from rfl] at hx202_0)
               (try rw [show 2 * 3 = 6 from rfl] at hx202_0)
               (try rw [show ((2 : Int)).toNat = 2 from rfl] at hx202_1)
               (try rw [show 2 * 3 = 6 from rfl] at hx202_1)
               (try rw [show ((2 : Int)).toNat = 2 from rfl] at hx202_2)
               (try rw [show 2 * 3 = 6 from rfl] at hx202_2)
               have HR202_2 := Aside0.mk hi202_2
               have HC202_2 := Aside0.mk hl202_2
               clear hi202_2 hl202_2
               replace p202 := eq_true p202
               replace q202 := eq_true q202
               have p203 : 0 ≤ (3 : Int) := (by omega)
               have q203 : 3 < (t194.length : Int) := of_decide_eq_true (by first | (with_reducible assumption) | assumption)
               obtain ⟨ad203, A203_2, c203_2, e203, hx203_0, hx203_1, hx203_2, hl203_2, hi203_2⟩ := at_T65 (Kd.S_reads' HO198.out).2.2 3 p203 q203
               (try rw [← Nbq29.out] at hx203_0)
               (try rw [← Nbq32.out] at hx203_0)
               (try rw [← Nbq36.out] at hx203_0)
               (try rw [← Nbq39.out] at hx203_0)
               obtain rfl : ad199 = ad203 := (by injection e203)
               obtain ⟨ce203, hce203, hMe203, hcc203⟩ := Kd.S_get HO198.out z65 3 p203 (by first | exact q203 | exact of_decide_eq_true (by first | (with_reducible assumption) | assumption) | (have e_ := (Kd.S_reads' HO198.out).1; omega))
               obtain ⟨ve203_2, rfl, ge203_2⟩ := k65_openM hMe203
               have hv203_2 := hcc203 2 _ rfl
               rw [add_field _ _ 2 (by omega)] at hv203_2
               replace hv203_2 := Option.some.inj (hv203_2.symm.trans hx203_2)
               rw [hv203_2] at ge203_2
               have HL203_2 := Aside0.mk (show Kd.R k61 61 _ _ _ _ ((rd_T65 t194 3).f2) from ge203_2)
               clear hv203_2 ge203_2
               clear hcc203 hce203
               (try simp only [show (3 : Int).toNat = 3 from rfl, Nat.reduceMul, Nat.reduceEqDiff, Go.Addr.add, ↓reduceIte] at hx203_0)
               (try simp only [show (3 : Int).toNat = 3 from rfl, Nat.reduceMul, Nat.reduceEqDiff, Go.Addr.add, ↓reduceIte] at hx203_1)
               (try simp only [show (3 : Int).toNat = 3 from rfl, Nat.reduceMul, Nat.reduceEqDiff, Go.Addr.add, ↓reduceIte] at hx203_2)
               have qi203 : (3 < t194.length) = True := eq_true (by omega)
               (try rw [show ((3 : Int)).toNat = 3 from rfl] at hx203_0)
               (try rw [show 3 * 3 = 9 from rfl] at hx203_0)
               (try rw [show ((3 : Int)).toNat = 3 from rfl] at hx203_1)
               (try rw [show 3 * 3 = 9 from rfl] at hx203_1)
               (try rw [show ((3 : Int)).toNat = 3 from rfl] at hx203_2)
               (try rw [show 3 * 3 = 9 from rfl] at hx203_2)
               have HR203_2 := Aside0.mk hi203_2
               have HC203_2 := Aside0.mk hl203_2
               clear hi203_2 hl203_2
               replace p203 := eq_true p203
               replace q203 := eq_true q203
               go_wp2
               first
               | (go_meet; case rel => exact ⟨_, (true), (by first | rfl | (rw [bl_gt] <;> rfl) | (simp; done) | (simp [*]; done)), H', ⟨by have := HJ4.out; first | omega | exact Nat.le_refl _⟩, ⟨by (with_reducible repeat (first | apply Kd.R_alloc | apply Kd.R_drewN | apply Kd.R_drew)); exact HO196.out⟩, ⟨by (with_reducible repeat (first | apply Kd.S_alloc | apply Kd.S_drewN | apply Kd.S_drew)); exact HO198.out⟩, ⟨by repeat (first | (with_reducible first | exact HB.out | apply below_alloc | apply pw_below_drewN | apply below_drew1) | exact HB.out)⟩⟩)
               | (refine Met.intro ?_; go_step; (repeat apply Exists.intro); refine ⟨?_, ?_⟩; rotate_left; (focus (simp only [c27b0, c34b0]; try rfl)); exact ⟨_, (true), (by first | rfl | (rw [bl_gt] <;> rfl) | (simp; done) | (simp [*]; done)), H', ⟨by have := HJ4.out; first | omega | exact Nat.le_refl _⟩, ⟨by (with_reducible repeat (first | apply Kd.R_alloc | apply Kd.R_drewN | apply Kd.R_drew)); exact HO196.out⟩, ⟨by (with_reducible repeat (first | apply Kd.S_alloc | apply Kd.S_drewN | apply Kd.S_drew)); exact HO198.out⟩, ⟨by repeat (first | (with_reducible first | exact HB.out | apply below_alloc | apply pw_below_drewN | apply below_drew1) | exact HB.out)⟩⟩)
              ·replace c40 := Bool.eq_false_iff.mpr c40
               subst c40
               have H1 : (if ((rd_T65 t194 3).f1) = 0 then (if (t193.length : Int) = 1 then (if 0 < (t193.length : Int) then (folkmootlaw08_TxnSees.j1 kj4 a0 l2 a3 t193 t194 (!((rd_T69 t193 0).f2))) else (none)) else (folkmootlaw08_TxnSees.j1 kj4 a0 l2 a3 t193 t194 true)) else (folkmootlaw08_TxnSees.j1 kj4 a0 l2 a3 t193 t194 true)) = some r := by rw [if_neg (show ¬ (false = true) by decide)] at H; exact H
               clear H
               have H := H1
               clear H1
               by_cases c42 : ((rd_T65 t194 3).f1) = 0
               ·rw [if_pos c42] at H
                have c42b0 : (((rd_T65 t194 3).f1) == 0) = true := beq_iff_eq.mpr c42
                have c42b1 : (((rd_T65 t194 3).f1) != 0) = false := bne_eq_false_iff_eq.mpr c42
                clear c42
                by_cases c43 : (t193.length : Int) = 1
                ·rw [if_pos c43] at H
                 have c43b0 : ((t193.length : Int) == 1) = true := beq_iff_eq.mpr c43
                 have c43b1 : ((t193.length : Int) != 1) = false := bne_eq_false_iff_eq.mpr c43
                 clear c43
                 by_cases c44 : 0 < (t193.length : Int)
                 ·rw [if_pos c44] at H
                  have c44b0 : decide (0 < (t193.length : Int)) = true := decide_eq_true c44
                  have c44b1 : decide (0 < t193.length) = true := decide_eq_true (by omega)
                  clear c44
                  have H' := Aside0.mk H
                  clear H
                  obtain ⟨Ao45, co45, eo45⟩ := Kd.S_slice HO198.out
                  subst eo45
                  have p199 : 0 ≤ (0 : Int) := (by omega)
                  have q199 : 0 < (t194.length : Int) := of_decide_eq_true (by first | (with_reducible assumption) | assumption)
                  obtain ⟨ad199, A199_2, c199_2, e199, hx199_0, hx199_1, hx199_2, hl199_2, hi199_2⟩ := at_T65 (Kd.S_reads' HO198.out).2.2 0 p199 q199
                  (try rw [← Nbq29.out] at hx199_0)
                  (try rw [← Nbq32.out] at hx199_0)
                  (try rw [← Nbq36.out] at hx199_0)
                  (try rw [← Nbq39.out] at hx199_0)
                  cases e199
                  obtain ⟨ce199, hce199, hMe199, hcc199⟩ := Kd.S_get HO198.out z65 0 p199 (by first | exact q199 | exact of_decide_eq_true (by first | (with_reducible assumption) | assumption) | (have e_ := (Kd.S_reads' HO198.out).1; omega))
                  obtain ⟨ve199_2, rfl, ge199_2⟩ := k65_openM hMe199
                  have hv199_2 := hcc199 2 _ rfl
                  rw [add_field _ _ 2 (by omega)] at hv199_2
                  replace hv199_2 := Option.some.inj (hv199_2.symm.trans hx199_2)
                  rw [hv199_2] at ge199_2
                  have HL199_2 := Aside0.mk (show Kd.R k61 61 _ _ _ _ ((rd_T65 t194 0).f2) from ge199_2)
                  clear hv199_2 ge199_2
                  clear hcc199 hce199
                  have qi199 : (0 < t194.length) = True := eq_true (by omega)
                  (try rw [show ((0 : Int)).toNat = 0 from rfl] at hx199_0)
                  (try rw [show 0 * 3 = 0 from rfl] at hx199_0)
                  (try rw [Addr.add_zero'] at hx199_0)
                  (try rw [show ((0 : Int)).toNat = 0 from rfl] at hx199_1)
                  (try rw [show 0 * 3 = 0 from rfl] at hx199_1)
                  (try rw [Addr.add_zero'] at hx199_1)
                  (try rw [show ((0 : Int)).toNat = 0 from rfl] at hx199_2)
                  (try rw [show 0 * 3 = 0 from rfl] at hx199_2)
                  (try rw [Addr.add_zero'] at hx199_2)
                  have HR199_2 := Aside0.mk hi199_2
                  have HC199_2 := Aside0.mk hl199_2
                  clear hi199_2 hl199_2
                  replace p199 := eq_true p199
                  replace q199 := eq_true q199
                  have p200 : 0 ≤ (1 : Int) := (by omega)
                  have q200 : 1 < (t194.length : Int) := of_decide_eq_true (by first | (with_reducible assumption) | assumption)
                  obtain ⟨ad200, A200_2, c200_2, e200, hx200_0, hx200_1, hx200_2, hl200_2, hi200_2⟩ := at_T65 (Kd.S_reads' HO198.out).2.2 1 p200 q200
                  (try rw [← Nbq29.out] at hx200_0)
                  (try rw [← Nbq32.out] at hx200_0)
                  (try rw [← Nbq36.out] at hx200_0)
                  (try rw [← Nbq39.out] at hx200_0)
                  obtain rfl : ad199 = ad200 := (by injection e200)
                  obtain ⟨ce200, hce200, hMe200, hcc200⟩ := Kd.S_get HO198.out z65 1 p200 (by first | exact q200 | exact of_decide_eq_true (by first | (with_reducible assumption) | assumption) | (have e_ := (Kd.S_reads' HO198.out).1; omega))
                  obtain ⟨ve200_2, rfl, ge200_2⟩ := k65_openM hMe200
                  have hv200_2 := hcc200 2 _ rfl
                  rw [add_field _ _ 2 (by omega)] at hv200_2
                  replace hv200_2 := Option.some.inj (hv200_2.symm.trans hx200_2)
                  rw [hv200_2] at ge200_2
                  have HL200_2 := Aside0.mk (show Kd.R k61 61 _ _ _ _ ((rd_T65 t194 1).f2) from ge200_2)
                  clear hv200_2 ge200_2
                  clear hcc200 hce200
                  (try simp only [show (1 : Int).toNat = 1 from rfl, Nat.reduceMul, Nat.reduceEqDiff, Go.Addr.add, ↓reduceIte] at hx200_0)
                  (try simp only [show (1 : Int).toNat = 1 from rfl, Nat.reduceMul, Nat.reduceEqDiff, Go.Addr.add, ↓reduceIte] at hx200_1)
                  (try simp only [show (1 : Int).toNat = 1 from rfl, Nat.reduceMul, Nat.reduceEqDiff, Go.Addr.add, ↓reduceIte] at hx200_2)
                  have qi200 : (1 < t194.length) = True := eq_true (by omega)
                  (try rw [show ((1 : Int)).toNat = 1 from rfl] at hx200_0)
                  (try rw [show 1 * 3 = 3 from rfl] at hx200_0)
                  (try rw [show ((1 : Int)).toNat = 1 from rfl] at hx200_1)
                  (try rw [show 1 * 3 = 3 from rfl] at hx200_1)
                  (try rw [show ((1 : Int)).toNat = 1 from rfl] at hx200_2)
                  (try rw [show 1 * 3 = 3 from rfl] at hx200_2)
                  have HR200_2 := Aside0.mk hi200_2
                  have HC200_2 := Aside0.mk hl200_2
                  clear hi200_2 hl200_2
                  replace p200 := eq_true p200
                  replace q200 := eq_true q200
                  have p201 : 0 ≤ (1 : Int) := (by omega)
                  have q201 : 1 < (t194.length : Int) := of_decide_eq_true (by first | (with_reducible assumption) | assumption)
                  obtain ⟨ad201, A201_2, c201_2, e201, hx201_0, hx201_1, hx201_2, hl201_2, hi201_2⟩ := at_T65 (Kd.S_reads' HO198.out).2.2 1 p201 q201
                  (try rw [← Nbq29.out] at hx201_0)
                  (try rw [← Nbq32.out] at hx201_0)
                  (try rw [← Nbq36.out] at hx201_0)
                  (try rw [← Nbq39.out] at hx201_0)
                  obtain rfl : ad199 = ad201 := (by injection e201)
                  obtain ⟨ce201, hce201, hMe201, hcc201⟩ := Kd.S_get HO198.out z65 1 p201 (by first | exact q201 | exact of_decide_eq_true (by first | (with_reducible assumption) | assumption) | (have e_ := (Kd.S_reads' HO198.out).1; omega))
                  obtain ⟨ve201_2, rfl, ge201_2⟩ := k65_openM hMe201
                  have hv201_2 := hcc201 2 _ rfl
                  rw [add_field _ _ 2 (by omega)] at hv201_2
                  replace hv201_2 := Option.some.inj (hv201_2.symm.trans hx201_2)
                  rw [hv201_2] at ge201_2
                  have HL201_2 := Aside0.mk (show Kd.R k61 61 _ _ _ _ ((rd_T65 t194 1).f2) from ge201_2)
                  clear hv201_2 ge201_2
                  clear hcc201 hce201
                  (try simp only [show (1 : Int).toNat = 1 from rfl, Nat.reduceMul, Nat.reduceEqDiff, Go.Addr.add, ↓reduceIte] at hx201_0)
                  (try simp only [show (1 : Int).toNat = 1 from rfl, Nat.reduceMul, Nat.reduceEqDiff, Go.Addr.add, ↓reduceIte] at hx201_1)
                  (try simp only [show (1 : Int).toNat = 1 from rfl, Nat.reduceMul, Nat.reduceEqDiff, Go.Addr.add, ↓reduceIte] at hx201_2)
                  have qi201 : (1 < t194.length) = True := eq_true (by omega)
                  (try rw [show ((1 : Int)).toNat = 1 from rfl] at hx201_0)
                  (try rw [show 1 * 3 = 3 from rfl] at hx201_0)
                  (try rw [show ((1 : Int)).toNat = 1 from rfl] at hx201_1)
                  (try rw [show 1 * 3 = 3 from rfl] at hx201_1)
                  (try rw [show ((1 : Int)).toNat = 1 from rfl] at hx201_2)
                  (try rw [show 1 * 3 = 3 from rfl] at hx201_2)
                  have HR201_2 := Aside0.mk hi201_2
                  have HC201_2 := Aside0.mk hl201_2
                  clear hi201_2 hl201_2
                  replace p201 := eq_true p201
                  replace q201 := eq_true q201
                  have ea_ := Option.some.inj (hx200_2.symm.trans hx201_2)
                  injection ea_ with ea_ en_ ec_
                  subst ea_
                  subst ec_
                  clear en_
                  have p202 : 0 ≤ (2 : Int) := (by omega)
                  have q202 : 2 < (t194.length : Int) := of_decide_eq_true (by first | (with_reducible assumption) | assumption)
                  obtain ⟨ad202, A202_2, c202_2, e202, hx202_0, hx202_1, hx202_2, hl202_2, hi202_2⟩ := at_T65 (Kd.S_reads' HO198.out).2.2 2 p202 q202
                  (try rw [← Nbq29.out] at hx202_0)
                  (try rw [← Nbq32.out] at hx202_0)
                  (try rw [← Nbq36.out] at hx202_0)
                  (try rw [← Nbq39.out] at hx202_0)
                  obtain rfl : ad199 = ad202 := (by injection e202)
                  obtain ⟨ce202, hce202, hMe202, hcc202⟩ := Kd.S_get HO198.out z65 2 p202 (by first | exact q202 | exact of_decide_eq_true (by first | (with_reducible assumption) | assumption) | (have e_ := (Kd.S_reads' HO198.out).1; omega))
                  obtain ⟨ve202_2, rfl, ge202_2⟩ := k65_openM hMe202
                  have hv202_2 := hcc202 2 _ rfl
                  rw [add_field _ _ 2 (by omega)] at hv202_2
                  replace hv202_2 := Option.some.inj (hv202_2.symm.trans hx202_2)
                  rw [hv202_2] at ge202_2
                  have HL202_2 := Aside0.mk (show Kd.R k61 61 _ _ _ _ ((rd_T65 t194 2).f2) from ge202_2)
                  clear hv202_2 ge202_2
                  clear hcc202 hce202
                  (try simp only [show (2 : Int).toNat = 2 from rfl, Nat.reduceMul, Nat.reduceEqDiff, Go.Addr.add, ↓reduceIte] at hx202_0)
                  (try simp only [show (2 : Int).toNat = 2 from rfl, Nat.reduceMul, Nat.reduceEqDiff, Go.Addr.add, ↓reduceIte] at hx202_1)
                  (try simp only [show (2 : Int).toNat = 2 from rfl, Nat.reduceMul, Nat.reduceEqDiff, Go.Addr.add, ↓reduceIte] at hx202_2)
                  have qi202 : (2 < t194.length) = True := eq_true (by omega)
                  (try rw [show ((2 : Int)).toNat = 2 from rfl] at hx202_0)
                  (try rw [show 2 * 3 = 6 from rfl] at hx202_0)
                  (try rw [show ((2 : Int)).toNat = 2 from rfl] at hx202_1)
                  (try rw [show 2 * 3 = 6 from rfl] at hx202_1)
                  (try rw [show ((2 : Int)).toNat = 2 from rfl] at hx202_2)
                  (try rw [show 2 * 3 = 6 from rfl] at hx202_2)
                  have HR202_2 := Aside0.mk hi202_2
                  have HC202_2 := Aside0.mk hl202_2
                  clear hi202_2 hl202_2
                  replace p202 := eq_true p202
                  replace q202 := eq_true q202
                  have p203 : 0 ≤ (3 : Int) := (by omega)
                  have q203 : 3 < (t194.length : Int) := of_decide_eq_true (by first | (with_reducible assumption) | assumption)
                  obtain ⟨ad203, A203_2, c203_2, e203, hx203_0, hx203_1, hx203_2, hl203_2, hi203_2⟩ := at_T65 (Kd.S_reads' HO198.out).2.2 3 p203 q203
                  (try rw [← Nbq29.out] at hx203_0)
                  (try rw [← Nbq32.out] at hx203_0)
                  (try rw [← Nbq36.out] at hx203_0)
                  (try rw [← Nbq39.out] at hx203_0)
                  obtain rfl : ad199 = ad203 := (by injection e203)
                  obtain ⟨ce203, hce203, hMe203, hcc203⟩ := Kd.S_get HO198.out z65 3 p203 (by first | exact q203 | exact of_decide_eq_true (by first | (with_reducible assumption) | assumption) | (have e_ := (Kd.S_reads' HO198.out).1; omega))
                  obtain ⟨ve203_2, rfl, ge203_2⟩ := k65_openM hMe203
                  have hv203_2 := hcc203 2 _ rfl
                  rw [add_field _ _ 2 (by omega)] at hv203_2
                  replace hv203_2 := Option.some.inj (hv203_2.symm.trans hx203_2)
                  rw [hv203_2] at ge203_2
                  have HL203_2 := Aside0.mk (show Kd.R k61 61 _ _ _ _ ((rd_T65 t194 3).f2) from ge203_2)
                  clear hv203_2 ge203_2
                  clear hcc203 hce203
                  (try simp only [show (3 : Int).toNat = 3 from rfl, Nat.reduceMul, Nat.reduceEqDiff, Go.Addr.add, ↓reduceIte] at hx203_0)
                  (try simp only [show (3 : Int).toNat = 3 from rfl, Nat.reduceMul, Nat.reduceEqDiff, Go.Addr.add, ↓reduceIte] at hx203_1)
                  (try simp only [show (3 : Int).toNat = 3 from rfl, Nat.reduceMul, Nat.reduceEqDiff, Go.Addr.add, ↓reduceIte] at hx203_2)
                  have qi203 : (3 < t194.length) = True := eq_true (by omega)
                  (try rw [show ((3 : Int)).toNat = 3 from rfl] at hx203_0)
                  (try rw [show 3 * 3 = 9 from rfl] at hx203_0)
                  (try rw [show ((3 : Int)).toNat = 3 from rfl] at hx203_1)
                  (try rw [show 3 * 3 = 9 from rfl] at hx203_1)
                  (try rw [show ((3 : Int)).toNat = 3 from rfl] at hx203_2)
                  (try rw [show 3 * 3 = 9 from rfl] at hx203_2)
                  have HR203_2 := Aside0.mk hi203_2
                  have HC203_2 := Aside0.mk hl203_2
                  clear hi203_2 hl203_2
                  replace p203 := eq_true p203
                  replace q203 := eq_true q203
                  have p204 : 0 ≤ (3 : Int) := (by omega)
                  have q204 : 3 < (t194.length : Int) := of_decide_eq_true (by first | (with_reducible assumption) | assumption)
                  obtain ⟨ad204, A204_2, c204_2, e204, hx204_0, hx204_1, hx204_2, hl204_2, hi204_2⟩ := at_T65 (Kd.S_reads' HO198.out).2.2 3 p204 q204
                  (try rw [← Nbq29.out] at hx204_0)
                  (try rw [← Nbq32.out] at hx204_0)
                  (try rw [← Nbq36.out] at hx204_0)
                  (try rw [← Nbq39.out] at hx204_0)
                  obtain rfl : ad199 = ad204 := (by injection e204)
                  obtain ⟨ce204, hce204, hMe204, hcc204⟩ := Kd.S_get HO198.out z65 3 p204 (by first | exact q204 | exact of_decide_eq_true (by first | (with_reducible assumption) | assumption) | (have e_ := (Kd.S_reads' HO198.out).1; omega))
                  obtain ⟨ve204_2, rfl, ge204_2⟩ := k65_openM hMe204
                  have hv204_2 := hcc204 2 _ rfl
                  rw [add_field _ _ 2 (by omega)] at hv204_2
                  replace hv204_2 := Option.some.inj (hv204_2.symm.trans hx204_2)
                  rw [hv204_2] at ge204_2
                  have HL204_2 := Aside0.mk (show Kd.R k61 61 _ _ _ _ ((rd_T65 t194 3).f2) from ge204_2)
                  clear hv204_2 ge204_2
                  clear hcc204 hce204
                  (try simp only [show (3 : Int).toNat = 3 from rfl, Nat.reduceMul, Nat.reduceEqDiff, Go.Addr.add, ↓reduceIte] at hx204_0)
                  (try simp only [show (3 : Int).toNat = 3 from rfl, Nat.reduceMul, Nat.reduceEqDiff, Go.Addr.add, ↓reduceIte] at hx204_1)
                  (try simp only [show (3 : Int).toNat = 3 from rfl, Nat.reduceMul, Nat.reduceEqDiff, Go.Addr.add, ↓reduceIte] at hx204_2)
                  have qi204 : (3 < t194.length) = True := eq_true (by omega)
                  (try rw [show ((3 : Int)).toNat = 3 from rfl] at hx204_0)
                  (try rw [show 3 * 3 = 9 from rfl] at hx204_0)
                  (try rw [show ((3 : Int)).toNat = 3 from rfl] at hx204_1)
                  (try rw [show 3 * 3 = 9 from rfl] at hx204_1)
                  (try rw [show ((3 : Int)).toNat = 3 from rfl] at hx204_2)
                  (try rw [show 3 * 3 = 9 from rfl] at hx204_2)
                  have HR204_2 := Aside0.mk hi204_2
                  have HC204_2 := Aside0.mk hl204_2
                  clear hi204_2 hl204_2
                  replace p204 := eq_true p204
                  replace q204 := eq_true q204
                  have ea_ := Option.some.inj (hx203_2.symm.trans hx204_2)
                  injection ea_ with ea_ en_ ec_
                  subst ea_
                  subst ec_
                  clear en_
                  obtain ⟨Ao46, co46, eo46⟩ := Kd.R_slice HO196.out
                  subst eo46
                  have p205 : 0 ≤ (0 : Int) := (by omega)
                  have q205 : 0 < (t193.length : Int) := of_decide_eq_true (by first | (with_reducible assumption) | assumption)
                  obtain ⟨ad205, e205, hx205_0, hx205_1, hx205_2⟩ := at_T69 (Kd.R_reads' HO196.out).2.2 0 p205 q205
                  (try rw [← Nbq29.out] at hx205_2)
                  (try rw [← Nbq32.out] at hx205_2)
                  (try rw [← Nbq36.out] at hx205_2)
                  (try rw [← Nbq39.out] at hx205_2)
                  cases e205
                  have qi205 : (0 < t193.length) = True := eq_true (by omega)
                  (try rw [show ((0 : Int)).toNat = 0 from rfl] at hx205_0)
                  (try rw [show 0 * 3 = 0 from rfl] at hx205_0)
                  (try rw [Addr.add_zero'] at hx205_0)
                  (try rw [show ((0 : Int)).toNat = 0 from rfl] at hx205_1)
                  (try rw [show 0 * 3 = 0 from rfl] at hx205_1)
                  (try rw [Addr.add_zero'] at hx205_1)
                  (try rw [show ((0 : Int)).toNat = 0 from rfl] at hx205_2)
                  (try rw [show 0 * 3 = 0 from rfl] at hx205_2)
                  (try rw [Addr.add_zero'] at hx205_2)
                  replace p205 := eq_true p205
                  replace q205 := eq_true q205
                  go_wp2
                  first
                  | (go_meet; case rel => exact ⟨_, (!((rd_T69 t193 0).f2)), (by first | rfl | (rw [bl_gt] <;> rfl) | (simp; done) | (simp [*]; done)), H', ⟨by have := HJ4.out; first | omega | exact Nat.le_refl _⟩, ⟨by (with_reducible repeat (first | apply Kd.R_alloc | apply Kd.R_drewN | apply Kd.R_drew)); exact HO196.out⟩, ⟨by (with_reducible repeat (first | apply Kd.S_alloc | apply Kd.S_drewN | apply Kd.S_drew)); exact HO198.out⟩, ⟨by repeat (first | (with_reducible first | exact HB.out | apply below_alloc | apply pw_below_drewN | apply below_drew1) | exact HB.out)⟩⟩)
                  | (refine Met.intro ?_; go_step; (repeat apply Exists.intro); refine ⟨?_, ?_⟩; rotate_left; (focus (simp only [c27b0, c34b0, c42b0, c43b0]; try rfl)); exact ⟨_, (!((rd_T69 t193 0).f2)), (by first | rfl | (rw [bl_gt] <;> rfl) | (simp; done) | (simp [*]; done)), H', ⟨by have := HJ4.out; first | omega | exact Nat.le_refl _⟩, ⟨by (with_reducible repeat (first | apply Kd.R_alloc | apply Kd.R_drewN | apply Kd.R_drew)); exact HO196.out⟩, ⟨by (with_reducible repeat (first | apply Kd.S_alloc | apply Kd.S_drewN | apply Kd.S_drew)); exact HO198.out⟩, ⟨by repeat (first | (with_reducible first | exact HB.out | apply below_alloc | apply pw_below_drewN | apply below_drew1) | exact HB.out)⟩⟩)
                 ·rw [if_neg c44] at H
                  exact absurd H (by simp)
                ·rw [if_neg c43] at H
                 have c43b0 : ((t193.length : Int) == 1) = false := beq_eq_false_iff_ne.mpr c43
                 have c43b1 : ((t193.length : Int) != 1) = true := bne_iff_ne.mpr c43
                 have H' := Aside0.mk H
                 clear H
                 obtain ⟨Ao47, co47, eo47⟩ := Kd.S_slice HO198.out
                 subst eo47
                 have p199 : 0 ≤ (0 : Int) := (by omega)
                 have q199 : 0 < (t194.length : Int) := of_decide_eq_true (by first | (with_reducible assumption) | assumption)
                 obtain ⟨ad199, A199_2, c199_2, e199, hx199_0, hx199_1, hx199_2, hl199_2, hi199_2⟩ := at_T65 (Kd.S_reads' HO198.out).2.2 0 p199 q199
                 (try rw [← Nbq29.out] at hx199_0)
                 (try rw [← Nbq32.out] at hx199_0)
                 (try rw [← Nbq36.out] at hx199_0)
                 (try rw [← Nbq39.out] at hx199_0)
                 cases e199
                 obtain ⟨ce199, hce199, hMe199, hcc199⟩ := Kd.S_get HO198.out z65 0 p199 (by first | exact q199 | exact of_decide_eq_true (by first | (with_reducible assumption) | assumption) | (have e_ := (Kd.S_reads' HO198.out).1; omega))
                 obtain ⟨ve199_2, rfl, ge199_2⟩ := k65_openM hMe199
                 have hv199_2 := hcc199 2 _ rfl
                 rw [add_field _ _ 2 (by omega)] at hv199_2
                 replace hv199_2 := Option.some.inj (hv199_2.symm.trans hx199_2)
                 rw [hv199_2] at ge199_2
                 have HL199_2 := Aside0.mk (show Kd.R k61 61 _ _ _ _ ((rd_T65 t194 0).f2) from ge199_2)
                 clear hv199_2 ge199_2
                 clear hcc199 hce199
                 have qi199 : (0 < t194.length) = True := eq_true (by omega)
                 (try rw [show ((0 : Int)).toNat = 0 from rfl] at hx199_0)
                 (try rw [show 0 * 3 = 0 from rfl] at hx199_0)
                 (try rw [Addr.add_zero'] at hx199_0)
                 (try rw [show ((0 : Int)).toNat = 0 from rfl] at hx199_1)
                 (try rw [show 0 * 3 = 0 from rfl] at hx199_1)
                 (try rw [Addr.add_zero'] at hx199_1)
                 (try rw [show ((0 : Int)).toNat = 0 from rfl] at hx199_2)
                 (try rw [show 0 * 3 = 0 from rfl] at hx199_2)
                 (try rw [Addr.add_zero'] at hx199_2)
                 have HR199_2 := Aside0.mk hi199_2
                 have HC199_2 := Aside0.mk hl199_2
                 clear hi199_2 hl199_2
                 replace p199 := eq_true p199
                 replace q199 := eq_true q199
                 have p200 : 0 ≤ (1 : Int) := (by omega)
                 have q200 : 1 < (t194.length : Int) := of_decide_eq_true (by first | (with_reducible assumption) | assumption)
                 obtain ⟨ad200, A200_2, c200_2, e200, hx200_0, hx200_1, hx200_2, hl200_2, hi200_2⟩ := at_T65 (Kd.S_reads' HO198.out).2.2 1 p200 q200
                 (try rw [← Nbq29.out] at hx200_0)
                 (try rw [← Nbq32.out] at hx200_0)
                 (try rw [← Nbq36.out] at hx200_0)
                 (try rw [← Nbq39.out] at hx200_0)
                 obtain rfl : ad199 = ad200 := (by injection e200)
                 obtain ⟨ce200, hce200, hMe200, hcc200⟩ := Kd.S_get HO198.out z65 1 p200 (by first | exact q200 | exact of_decide_eq_true (by first | (with_reducible assumption) | assumption) | (have e_ := (Kd.S_reads' HO198.out).1; omega))
                 obtain ⟨ve200_2, rfl, ge200_2⟩ := k65_openM hMe200
                 have hv200_2 := hcc200 2 _ rfl
                 rw [add_field _ _ 2 (by omega)] at hv200_2
                 replace hv200_2 := Option.some.inj (hv200_2.symm.trans hx200_2)
                 rw [hv200_2] at ge200_2
                 have HL200_2 := Aside0.mk (show Kd.R k61 61 _ _ _ _ ((rd_T65 t194 1).f2) from ge200_2)
                 clear hv200_2 ge200_2
                 clear hcc200 hce200
                 (try simp only [show (1 : Int).toNat = 1 from rfl, Nat.reduceMul, Nat.reduceEqDiff, Go.Addr.add, ↓reduceIte] at hx200_0)
                 (try simp only [show (1 : Int).toNat = 1 from rfl, Nat.reduceMul, Nat.reduceEqDiff, Go.Addr.add, ↓reduceIte] at hx200_1)
                 (try simp only [show (1 : Int).toNat = 1 from rfl, Nat.reduceMul, Nat.reduceEqDiff, Go.Addr.add, ↓reduceIte] at hx200_2)
                 have qi200 : (1 < t194.length) = True := eq_true (by omega)
                 (try rw [show ((1 : Int)).toNat = 1 from rfl] at hx200_0)
                 (try rw [show 1 * 3 = 3 from rfl] at hx200_0)
                 (try rw [show ((1 : Int)).toNat = 1 from rfl] at hx200_1)
                 (try rw [show 1 * 3 = 3 from rfl] at hx200_1)
                 (try rw [show ((1 : Int)).toNat = 1 from rfl] at hx200_2)
                 (try rw [show 1 * 3 = 3 from rfl] at hx200_2)
                 have HR200_2 := Aside0.mk hi200_2
                 have HC200_2 := Aside0.mk hl200_2
                 clear hi200_2 hl200_2
                 replace p200 := eq_true p200
                 replace q200 := eq_true q200
                 have p201 : 0 ≤ (1 : Int) := (by omega)
                 have q201 : 1 < (t194.length : Int) := of_decide_eq_true (by first | (with_reducible assumption) | assumption)
                 obtain ⟨ad201, A201_2, c201_2, e201, hx201_0, hx201_1, hx201_2, hl201_2, hi201_2⟩ := at_T65 (Kd.S_reads' HO198.out).2.2 1 p201 q201
                 (try rw [← Nbq29.out] at hx201_0)
                 (try rw [← Nbq32.out] at hx201_0)
                 (try rw [← Nbq36.out] at hx201_0)
                 (try rw [← Nbq39.out] at hx201_0)
                 obtain rfl : ad199 = ad201 := (by injection e201)
                 obtain ⟨ce201, hce201, hMe201, hcc201⟩ := Kd.S_get HO198.out z65 1 p201 (by first | exact q201 | exact of_decide_eq_true (by first | (with_reducible assumption) | assumption) | (have e_ := (Kd.S_reads' HO198.out).1; omega))
                 obtain ⟨ve201_2, rfl, ge201_2⟩ := k65_openM hMe201
                 have hv201_2 := hcc201 2 _ rfl
                 rw [add_field _ _ 2 (by omega)] at hv201_2
                 replace hv201_2 := Option.some.inj (hv201_2.symm.trans hx201_2)
                 rw [hv201_2] at ge201_2
                 have HL201_2 := Aside0.mk (show Kd.R k61 61 _ _ _ _ ((rd_T65 t194 1).f2) from ge201_2)
                 clear hv201_2 ge201_2
                 clear hcc201 hce201
                 (try simp only [show (1 : Int).toNat = 1 from rfl, Nat.reduceMul, Nat.reduceEqDiff, Go.Addr.add, ↓reduceIte] at hx201_0)
                 (try simp only [show (1 : Int).toNat = 1 from rfl, Nat.reduceMul, Nat.reduceEqDiff, Go.Addr.add, ↓reduceIte] at hx201_1)
                 (try simp only [show (1 : Int).toNat = 1 from rfl, Nat.reduceMul, Nat.reduceEqDiff, Go.Addr.add, ↓reduceIte] at hx201_2)
                 have qi201 : (1 < t194.length) = True := eq_true (by omega)
                 (try rw [show ((1 : Int)).toNat = 1 from rfl] at hx201_0)
                 (try rw [show 1 * 3 = 3 from rfl] at hx201_0)
                 (try rw [show ((1 : Int)).toNat = 1 from rfl] at hx201_1)
                 (try rw [show 1 * 3 = 3 from rfl] at hx201_1)
                 (try rw [show ((1 : Int)).toNat = 1 from rfl] at hx201_2)
                 (try rw [show 1 * 3 = 3 from rfl] at hx201_2)
                 have HR201_2 := Aside0.mk hi201_2
                 have HC201_2 := Aside0.mk hl201_2
                 clear hi201_2 hl201_2
                 replace p201 := eq_true p201
                 replace q201 := eq_true q201
                 have ea_ := Option.some.inj (hx200_2.symm.trans hx201_2)
                 injection ea_ with ea_ en_ ec_
                 subst ea_
                 subst ec_
                 clear en_
                 have p202 : 0 ≤ (2 : Int) := (by omega)
                 have q202 : 2 < (t194.length : Int) := of_decide_eq_true (by first | (with_reducible assumption) | assumption)
                 obtain ⟨ad202, A202_2, c202_2, e202, hx202_0, hx202_1, hx202_2, hl202_2, hi202_2⟩ := at_T65 (Kd.S_reads' HO198.out).2.2 2 p202 q202
                 (try rw [← Nbq29.out] at hx202_0)
                 (try rw [← Nbq32.out] at hx202_0)
                 (try rw [← Nbq36.out] at hx202_0)
                 (try rw [← Nbq39.out] at hx202_0)
                 obtain rfl : ad199 = ad202 := (by injection e202)
                 obtain ⟨ce202, hce202, hMe202, hcc202⟩ := Kd.S_get HO198.out z65 2 p202 (by first | exact q202 | exact of_decide_eq_true (by first | (with_reducible assumption) | assumption) | (have e_ := (Kd.S_reads' HO198.out).1; omega))
                 obtain ⟨ve202_2, rfl, ge202_2⟩ := k65_openM hMe202
                 have hv202_2 := hcc202 2 _ rfl
                 rw [add_field _ _ 2 (by omega)] at hv202_2
                 replace hv202_2 := Option.some.inj (hv202_2.symm.trans hx202_2)
                 rw [hv202_2] at ge202_2
                 have HL202_2 := Aside0.mk (show Kd.R k61 61 _ _ _ _ ((rd_T65 t194 2).f2) from ge202_2)
                 clear hv202_2 ge202_2
                 clear hcc202 hce202
                 (try simp only [show (2 : Int).toNat = 2 from rfl, Nat.reduceMul, Nat.reduceEqDiff, Go.Addr.add, ↓reduceIte] at hx202_0)
                 (try simp only [show (2 : Int).toNat = 2 from rfl, Nat.reduceMul, Nat.reduceEqDiff, Go.Addr.add, ↓reduceIte] at hx202_1)
                 (try simp only [show (2 : Int).toNat = 2 from rfl, Nat.reduceMul, Nat.reduceEqDiff, Go.Addr.add, ↓reduceIte] at hx202_2)
                 have qi202 : (2 < t194.length) = True := eq_true (by omega)
                 (try rw [show ((2 : Int)).toNat = 2 from rfl] at hx202_0)
                 (try rw [show 2 * 3 = 6 from rfl] at hx202_0)
                 (try rw [show ((2 : Int)).toNat = 2 from rfl] at hx202_1)
                 (try rw [show 2 * 3 = 6 from rfl] at hx202_1)
                 (try rw [show ((2 : Int)).toNat = 2 from rfl] at hx202_2)
                 (try rw [show 2 * 3 = 6 from rfl] at hx202_2)
                 have HR202_2 := Aside0.mk hi202_2
                 have HC202_2 := Aside0.mk hl202_2
                 clear hi202_2 hl202_2
                 replace p202 := eq_true p202
                 replace q202 := eq_true q202
                 have p203 : 0 ≤ (3 : Int) := (by omega)
                 have q203 : 3 < (t194.length : Int) := of_decide_eq_true (by first | (with_reducible assumption) | assumption)
                 obtain ⟨ad203, A203_2, c203_2, e203, hx203_0, hx203_1, hx203_2, hl203_2, hi203_2⟩ := at_T65 (Kd.S_reads' HO198.out).2.2 3 p203 q203
                 (try rw [← Nbq29.out] at hx203_0)
                 (try rw [← Nbq32.out] at hx203_0)
                 (try rw [← Nbq36.out] at hx203_0)
                 (try rw [← Nbq39.out] at hx203_0)
                 obtain rfl : ad199 = ad203 := (by injection e203)
                 obtain ⟨ce203, hce203, hMe203, hcc203⟩ := Kd.S_get HO198.out z65 3 p203 (by first | exact q203 | exact of_decide_eq_true (by first | (with_reducible assumption) | assumption) | (have e_ := (Kd.S_reads' HO198.out).1; omega))
                 obtain ⟨ve203_2, rfl, ge203_2⟩ := k65_openM hMe203
                 have hv203_2 := hcc203 2 _ rfl
                 rw [add_field _ _ 2 (by omega)] at hv203_2
                 replace hv203_2 := Option.some.inj (hv203_2.symm.trans hx203_2)
                 rw [hv203_2] at ge203_2
                 have HL203_2 := Aside0.mk (show Kd.R k61 61 _ _ _ _ ((rd_T65 t194 3).f2) from ge203_2)
                 clear hv203_2 ge203_2
                 clear hcc203 hce203
                 (try simp only [show (3 : Int).toNat = 3 from rfl, Nat.reduceMul, Nat.reduceEqDiff, Go.Addr.add, ↓reduceIte] at hx203_0)
                 (try simp only [show (3 : Int).toNat = 3 from rfl, Nat.reduceMul, Nat.reduceEqDiff, Go.Addr.add, ↓reduceIte] at hx203_1)
                 (try simp only [show (3 : Int).toNat = 3 from rfl, Nat.reduceMul, Nat.reduceEqDiff, Go.Addr.add, ↓reduceIte] at hx203_2)
                 have qi203 : (3 < t194.length) = True := eq_true (by omega)
                 (try rw [show ((3 : Int)).toNat = 3 from rfl] at hx203_0)
                 (try rw [show 3 * 3 = 9 from rfl] at hx203_0)
                 (try rw [show ((3 : Int)).toNat = 3 from rfl] at hx203_1)
                 (try rw [show 3 * 3 = 9 from rfl] at hx203_1)
                 (try rw [show ((3 : Int)).toNat = 3 from rfl] at hx203_2)
                 (try rw [show 3 * 3 = 9 from rfl] at hx203_2)
                 have HR203_2 := Aside0.mk hi203_2
                 have HC203_2 := Aside0.mk hl203_2
                 clear hi203_2 hl203_2
                 replace p203 := eq_true p203
                 replace q203 := eq_true q203
                 have p204 : 0 ≤ (3 : Int) := (by omega)
                 have q204 : 3 < (t194.length : Int) := of_decide_eq_true (by first | (with_reducible assumption) | assumption)
                 obtain ⟨ad204, A204_2, c204_2, e204, hx204_0, hx204_1, hx204_2, hl204_2, hi204_2⟩ := at_T65 (Kd.S_reads' HO198.out).2.2 3 p204 q204
                 (try rw [← Nbq29.out] at hx204_0)
                 (try rw [← Nbq32.out] at hx204_0)
                 (try rw [← Nbq36.out] at hx204_0)
                 (try rw [← Nbq39.out] at hx204_0)
                 obtain rfl : ad199 = ad204 := (by injection e204)
                 obtain ⟨ce204, hce204, hMe204, hcc204⟩ := Kd.S_get HO198.out z65 3 p204 (by first | exact q204 | exact of_decide_eq_true (by first | (with_reducible assumption) | assumption) | (have e_ := (Kd.S_reads' HO198.out).1; omega))
                 obtain ⟨ve204_2, rfl, ge204_2⟩ := k65_openM hMe204
                 have hv204_2 := hcc204 2 _ rfl
                 rw [add_field _ _ 2 (by omega)] at hv204_2
                 replace hv204_2 := Option.some.inj (hv204_2.symm.trans hx204_2)
                 rw [hv204_2] at ge204_2
                 have HL204_2 := Aside0.mk (show Kd.R k61 61 _ _ _ _ ((rd_T65 t194 3).f2) from ge204_2)
                 clear hv204_2 ge204_2
                 clear hcc204 hce204
                 (try simp only [show (3 : Int).toNat = 3 from rfl, Nat.reduceMul, Nat.reduceEqDiff, Go.Addr.add, ↓reduceIte] at hx204_0)
                 (try simp only [show (3 : Int).toNat = 3 from rfl, Nat.reduceMul, Nat.reduceEqDiff, Go.Addr.add, ↓reduceIte] at hx204_1)
                 (try simp only [show (3 : Int).toNat = 3 from rfl, Nat.reduceMul, Nat.reduceEqDiff, Go.Addr.add, ↓reduceIte] at hx204_2)
                 have qi204 : (3 < t194.length) = True := eq_true (by omega)
                 (try rw [show ((3 : Int)).toNat = 3 from rfl] at hx204_0)
                 (try rw [show 3 * 3 = 9 from rfl] at hx204_0)
                 (try rw [show ((3 : Int)).toNat = 3 from rfl] at hx204_1)
                 (try rw [show 3 * 3 = 9 from rfl] at hx204_1)
                 (try rw [show ((3 : Int)).toNat = 3 from rfl] at hx204_2)
                 (try rw [show 3 * 3 = 9 from rfl] at hx204_2)
                 have HR204_2 := Aside0.mk hi204_2
                 have HC204_2 := Aside0.mk hl204_2
                 clear hi204_2 hl204_2
                 replace p204 := eq_true p204
                 replace q204 := eq_true q204
                 have ea_ := Option.some.inj (hx203_2.symm.trans hx204_2)
                 injection ea_ with ea_ en_ ec_
                 subst ea_
                 subst ec_
                 clear en_
                 obtain ⟨Ao48, co48, eo48⟩ := Kd.R_slice HO196.out
                 subst eo48
                 go_wp2
                 first
                 | (go_meet; case rel => exact ⟨_, (true), (by first | rfl | (rw [bl_gt] <;> rfl) | (simp; done) | (simp [*]; done)), H', ⟨by have := HJ4.out; first | omega | exact Nat.le_refl _⟩, ⟨by (with_reducible repeat (first | apply Kd.R_alloc | apply Kd.R_drewN | apply Kd.R_drew)); exact HO196.out⟩, ⟨by (with_reducible repeat (first | apply Kd.S_alloc | apply Kd.S_drewN | apply Kd.S_drew)); exact HO198.out⟩, ⟨by repeat (first | (with_reducible first | exact HB.out | apply below_alloc | apply pw_below_drewN | apply below_drew1) | exact HB.out)⟩⟩)
                 | (refine Met.intro ?_; go_step; (repeat apply Exists.intro); refine ⟨?_, ?_⟩; rotate_left; (focus (simp only [c27b0, c34b0, c42b0, c43b0]; try rfl)); exact ⟨_, (true), (by first | rfl | (rw [bl_gt] <;> rfl) | (simp; done) | (simp [*]; done)), H', ⟨by have := HJ4.out; first | omega | exact Nat.le_refl _⟩, ⟨by (with_reducible repeat (first | apply Kd.R_alloc | apply Kd.R_drewN | apply Kd.R_drew)); exact HO196.out⟩, ⟨by (with_reducible repeat (first | apply Kd.S_alloc | apply Kd.S_drewN | apply Kd.S_drew)); exact HO198.out⟩, ⟨by repeat (first | (with_reducible first | exact HB.out | apply below_alloc | apply pw_below_drewN | apply below_drew1) | exact HB.out)⟩⟩)
               ·rw [if_neg c42] at H
                have c42b0 : (((rd_T65 t194 3).f1) == 0) = false := beq_eq_false_iff_ne.mpr c42
                have c42b1 : (((rd_T65 t194 3).f1) != 0) = true := bne_iff_ne.mpr c42
                have H' := Aside0.mk H
                clear H
                obtain ⟨Ao49, co49, eo49⟩ := Kd.S_slice HO198.out
                subst eo49
                have p199 : 0 ≤ (0 : Int) := (by omega)
                have q199 : 0 < (t194.length : Int) := of_decide_eq_true (by first | (with_reducible assumption) | assumption)
                obtain ⟨ad199, A199_2, c199_2, e199, hx199_0, hx199_1, hx199_2, hl199_2, hi199_2⟩ := at_T65 (Kd.S_reads' HO198.out).2.2 0 p199 q199
                (try rw [← Nbq29.out] at hx199_0)
                (try rw [← Nbq32.out] at hx199_0)
                (try rw [← Nbq36.out] at hx199_0)
                (try rw [← Nbq39.out] at hx199_0)
                cases e199
                obtain ⟨ce199, hce199, hMe199, hcc199⟩ := Kd.S_get HO198.out z65 0 p199 (by first | exact q199 | exact of_decide_eq_true (by first | (with_reducible assumption) | assumption) | (have e_ := (Kd.S_reads' HO198.out).1; omega))
                obtain ⟨ve199_2, rfl, ge199_2⟩ := k65_openM hMe199
                have hv199_2 := hcc199 2 _ rfl
                rw [add_field _ _ 2 (by omega)] at hv199_2
                replace hv199_2 := Option.some.inj (hv199_2.symm.trans hx199_2)
                rw [hv199_2] at ge199_2
                have HL199_2 := Aside0.mk (show Kd.R k61 61 _ _ _ _ ((rd_T65 t194 0).f2) from ge199_2)
                clear hv199_2 ge199_2
                clear hcc199 hce199
                have qi199 : (0 < t194.length) = True := eq_true (by omega)
                (try rw [show ((0 : Int)).toNat = 0 from rfl] at hx199_0)
                (try rw [show 0 * 3 = 0 from rfl] at hx199_0)
                (try rw [Addr.add_zero'] at hx199_0)
                (try rw [show ((0 : Int)).toNat = 0 from rfl] at hx199_1)
                (try rw [show 0 * 3 = 0 from rfl] at hx199_1)
                (try rw [Addr.add_zero'] at hx199_1)
                (try rw [show ((0 : Int)).toNat = 0 from rfl] at hx199_2)
                (try rw [show 0 * 3 = 0 from rfl] at hx199_2)
                (try rw [Addr.add_zero'] at hx199_2)
                have HR199_2 := Aside0.mk hi199_2
                have HC199_2 := Aside0.mk hl199_2
                clear hi199_2 hl199_2
                replace p199 := eq_true p199
                replace q199 := eq_true q199
                have p200 : 0 ≤ (1 : Int) := (by omega)
                have q200 : 1 < (t194.length : Int) := of_decide_eq_true (by first | (with_reducible assumption) | assumption)
                obtain ⟨ad200, A200_2, c200_2, e200, hx200_0, hx200_1, hx200_2, hl200_2, hi200_2⟩ := at_T65 (Kd.S_reads' HO198.out).2.2 1 p200 q200
                (try rw [← Nbq29.out] at hx200_0)
                (try rw [← Nbq32.out] at hx200_0)
                (try rw [← Nbq36.out] at hx200_0)
                (try rw [← Nbq39.out] at hx200_0)
                obtain rfl : ad199 = ad200 := (by injection e200)
                obtain ⟨ce200, hce200, hMe200, hcc200⟩ := Kd.S_get HO198.out z65 1 p200 (by first | exact q200 | exact of_decide_eq_true (by first | (with_reducible assumption) | assumption) | (have e_ := (Kd.S_reads' HO198.out).1; omega))
                obtain ⟨ve200_2, rfl, ge200_2⟩ := k65_openM hMe200
                have hv200_2 := hcc200 2 _ rfl
                rw [add_field _ _ 2 (by omega)] at hv200_2
                replace hv200_2 := Option.some.inj (hv200_2.symm.trans hx200_2)
                rw [hv200_2] at ge200_2
                have HL200_2 := Aside0.mk (show Kd.R k61 61 _ _ _ _ ((rd_T65 t194 1).f2) from ge200_2)
                clear hv200_2 ge200_2
                clear hcc200 hce200
                (try simp only [show (1 : Int).toNat = 1 from rfl, Nat.reduceMul, Nat.reduceEqDiff, Go.Addr.add, ↓reduceIte] at hx200_0)
                (try simp only [show (1 : Int).toNat = 1 from rfl, Nat.reduceMul, Nat.reduceEqDiff, Go.Addr.add, ↓reduceIte] at hx200_1)
                (try simp only [show (1 : Int).toNat = 1 from rfl, Nat.reduceMul, Nat.reduceEqDiff, Go.Addr.add, ↓reduceIte] at hx200_2)
                have qi200 : (1 < t194.length) = True := eq_true (by omega)
                (try rw [show ((1 : Int)).toNat = 1 from rfl] at hx200_0)
                (try rw [show 1 * 3 = 3 from rfl] at hx200_0)
                (try rw [show ((1 : Int)).toNat = 1 from rfl] at hx200_1)
                (try rw [show 1 * 3 = 3 from rfl] at hx200_1)
                (try rw [show ((1 : Int)).toNat = 1 from rfl] at hx200_2)
                (try rw [show 1 * 3 = 3 from rfl] at hx200_2)
                have HR200_2 := Aside0.mk hi200_2
                have HC200_2 := Aside0.mk hl200_2
                clear hi200_2 hl200_2
                replace p200 := eq_true p200
                replace q200 := eq_true q200
                have p201 : 0 ≤ (1 : Int) := (by omega)
                have q201 : 1 < (t194.length : Int) := of_decide_eq_true (by first | (with_reducible assumption) | assumption)
                obtain ⟨ad201, A201_2, c201_2, e201, hx201_0, hx201_1, hx201_2, hl201_2, hi201_2⟩ := at_T65 (Kd.S_reads' HO198.out).2.2 1 p201 q201
                (try rw [← Nbq29.out] at hx201_0)
                (try rw [← Nbq32.out] at hx201_0)
                (try rw [← Nbq36.out] at hx201_0)
                (try rw [← Nbq39.out] at hx201_0)
                obtain rfl : ad199 = ad201 := (by injection e201)
                obtain ⟨ce201, hce201, hMe201, hcc201⟩ := Kd.S_get HO198.out z65 1 p201 (by first | exact q201 | exact of_decide_eq_true (by first | (with_reducible assumption) | assumption) | (have e_ := (Kd.S_reads' HO198.out).1; omega))
                obtain ⟨ve201_2, rfl, ge201_2⟩ := k65_openM hMe201
                have hv201_2 := hcc201 2 _ rfl
                rw [add_field _ _ 2 (by omega)] at hv201_2
                replace hv201_2 := Option.some.inj (hv201_2.symm.trans hx201_2)
                rw [hv201_2] at ge201_2
                have HL201_2 := Aside0.mk (show Kd.R k61 61 _ _ _ _ ((rd_T65 t194 1).f2) from ge201_2)
                clear hv201_2 ge201_2
                clear hcc201 hce201
                (try simp only [show (1 : Int).toNat = 1 from rfl, Nat.reduceMul, Nat.reduceEqDiff, Go.Addr.add, ↓reduceIte] at hx201_0)
                (try simp only [show (1 : Int).toNat = 1 from rfl, Nat.reduceMul, Nat.reduceEqDiff, Go.Addr.add, ↓reduceIte] at hx201_1)
                (try simp only [show (1 : Int).toNat = 1 from rfl, Nat.reduceMul, Nat.reduceEqDiff, Go.Addr.add, ↓reduceIte] at hx201_2)
                have qi201 : (1 < t194.length) = True := eq_true (by omega)
                (try rw [show ((1 : Int)).toNat = 1 from rfl] at hx201_0)
                (try rw [show 1 * 3 = 3 from rfl] at hx201_0)
                (try rw [show ((1 : Int)).toNat = 1 from rfl] at hx201_1)
                (try rw [show 1 * 3 = 3 from rfl] at hx201_1)
                (try rw [show ((1 : Int)).toNat = 1 from rfl] at hx201_2)
                (try rw [show 1 * 3 = 3 from rfl] at hx201_2)
                have HR201_2 := Aside0.mk hi201_2
                have HC201_2 := Aside0.mk hl201_2
                clear hi201_2 hl201_2
                replace p201 := eq_true p201
                replace q201 := eq_true q201
                have ea_ := Option.some.inj (hx200_2.symm.trans hx201_2)
                injection ea_ with ea_ en_ ec_
                subst ea_
                subst ec_
                clear en_
                have p202 : 0 ≤ (2 : Int) := (by omega)
                have q202 : 2 < (t194.length : Int) := of_decide_eq_true (by first | (with_reducible assumption) | assumption)
                obtain ⟨ad202, A202_2, c202_2, e202, hx202_0, hx202_1, hx202_2, hl202_2, hi202_2⟩ := at_T65 (Kd.S_reads' HO198.out).2.2 2 p202 q202
                (try rw [← Nbq29.out] at hx202_0)
                (try rw [← Nbq32.out] at hx202_0)
                (try rw [← Nbq36.out] at hx202_0)
                (try rw [← Nbq39.out] at hx202_0)
                obtain rfl : ad199 = ad202 := (by injection e202)
                obtain ⟨ce202, hce202, hMe202, hcc202⟩ := Kd.S_get HO198.out z65 2 p202 (by first | exact q202 | exact of_decide_eq_true (by first | (with_reducible assumption) | assumption) | (have e_ := (Kd.S_reads' HO198.out).1; omega))
                obtain ⟨ve202_2, rfl, ge202_2⟩ := k65_openM hMe202
                have hv202_2 := hcc202 2 _ rfl
                rw [add_field _ _ 2 (by omega)] at hv202_2
                replace hv202_2 := Option.some.inj (hv202_2.symm.trans hx202_2)
                rw [hv202_2] at ge202_2
                have HL202_2 := Aside0.mk (show Kd.R k61 61 _ _ _ _ ((rd_T65 t194 2).f2) from ge202_2)
                clear hv202_2 ge202_2
                clear hcc202 hce202
                (try simp only [show (2 : Int).toNat = 2 from rfl, Nat.reduceMul, Nat.reduceEqDiff, Go.Addr.add, ↓reduceIte] at hx202_0)
                (try simp only [show (2 : Int).toNat = 2 from rfl, Nat.reduceMul, Nat.reduceEqDiff, Go.Addr.add, ↓reduceIte] at hx202_1)
                (try simp only [show (2 : Int).toNat = 2 from rfl, Nat.reduceMul, Nat.reduceEqDiff, Go.Addr.add, ↓reduceIte] at hx202_2)
                have qi202 : (2 < t194.length) = True := eq_true (by omega)
                (try rw [show ((2 : Int)).toNat = 2 from rfl] at hx202_0)
                (try rw [show 2 * 3 = 6 from rfl] at hx202_0)
                (try rw [show ((2 : Int)).toNat = 2 from rfl] at hx202_1)
                (try rw [show 2 * 3 = 6 from rfl] at hx202_1)
                (try rw [show ((2 : Int)).toNat = 2 from rfl] at hx202_2)
                (try rw [show 2 * 3 = 6 from rfl] at hx202_2)
                have HR202_2 := Aside0.mk hi202_2
                have HC202_2 := Aside0.mk hl202_2
                clear hi202_2 hl202_2
                replace p202 := eq_true p202
                replace q202 := eq_true q202
                have p203 : 0 ≤ (3 : Int) := (by omega)
                have q203 : 3 < (t194.length : Int) := of_decide_eq_true (by first | (with_reducible assumption) | assumption)
                obtain ⟨ad203, A203_2, c203_2, e203, hx203_0, hx203_1, hx203_2, hl203_2, hi203_2⟩ := at_T65 (Kd.S_reads' HO198.out).2.2 3 p203 q203
                (try rw [← Nbq29.out] at hx203_0)
                (try rw [← Nbq32.out] at hx203_0)
                (try rw [← Nbq36.out] at hx203_0)
                (try rw [← Nbq39.out] at hx203_0)
                obtain rfl : ad199 = ad203 := (by injection e203)
                obtain ⟨ce203, hce203, hMe203, hcc203⟩ := Kd.S_get HO198.out z65 3 p203 (by first | exact q203 | exact of_decide_eq_true (by first | (with_reducible assumption) | assumption) | (have e_ := (Kd.S_reads' HO198.out).1; omega))
                obtain ⟨ve203_2, rfl, ge203_2⟩ := k65_openM hMe203
                have hv203_2 := hcc203 2 _ rfl
                rw [add_field _ _ 2 (by omega)] at hv203_2
                replace hv203_2 := Option.some.inj (hv203_2.symm.trans hx203_2)
                rw [hv203_2] at ge203_2
                have HL203_2 := Aside0.mk (show Kd.R k61 61 _ _ _ _ ((rd_T65 t194 3).f2) from ge203_2)
                clear hv203_2 ge203_2
                clear hcc203 hce203
                (try simp only [show (3 : Int).toNat = 3 from rfl, Nat.reduceMul, Nat.reduceEqDiff, Go.Addr.add, ↓reduceIte] at hx203_0)
                (try simp only [show (3 : Int).toNat = 3 from rfl, Nat.reduceMul, Nat.reduceEqDiff, Go.Addr.add, ↓reduceIte] at hx203_1)
                (try simp only [show (3 : Int).toNat = 3 from rfl, Nat.reduceMul, Nat.reduceEqDiff, Go.Addr.add, ↓reduceIte] at hx203_2)
                have qi203 : (3 < t194.length) = True := eq_true (by omega)
                (try rw [show ((3 : Int)).toNat = 3 from rfl] at hx203_0)
                (try rw [show 3 * 3 = 9 from rfl] at hx203_0)
                (try rw [show ((3 : Int)).toNat = 3 from rfl] at hx203_1)
                (try rw [show 3 * 3 = 9 from rfl] at hx203_1)
                (try rw [show ((3 : Int)).toNat = 3 from rfl] at hx203_2)
                (try rw [show 3 * 3 = 9 from rfl] at hx203_2)
                have HR203_2 := Aside0.mk hi203_2
                have HC203_2 := Aside0.mk hl203_2
                clear hi203_2 hl203_2
                replace p203 := eq_true p203
                replace q203 := eq_true q203
                have p204 : 0 ≤ (3 : Int) := (by omega)
                have q204 : 3 < (t194.length : Int) := of_decide_eq_true (by first | (with_reducible assumption) | assumption)
                obtain ⟨ad204, A204_2, c204_2, e204, hx204_0, hx204_1, hx204_2, hl204_2, hi204_2⟩ := at_T65 (Kd.S_reads' HO198.out).2.2 3 p204 q204
                (try rw [← Nbq29.out] at hx204_0)
                (try rw [← Nbq32.out] at hx204_0)
                (try rw [← Nbq36.out] at hx204_0)
                (try rw [← Nbq39.out] at hx204_0)
                obtain rfl : ad199 = ad204 := (by injection e204)
                obtain ⟨ce204, hce204, hMe204, hcc204⟩ := Kd.S_get HO198.out z65 3 p204 (by first | exact q204 | exact of_decide_eq_true (by first | (with_reducible assumption) | assumption) | (have e_ := (Kd.S_reads' HO198.out).1; omega))
                obtain ⟨ve204_2, rfl, ge204_2⟩ := k65_openM hMe204
                have hv204_2 := hcc204 2 _ rfl
                rw [add_field _ _ 2 (by omega)] at hv204_2
                replace hv204_2 := Option.some.inj (hv204_2.symm.trans hx204_2)
                rw [hv204_2] at ge204_2
                have HL204_2 := Aside0.mk (show Kd.R k61 61 _ _ _ _ ((rd_T65 t194 3).f2) from ge204_2)
                clear hv204_2 ge204_2
                clear hcc204 hce204
                (try simp only [show (3 : Int).toNat = 3 from rfl, Nat.reduceMul, Nat.reduceEqDiff, Go.Addr.add, ↓reduceIte] at hx204_0)
                (try simp only [show (3 : Int).toNat = 3 from rfl, Nat.reduceMul, Nat.reduceEqDiff, Go.Addr.add, ↓reduceIte] at hx204_1)
                (try simp only [show (3 : Int).toNat = 3 from rfl, Nat.reduceMul, Nat.reduceEqDiff, Go.Addr.add, ↓reduceIte] at hx204_2)
                have qi204 : (3 < t194.length) = True := eq_true (by omega)
                (try rw [show ((3 : Int)).toNat = 3 from rfl] at hx204_0)
                (try rw [show 3 * 3 = 9 from rfl] at hx204_0)
                (try rw [show ((3 : Int)).toNat = 3 from rfl] at hx204_1)
                (try rw [show 3 * 3 = 9 from rfl] at hx204_1)
                (try rw [show ((3 : Int)).toNat = 3 from rfl] at hx204_2)
                (try rw [show 3 * 3 = 9 from rfl] at hx204_2)
                have HR204_2 := Aside0.mk hi204_2
                have HC204_2 := Aside0.mk hl204_2
                clear hi204_2 hl204_2
                replace p204 := eq_true p204
                replace q204 := eq_true q204
                have ea_ := Option.some.inj (hx203_2.symm.trans hx204_2)
                injection ea_ with ea_ en_ ec_
                subst ea_
                subst ec_
                clear en_
                go_wp2
                first
                | (go_meet; case rel => exact ⟨_, (true), (by first | rfl | (rw [bl_gt] <;> rfl) | (simp; done) | (simp [*]; done)), H', ⟨by have := HJ4.out; first | omega | exact Nat.le_refl _⟩, ⟨by (with_reducible repeat (first | apply Kd.R_alloc | apply Kd.R_drewN | apply Kd.R_drew)); exact HO196.out⟩, ⟨by (with_reducible repeat (first | apply Kd.S_alloc | apply Kd.S_drewN | apply Kd.S_drew)); exact HO198.out⟩, ⟨by repeat (first | (with_reducible first | exact HB.out | apply below_alloc | apply pw_below_drewN | apply below_drew1) | exact HB.out)⟩⟩)
                | (refine Met.intro ?_; go_step; (repeat apply Exists.intro); refine ⟨?_, ?_⟩; rotate_left; (focus (simp only [c27b0, c34b0, c42b0]; try rfl)); exact ⟨_, (true), (by first | rfl | (rw [bl_gt] <;> rfl) | (simp; done) | (simp [*]; done)), H', ⟨by have := HJ4.out; first | omega | exact Nat.le_refl _⟩, ⟨by (with_reducible repeat (first | apply Kd.R_alloc | apply Kd.R_drewN | apply Kd.R_drew)); exact HO196.out⟩, ⟨by (with_reducible repeat (first | apply Kd.S_alloc | apply Kd.S_drewN | apply Kd.S_drew)); exact HO198.out⟩, ⟨by repeat (first | (with_reducible first | exact HB.out | apply below_alloc | apply pw_below_drewN | apply below_drew1) | exact HB.out)⟩⟩)
             ·rw [if_neg c38] at H
              exact absurd H (by simp)
            ·replace c37 := Bool.eq_false_iff.mpr c37
             subst c37
             have H1 : (folkmootlaw08_TxnSees.j1 kj4 a0 l2 a3 t193 t194 true) = some r := by rw [if_neg (show ¬ (false = true) by decide)] at H; exact H
             clear H
             have H := H1
             clear H1
             have H' := Aside0.mk H
             clear H
             obtain ⟨Ao50, co50, eo50⟩ := Kd.S_slice HO198.out
             subst eo50
             have p199 : 0 ≤ (0 : Int) := (by omega)
             have q199 : 0 < (t194.length : Int) := of_decide_eq_true (by first | (with_reducible assumption) | assumption)
             obtain ⟨ad199, A199_2, c199_2, e199, hx199_0, hx199_1, hx199_2, hl199_2, hi199_2⟩ := at_T65 (Kd.S_reads' HO198.out).2.2 0 p199 q199
             (try rw [← Nbq29.out] at hx199_0)
             (try rw [← Nbq32.out] at hx199_0)
             (try rw [← Nbq36.out] at hx199_0)
             cases e199
             obtain ⟨ce199, hce199, hMe199, hcc199⟩ := Kd.S_get HO198.out z65 0 p199 (by first | exact q199 | exact of_decide_eq_true (by first | (with_reducible assumption) | assumption) | (have e_ := (Kd.S_reads' HO198.out).1; omega))
             obtain ⟨ve199_2, rfl, ge199_2⟩ := k65_openM hMe199
             have hv199_2 := hcc199 2 _ rfl
             rw [add_field _ _ 2 (by omega)] at hv199_2
             replace hv199_2 := Option.some.inj (hv199_2.symm.trans hx199_2)
             rw [hv199_2] at ge199_2
             have HL199_2 := Aside0.mk (show Kd.R k61 61 _ _ _ _ ((rd_T65 t194 0).f2) from ge199_2)
             clear hv199_2 ge199_2
             clear hcc199 hce199
             have qi199 : (0 < t194.length) = True := eq_true (by omega)
             (try rw [show ((0 : Int)).toNat = 0 from rfl] at hx199_0)
             (try rw [show 0 * 3 = 0 from rfl] at hx199_0)
             (try rw [Addr.add_zero'] at hx199_0)
             (try rw [show ((0 : Int)).toNat = 0 from rfl] at hx199_1)
             (try rw [show 0 * 3 = 0 from rfl] at hx199_1)
             (try rw [Addr.add_zero'] at hx199_1)
             (try rw [show ((0 : Int)).toNat = 0 from rfl] at hx199_2)
             (try rw [show 0 * 3 = 0 from rfl] at hx199_2)
             (try rw [Addr.add_zero'] at hx199_2)
             have HR199_2 := Aside0.mk hi199_2
             have HC199_2 := Aside0.mk hl199_2
             clear hi199_2 hl199_2
             replace p199 := eq_true p199
             replace q199 := eq_true q199
             have p200 : 0 ≤ (1 : Int) := (by omega)
             have q200 : 1 < (t194.length : Int) := of_decide_eq_true (by first | (with_reducible assumption) | assumption)
             obtain ⟨ad200, A200_2, c200_2, e200, hx200_0, hx200_1, hx200_2, hl200_2, hi200_2⟩ := at_T65 (Kd.S_reads' HO198.out).2.2 1 p200 q200
             (try rw [← Nbq29.out] at hx200_0)
             (try rw [← Nbq32.out] at hx200_0)
             (try rw [← Nbq36.out] at hx200_0)
             obtain rfl : ad199 = ad200 := (by injection e200)
             obtain ⟨ce200, hce200, hMe200, hcc200⟩ := Kd.S_get HO198.out z65 1 p200 (by first | exact q200 | exact of_decide_eq_true (by first | (with_reducible assumption) | assumption) | (have e_ := (Kd.S_reads' HO198.out).1; omega))
             obtain ⟨ve200_2, rfl, ge200_2⟩ := k65_openM hMe200
             have hv200_2 := hcc200 2 _ rfl
             rw [add_field _ _ 2 (by omega)] at hv200_2
             replace hv200_2 := Option.some.inj (hv200_2.symm.trans hx200_2)
             rw [hv200_2] at ge200_2
             have HL200_2 := Aside0.mk (show Kd.R k61 61 _ _ _ _ ((rd_T65 t194 1).f2) from ge200_2)
             clear hv200_2 ge200_2
             clear hcc200 hce200
             (try simp only [show (1 : Int).toNat = 1 from rfl, Nat.reduceMul, Nat.reduceEqDiff, Go.Addr.add, ↓reduceIte] at hx200_0)
             (try simp only [show (1 : Int).toNat = 1 from rfl, Nat.reduceMul, Nat.reduceEqDiff, Go.Addr.add, ↓reduceIte] at hx200_1)
             (try simp only [show (1 : Int).toNat = 1 from rfl, Nat.reduceMul, Nat.reduceEqDiff, Go.Addr.add, ↓reduceIte] at hx200_2)
             have qi200 : (1 < t194.length) = True := eq_true (by omega)
             (try rw [show ((1 : Int)).toNat = 1 from rfl] at hx200_0)
             (try rw [show 1 * 3 = 3 from rfl] at hx200_0)
             (try rw [show ((1 : Int)).toNat = 1 from rfl] at hx200_1)
             (try rw [show 1 * 3 = 3 from rfl] at hx200_1)
             (try rw [show ((1 : Int)).toNat = 1 from rfl] at hx200_2)
             (try rw [show 1 * 3 = 3 from rfl] at hx200_2)
             have HR200_2 := Aside0.mk hi200_2
             have HC200_2 := Aside0.mk hl200_2
             clear hi200_2 hl200_2
             replace p200 := eq_true p200
             replace q200 := eq_true q200
             have p201 : 0 ≤ (1 : Int) := (by omega)
             have q201 : 1 < (t194.length : Int) := of_decide_eq_true (by first | (with_reducible assumption) | assumption)
             obtain ⟨ad201, A201_2, c201_2, e201, hx201_0, hx201_1, hx201_2, hl201_2, hi201_2⟩ := at_T65 (Kd.S_reads' HO198.out).2.2 1 p201 q201
             (try rw [← Nbq29.out] at hx201_0)
             (try rw [← Nbq32.out] at hx201_0)
             (try rw [← Nbq36.out] at hx201_0)
             obtain rfl : ad199 = ad201 := (by injection e201)
             obtain ⟨ce201, hce201, hMe201, hcc201⟩ := Kd.S_get HO198.out z65 1 p201 (by first | exact q201 | exact of_decide_eq_true (by first | (with_reducible assumption) | assumption) | (have e_ := (Kd.S_reads' HO198.out).1; omega))
             obtain ⟨ve201_2, rfl, ge201_2⟩ := k65_openM hMe201
             have hv201_2 := hcc201 2 _ rfl
             rw [add_field _ _ 2 (by omega)] at hv201_2
             replace hv201_2 := Option.some.inj (hv201_2.symm.trans hx201_2)
             rw [hv201_2] at ge201_2
             have HL201_2 := Aside0.mk (show Kd.R k61 61 _ _ _ _ ((rd_T65 t194 1).f2) from ge201_2)
             clear hv201_2 ge201_2
             clear hcc201 hce201
             (try simp only [show (1 : Int).toNat = 1 from rfl, Nat.reduceMul, Nat.reduceEqDiff, Go.Addr.add, ↓reduceIte] at hx201_0)
             (try simp only [show (1 : Int).toNat = 1 from rfl, Nat.reduceMul, Nat.reduceEqDiff, Go.Addr.add, ↓reduceIte] at hx201_1)
             (try simp only [show (1 : Int).toNat = 1 from rfl, Nat.reduceMul, Nat.reduceEqDiff, Go.Addr.add, ↓reduceIte] at hx201_2)
             have qi201 : (1 < t194.length) = True := eq_true (by omega)
             (try rw [show ((1 : Int)).toNat = 1 from rfl] at hx201_0)
             (try rw [show 1 * 3 = 3 from rfl] at hx201_0)
             (try rw [show ((1 : Int)).toNat = 1 from rfl] at hx201_1)
             (try rw [show 1 * 3 = 3 from rfl] at hx201_1)
             (try rw [show ((1 : Int)).toNat = 1 from rfl] at hx201_2)
             (try rw [show 1 * 3 = 3 from rfl] at hx201_2)
             have HR201_2 := Aside0.mk hi201_2
             have HC201_2 := Aside0.mk hl201_2
             clear hi201_2 hl201_2
             replace p201 := eq_true p201
             replace q201 := eq_true q201
             have ea_ := Option.some.inj (hx200_2.symm.trans hx201_2)
             injection ea_ with ea_ en_ ec_
             subst ea_
             subst ec_
             clear en_
             have p202 : 0 ≤ (2 : Int) := (by omega)
             have q202 : 2 < (t194.length : Int) := of_decide_eq_true (by first | (with_reducible assumption) | assumption)
             obtain ⟨ad202, A202_2, c202_2, e202, hx202_0, hx202_1, hx202_2, hl202_2, hi202_2⟩ := at_T65 (Kd.S_reads' HO198.out).2.2 2 p202 q202
             (try rw [← Nbq29.out] at hx202_0)
             (try rw [← Nbq32.out] at hx202_0)
             (try rw [← Nbq36.out] at hx202_0)
             obtain rfl : ad199 = ad202 := (by injection e202)
             obtain ⟨ce202, hce202, hMe202, hcc202⟩ := Kd.S_get HO198.out z65 2 p202 (by first | exact q202 | exact of_decide_eq_true (by first | (with_reducible assumption) | assumption) | (have e_ := (Kd.S_reads' HO198.out).1; omega))
             obtain ⟨ve202_2, rfl, ge202_2⟩ := k65_openM hMe202
             have hv202_2 := hcc202 2 _ rfl
             rw [add_field _ _ 2 (by omega)] at hv202_2
             replace hv202_2 := Option.some.inj (hv202_2.symm.trans hx202_2)
             rw [hv202_2] at ge202_2
             have HL202_2 := Aside0.mk (show Kd.R k61 61 _ _ _ _ ((rd_T65 t194 2).f2) from ge202_2)
             clear hv202_2 ge202_2
             clear hcc202 hce202
             (try simp only [show (2 : Int).toNat = 2 from rfl, Nat.reduceMul, Nat.reduceEqDiff, Go.Addr.add, ↓reduceIte] at hx202_0)
             (try simp only [show (2 : Int).toNat = 2 from rfl, Nat.reduceMul, Nat.reduceEqDiff, Go.Addr.add, ↓reduceIte] at hx202_1)
             (try simp only [show (2 : Int).toNat = 2 from rfl, Nat.reduceMul, Nat.reduceEqDiff, Go.Addr.add, ↓reduceIte] at hx202_2)
             have qi202 : (2 < t194.length) = True := eq_true (by omega)
             (try rw [show ((2 : Int)).toNat = 2 from rfl] at hx202_0)
             (try rw [show 2 * 3 = 6 from rfl] at hx202_0)
             (try rw [show ((2 : Int)).toNat = 2 from rfl] at hx202_1)
             (try rw [show 2 * 3 = 6 from rfl] at hx202_1)
             (try rw [show ((2 : Int)).toNat = 2 from rfl] at hx202_2)
             (try rw [show 2 * 3 = 6 from rfl] at hx202_2)
             have HR202_2 := Aside0.mk hi202_2
             have HC202_2 := Aside0.mk hl202_2
             clear hi202_2 hl202_2
             replace p202 := eq_true p202
             replace q202 := eq_true q202
             go_wp2
             first
             | (go_meet; case rel => exact ⟨_, (true), (by first | rfl | (rw [bl_gt] <;> rfl) | (simp; done) | (simp [*]; done)), H', ⟨by have := HJ4.out; first | omega | exact Nat.le_refl _⟩, ⟨by (with_reducible repeat (first | apply Kd.R_alloc | apply Kd.R_drewN | apply Kd.R_drew)); exact HO196.out⟩, ⟨by (with_reducible repeat (first | apply Kd.S_alloc | apply Kd.S_drewN | apply Kd.S_drew)); exact HO198.out⟩, ⟨by repeat (first | (with_reducible first | exact HB.out | apply below_alloc | apply pw_below_drewN | apply below_drew1) | exact HB.out)⟩⟩)
             | (refine Met.intro ?_; go_step; (repeat apply Exists.intro); refine ⟨?_, ?_⟩; rotate_left; (focus (simp only [c27b0, c34b0]; try rfl)); exact ⟨_, (true), (by first | rfl | (rw [bl_gt] <;> rfl) | (simp; done) | (simp [*]; done)), H', ⟨by have := HJ4.out; first | omega | exact Nat.le_refl _⟩, ⟨by (with_reducible repeat (first | apply Kd.R_alloc | apply Kd.R_drewN | apply Kd.R_drew)); exact HO196.out⟩, ⟨by (with_reducible repeat (first | apply Kd.S_alloc | apply Kd.S_drewN | apply Kd.S_drew)); exact HO198.out⟩, ⟨by repeat (first | (with_reducible first | exact HB.out | apply below_alloc | apply pw_below_drewN | apply below_drew1) | exact HB.out)⟩⟩)
           ·rw [if_neg c35] at H
            exact absurd H (by simp)
          ·rw [if_neg c34] at H
           have c34b0 : (((rd_T65 t194 1).f1) == a1) = false := beq_eq_false_iff_ne.mpr c34
           have c34b1 : (((rd_T65 t194 1).f1) != a1) = true := bne_iff_ne.mpr c34
           have H' := Aside0.mk H
           clear H
           obtain ⟨Ao51, co51, eo51⟩ := Kd.S_slice HO198.out
           subst eo51
           have p199 : 0 ≤ (0 : Int) := (by omega)
           have q199 : 0 < (t194.length : Int) := of_decide_eq_true (by first | (with_reducible assumption) | assumption)
           obtain ⟨ad199, A199_2, c199_2, e199, hx199_0, hx199_1, hx199_2, hl199_2, hi199_2⟩ := at_T65 (Kd.S_reads' HO198.out).2.2 0 p199 q199
           (try rw [← Nbq29.out] at hx199_0)
           (try rw [← Nbq32.out] at hx199_0)
           cases e199
           obtain ⟨ce199, hce199, hMe199, hcc199⟩ := Kd.S_get HO198.out z65 0 p199 (by first | exact q199 | exact of_decide_eq_true (by first | (with_reducible assumption) | assumption) | (have e_ := (Kd.S_reads' HO198.out).1; omega))
           obtain ⟨ve199_2, rfl, ge199_2⟩ := k65_openM hMe199
           have hv199_2 := hcc199 2 _ rfl
           rw [add_field _ _ 2 (by omega)] at hv199_2
           replace hv199_2 := Option.some.inj (hv199_2.symm.trans hx199_2)
           rw [hv199_2] at ge199_2
           have HL199_2 := Aside0.mk (show Kd.R k61 61 _ _ _ _ ((rd_T65 t194 0).f2) from ge199_2)
           clear hv199_2 ge199_2
           clear hcc199 hce199
           have qi199 : (0 < t194.length) = True := eq_true (by omega)
           (try rw [show ((0 : Int)).toNat = 0 from rfl] at hx199_0)
           (try rw [show 0 * 3 = 0 from rfl] at hx199_0)
           (try rw [Addr.add_zero'] at hx199_0)
           (try rw [show ((0 : Int)).toNat = 0 from rfl] at hx199_1)
           (try rw [show 0 * 3 = 0 from rfl] at hx199_1)
           (try rw [Addr.add_zero'] at hx199_1)
           (try rw [show ((0 : Int)).toNat = 0 from rfl] at hx199_2)
           (try rw [show 0 * 3 = 0 from rfl] at hx199_2)
           (try rw [Addr.add_zero'] at hx199_2)
           have HR199_2 := Aside0.mk hi199_2
           have HC199_2 := Aside0.mk hl199_2
           clear hi199_2 hl199_2
           replace p199 := eq_true p199
           replace q199 := eq_true q199
           have p200 : 0 ≤ (1 : Int) := (by omega)
           have q200 : 1 < (t194.length : Int) := of_decide_eq_true (by first | (with_reducible assumption) | assumption)
           obtain ⟨ad200, A200_2, c200_2, e200, hx200_0, hx200_1, hx200_2, hl200_2, hi200_2⟩ := at_T65 (Kd.S_reads' HO198.out).2.2 1 p200 q200
           (try rw [← Nbq29.out] at hx200_0)
           (try rw [← Nbq32.out] at hx200_0)
           obtain rfl : ad199 = ad200 := (by injection e200)
           obtain ⟨ce200, hce200, hMe200, hcc200⟩ := Kd.S_get HO198.out z65 1 p200 (by first | exact q200 | exact of_decide_eq_true (by first | (with_reducible assumption) | assumption) | (have e_ := (Kd.S_reads' HO198.out).1; omega))
           obtain ⟨ve200_2, rfl, ge200_2⟩ := k65_openM hMe200
           have hv200_2 := hcc200 2 _ rfl
           rw [add_field _ _ 2 (by omega)] at hv200_2
           replace hv200_2 := Option.some.inj (hv200_2.symm.trans hx200_2)
           rw [hv200_2] at ge200_2
           have HL200_2 := Aside0.mk (show Kd.R k61 61 _ _ _ _ ((rd_T65 t194 1).f2) from ge200_2)
           clear hv200_2 ge200_2
           clear hcc200 hce200
           (try simp only [show (1 : Int).toNat = 1 from rfl, Nat.reduceMul, Nat.reduceEqDiff, Go.Addr.add, ↓reduceIte] at hx200_0)
           (try simp only [show (1 : Int).toNat = 1 from rfl, Nat.reduceMul, Nat.reduceEqDiff, Go.Addr.add, ↓reduceIte] at hx200_1)
           (try simp only [show (1 : Int).toNat = 1 from rfl, Nat.reduceMul, Nat.reduceEqDiff, Go.Addr.add, ↓reduceIte] at hx200_2)
           have qi200 : (1 < t194.length) = True := eq_true (by omega)
           (try rw [show ((1 : Int)).toNat = 1 from rfl] at hx200_0)
           (try rw [show 1 * 3 = 3 from rfl] at hx200_0)
           (try rw [show ((1 : Int)).toNat = 1 from rfl] at hx200_1)
           (try rw [show 1 * 3 = 3 from rfl] at hx200_1)
           (try rw [show ((1 : Int)).toNat = 1 from rfl] at hx200_2)
           (try rw [show 1 * 3 = 3 from rfl] at hx200_2)
           have HR200_2 := Aside0.mk hi200_2
           have HC200_2 := Aside0.mk hl200_2
           clear hi200_2 hl200_2
           replace p200 := eq_true p200
           replace q200 := eq_true q200
           have p201 : 0 ≤ (1 : Int) := (by omega)
           have q201 : 1 < (t194.length : Int) := of_decide_eq_true (by first | (with_reducible assumption) | assumption)
           obtain ⟨ad201, A201_2, c201_2, e201, hx201_0, hx201_1, hx201_2, hl201_2, hi201_2⟩ := at_T65 (Kd.S_reads' HO198.out).2.2 1 p201 q201
           (try rw [← Nbq29.out] at hx201_0)
           (try rw [← Nbq32.out] at hx201_0)
           obtain rfl : ad199 = ad201 := (by injection e201)
           obtain ⟨ce201, hce201, hMe201, hcc201⟩ := Kd.S_get HO198.out z65 1 p201 (by first | exact q201 | exact of_decide_eq_true (by first | (with_reducible assumption) | assumption) | (have e_ := (Kd.S_reads' HO198.out).1; omega))
           obtain ⟨ve201_2, rfl, ge201_2⟩ := k65_openM hMe201
           have hv201_2 := hcc201 2 _ rfl
           rw [add_field _ _ 2 (by omega)] at hv201_2
           replace hv201_2 := Option.some.inj (hv201_2.symm.trans hx201_2)
           rw [hv201_2] at ge201_2
           have HL201_2 := Aside0.mk (show Kd.R k61 61 _ _ _ _ ((rd_T65 t194 1).f2) from ge201_2)
           clear hv201_2 ge201_2
           clear hcc201 hce201
           (try simp only [show (1 : Int).toNat = 1 from rfl, Nat.reduceMul, Nat.reduceEqDiff, Go.Addr.add, ↓reduceIte] at hx201_0)
           (try simp only [show (1 : Int).toNat = 1 from rfl, Nat.reduceMul, Nat.reduceEqDiff, Go.Addr.add, ↓reduceIte] at hx201_1)
           (try simp only [show (1 : Int).toNat = 1 from rfl, Nat.reduceMul, Nat.reduceEqDiff, Go.Addr.add, ↓reduceIte] at hx201_2)
           have qi201 : (1 < t194.length) = True := eq_true (by omega)
           (try rw [show ((1 : Int)).toNat = 1 from rfl] at hx201_0)
           (try rw [show 1 * 3 = 3 from rfl] at hx201_0)
           (try rw [show ((1 : Int)).toNat = 1 from rfl] at hx201_1)
           (try rw [show 1 * 3 = 3 from rfl] at hx201_1)
           (try rw [show ((1 : Int)).toNat = 1 from rfl] at hx201_2)
           (try rw [show 1 * 3 = 3 from rfl] at hx201_2)
           have HR201_2 := Aside0.mk hi201_2
           have HC201_2 := Aside0.mk hl201_2
           clear hi201_2 hl201_2
           replace p201 := eq_true p201
           replace q201 := eq_true q201
           have ea_ := Option.some.inj (hx200_2.symm.trans hx201_2)
           injection ea_ with ea_ en_ ec_
           subst ea_
           subst ec_
           clear en_
           go_wp2
           first
           | (go_meet; case rel => exact ⟨_, (true), (by first | rfl | (rw [bl_gt] <;> rfl) | (simp; done) | (simp [*]; done)), H', ⟨by have := HJ4.out; first | omega | exact Nat.le_refl _⟩, ⟨by (with_reducible repeat (first | apply Kd.R_alloc | apply Kd.R_drewN | apply Kd.R_drew)); exact HO196.out⟩, ⟨by (with_reducible repeat (first | apply Kd.S_alloc | apply Kd.S_drewN | apply Kd.S_drew)); exact HO198.out⟩, ⟨by repeat (first | (with_reducible first | exact HB.out | apply below_alloc | apply pw_below_drewN | apply below_drew1) | exact HB.out)⟩⟩)
           | (refine Met.intro ?_; go_step; (repeat apply Exists.intro); refine ⟨?_, ?_⟩; rotate_left; (focus (simp only [c27b0, c34b0]; try rfl)); exact ⟨_, (true), (by first | rfl | (rw [bl_gt] <;> rfl) | (simp; done) | (simp [*]; done)), H', ⟨by have := HJ4.out; first | omega | exact Nat.le_refl _⟩, ⟨by (with_reducible repeat (first | apply Kd.R_alloc | apply Kd.R_drewN | apply Kd.R_drew)); exact HO196.out⟩, ⟨by (with_reducible repeat (first | apply Kd.S_alloc | apply Kd.S_drewN | apply Kd.S_drew)); exact HO198.out⟩, ⟨by repeat (first | (with_reducible first | exact HB.out | apply below_alloc | apply pw_below_drewN | apply below_drew1) | exact HB.out)⟩⟩)
         ·replace c33 := Bool.eq_false_iff.mpr c33
          subst c33
          have H1 : (folkmootlaw08_TxnSees.j1 kj4 a0 l2 a3 t193 t194 true) = some r := by rw [if_neg (show ¬ (false = true) by decide)] at H; exact H
          clear H
          have H := H1
          clear H1
          have H' := Aside0.mk H
          clear H
          obtain ⟨Ao52, co52, eo52⟩ := Kd.S_slice HO198.out
          subst eo52
          have p199 : 0 ≤ (0 : Int) := (by omega)
          have q199 : 0 < (t194.length : Int) := of_decide_eq_true (by first | (with_reducible assumption) | assumption)
          obtain ⟨ad199, A199_2, c199_2, e199, hx199_0, hx199_1, hx199_2, hl199_2, hi199_2⟩ := at_T65 (Kd.S_reads' HO198.out).2.2 0 p199 q199
          (try rw [← Nbq29.out] at hx199_0)
          (try rw [← Nbq32.out] at hx199_0)
          cases e199
          obtain ⟨ce199, hce199, hMe199, hcc199⟩ := Kd.S_get HO198.out z65 0 p199 (by first | exact q199 | exact of_decide_eq_true (by first | (with_reducible assumption) | assumption) | (have e_ := (Kd.S_reads' HO198.out).1; omega))
          obtain ⟨ve199_2, rfl, ge199_2⟩ := k65_openM hMe199
          have hv199_2 := hcc199 2 _ rfl
          rw [add_field _ _ 2 (by omega)] at hv199_2
          replace hv199_2 := Option.some.inj (hv199_2.symm.trans hx199_2)
          rw [hv199_2] at ge199_2
          have HL199_2 := Aside0.mk (show Kd.R k61 61 _ _ _ _ ((rd_T65 t194 0).f2) from ge199_2)
          clear hv199_2 ge199_2
          clear hcc199 hce199
          have qi199 : (0 < t194.length) = True := eq_true (by omega)
          (try rw [show ((0 : Int)).toNat = 0 from rfl] at hx199_0)
          (try rw [show 0 * 3 = 0 from rfl] at hx199_0)
          (try rw [Addr.add_zero'] at hx199_0)
          (try rw [show ((0 : Int)).toNat = 0 from rfl] at hx199_1)
          (try rw [show 0 * 3 = 0 from rfl] at hx199_1)
          (try rw [Addr.add_zero'] at hx199_1)
          (try rw [show ((0 : Int)).toNat = 0 from rfl] at hx199_2)
          (try rw [show 0 * 3 = 0 from rfl] at hx199_2)
          (try rw [Addr.add_zero'] at hx199_2)
          have HR199_2 := Aside0.mk hi199_2
          have HC199_2 := Aside0.mk hl199_2
          clear hi199_2 hl199_2
          replace p199 := eq_true p199
          replace q199 := eq_true q199
          have p200 : 0 ≤ (1 : Int) := (by omega)
          have q200 : 1 < (t194.length : Int) := of_decide_eq_true (by first | (with_reducible assumption) | assumption)
          obtain ⟨ad200, A200_2, c200_2, e200, hx200_0, hx200_1, hx200_2, hl200_2, hi200_2⟩ := at_T65 (Kd.S_reads' HO198.out).2.2 1 p200 q200
          (try rw [← Nbq29.out] at hx200_0)
          (try rw [← Nbq32.out] at hx200_0)
          obtain rfl : ad199 = ad200 := (by injection e200)
          obtain ⟨ce200, hce200, hMe200, hcc200⟩ := Kd.S_get HO198.out z65 1 p200 (by first | exact q200 | exact of_decide_eq_true (by first | (with_reducible assumption) | assumption) | (have e_ := (Kd.S_reads' HO198.out).1; omega))
          obtain ⟨ve200_2, rfl, ge200_2⟩ := k65_openM hMe200
          have hv200_2 := hcc200 2 _ rfl
          rw [add_field _ _ 2 (by omega)] at hv200_2
          replace hv200_2 := Option.some.inj (hv200_2.symm.trans hx200_2)
          rw [hv200_2] at ge200_2
          have HL200_2 := Aside0.mk (show Kd.R k61 61 _ _ _ _ ((rd_T65 t194 1).f2) from ge200_2)
          clear hv200_2 ge200_2
          clear hcc200 hce200
          (try simp only [show (1 : Int).toNat = 1 from rfl, Nat.reduceMul, Nat.reduceEqDiff, Go.Addr.add, ↓reduceIte] at hx200_0)
          (try simp only [show (1 : Int).toNat = 1 from rfl, Nat.reduceMul, Nat.reduceEqDiff, Go.Addr.add, ↓reduceIte] at hx200_1)
          (try simp only [show (1 : Int).toNat = 1 from rfl, Nat.reduceMul, Nat.reduceEqDiff, Go.Addr.add, ↓reduceIte] at hx200_2)
          have qi200 : (1 < t194.length) = True := eq_true (by omega)
          (try rw [show ((1 : Int)).toNat = 1 from rfl] at hx200_0)
          (try rw [show 1 * 3 = 3 from rfl] at hx200_0)
          (try rw [show ((1 : Int)).toNat = 1 from rfl] at hx200_1)
          (try rw [show 1 * 3 = 3 from rfl] at hx200_1)
          (try rw [show ((1 : Int)).toNat = 1 from rfl] at hx200_2)
          (try rw [show 1 * 3 = 3 from rfl] at hx200_2)
          have HR200_2 := Aside0.mk hi200_2
          have HC200_2 := Aside0.mk hl200_2
          clear hi200_2 hl200_2
          replace p200 := eq_true p200
          replace q200 := eq_true q200
          go_wp2
          first
          | (go_meet; case rel => exact ⟨_, (true), (by first | rfl | (rw [bl_gt] <;> rfl) | (simp; done) | (simp [*]; done)), H', ⟨by have := HJ4.out; first | omega | exact Nat.le_refl _⟩, ⟨by (with_reducible repeat (first | apply Kd.R_alloc | apply Kd.R_drewN | apply Kd.R_drew)); exact HO196.out⟩, ⟨by (with_reducible repeat (first | apply Kd.S_alloc | apply Kd.S_drewN | apply Kd.S_drew)); exact HO198.out⟩, ⟨by repeat (first | (with_reducible first | exact HB.out | apply below_alloc | apply pw_below_drewN | apply below_drew1) | exact HB.out)⟩⟩)
          | (refine Met.intro ?_; go_step; (repeat apply Exists.intro); refine ⟨?_, ?_⟩; rotate_left; (focus (simp only [c27b0]; try rfl)); exact ⟨_, (true), (by first | rfl | (rw [bl_gt] <;> rfl) | (simp; done) | (simp [*]; done)), H', ⟨by have := HJ4.out; first | omega | exact Nat.le_refl _⟩, ⟨by (with_reducible repeat (first | apply Kd.R_alloc | apply Kd.R_drewN | apply Kd.R_drew)); exact HO196.out⟩, ⟨by (with_reducible repeat (first | apply Kd.S_alloc | apply Kd.S_drewN | apply Kd.S_drew)); exact HO198.out⟩, ⟨by repeat (first | (with_reducible first | exact HB.out | apply below_alloc | apply pw_below_drewN | apply below_drew1) | exact HB.out)⟩⟩)
        ·rw [if_neg c31] at H
         exact absurd H (by simp)
       ·replace c30 := Bool.eq_false_iff.mpr c30
        subst c30
        have H1 : (folkmootlaw08_TxnSees.j1 kj4 a0 l2 a3 t193 t194 true) = some r := by rw [if_neg (show ¬ (false = true) by decide)] at H; exact H
        clear H
        have H := H1
        clear H1
        have H' := Aside0.mk H
        clear H
        obtain ⟨Ao53, co53, eo53⟩ := Kd.S_slice HO198.out
        subst eo53
        have p199 : 0 ≤ (0 : Int) := (by omega)
        have q199 : 0 < (t194.length : Int) := of_decide_eq_true (by first | (with_reducible assumption) | assumption)
        obtain ⟨ad199, A199_2, c199_2, e199, hx199_0, hx199_1, hx199_2, hl199_2, hi199_2⟩ := at_T65 (Kd.S_reads' HO198.out).2.2 0 p199 q199
        (try rw [← Nbq29.out] at hx199_0)
        cases e199
        obtain ⟨ce199, hce199, hMe199, hcc199⟩ := Kd.S_get HO198.out z65 0 p199 (by first | exact q199 | exact of_decide_eq_true (by first | (with_reducible assumption) | assumption) | (have e_ := (Kd.S_reads' HO198.out).1; omega))
        obtain ⟨ve199_2, rfl, ge199_2⟩ := k65_openM hMe199
        have hv199_2 := hcc199 2 _ rfl
        rw [add_field _ _ 2 (by omega)] at hv199_2
        replace hv199_2 := Option.some.inj (hv199_2.symm.trans hx199_2)
        rw [hv199_2] at ge199_2
        have HL199_2 := Aside0.mk (show Kd.R k61 61 _ _ _ _ ((rd_T65 t194 0).f2) from ge199_2)
        clear hv199_2 ge199_2
        clear hcc199 hce199
        have qi199 : (0 < t194.length) = True := eq_true (by omega)
        (try rw [show ((0 : Int)).toNat = 0 from rfl] at hx199_0)
        (try rw [show 0 * 3 = 0 from rfl] at hx199_0)
        (try rw [Addr.add_zero'] at hx199_0)
        (try rw [show ((0 : Int)).toNat = 0 from rfl] at hx199_1)
        (try rw [show 0 * 3 = 0 from rfl] at hx199_1)
        (try rw [Addr.add_zero'] at hx199_1)
        (try rw [show ((0 : Int)).toNat = 0 from rfl] at hx199_2)
        (try rw [show 0 * 3 = 0 from rfl] at hx199_2)
        (try rw [Addr.add_zero'] at hx199_2)
        have HR199_2 := Aside0.mk hi199_2
        have HC199_2 := Aside0.mk hl199_2
        clear hi199_2 hl199_2
        replace p199 := eq_true p199
        replace q199 := eq_true q199
        go_wp2
        first
        | (go_meet; case rel => exact ⟨_, (true), (by first | rfl | (rw [bl_gt] <;> rfl) | (simp; done) | (simp [*]; done)), H', ⟨by have := HJ4.out; first | omega | exact Nat.le_refl _⟩, ⟨by (with_reducible repeat (first | apply Kd.R_alloc | apply Kd.R_drewN | apply Kd.R_drew)); exact HO196.out⟩, ⟨by (with_reducible repeat (first | apply Kd.S_alloc | apply Kd.S_drewN | apply Kd.S_drew)); exact HO198.out⟩, ⟨by repeat (first | (with_reducible first | exact HB.out | apply below_alloc | apply pw_below_drewN | apply below_drew1) | exact HB.out)⟩⟩)
        | (refine Met.intro ?_; go_step; (repeat apply Exists.intro); refine ⟨?_, ?_⟩; rotate_left; (focus (simp only [c27b0]; try rfl)); exact ⟨_, (true), (by first | rfl | (rw [bl_gt] <;> rfl) | (simp; done) | (simp [*]; done)), H', ⟨by have := HJ4.out; first | omega | exact Nat.le_refl _⟩, ⟨by (with_reducible repeat (first | apply Kd.R_alloc | apply Kd.R_drewN | apply Kd.R_drew)); exact HO196.out⟩, ⟨by (with_reducible repeat (first | apply Kd.S_alloc | apply Kd.S_drewN | apply Kd.S_drew)); exact HO198.out⟩, ⟨by repeat (first | (with_reducible first | exact HB.out | apply below_alloc | apply pw_below_drewN | apply below_drew1) | exact HB.out)⟩⟩)
      ·rw [if_neg c28] at H
       exact absurd H (by simp)
     ·rw [if_neg c27] at H
      have c27b0 : ((t194.length : Int) == 5) = false := beq_eq_false_iff_ne.mpr c27
      have c27b1 : ((t194.length : Int) != 5) = true := bne_iff_ne.mpr c27
      (first | rw [c27b0] | (simp only [i64_w, i32_w]; rw [c27b0]) | skip)
      have H' := Aside0.mk H
      clear H
      obtain ⟨Ao54, co54, eo54⟩ := Kd.S_slice HO198.out
      subst eo54
      go_wp2
      first
      | (go_meet; case rel => exact ⟨_, (true), (by first | rfl | (rw [bl_gt] <;> rfl) | (simp; done) | (simp [*]; done)), H', ⟨by have := HJ4.out; first | omega | exact Nat.le_refl _⟩, ⟨by (with_reducible repeat (first | apply Kd.R_alloc | apply Kd.R_drewN | apply Kd.R_drew)); exact HO196.out⟩, ⟨by (with_reducible repeat (first | apply Kd.S_alloc | apply Kd.S_drewN | apply Kd.S_drew)); exact HO198.out⟩, ⟨by repeat (first | (with_reducible first | exact HB.out | apply below_alloc | apply pw_below_drewN | apply below_drew1) | exact HB.out)⟩⟩)
      | (refine Met.intro ?_; go_step; (repeat apply Exists.intro); refine ⟨?_, ?_⟩; rotate_left; (focus (simp only [c27b0]; try rfl)); exact ⟨_, (true), (by first | rfl | (rw [bl_gt] <;> rfl) | (simp; done) | (simp [*]; done)), H', ⟨by have := HJ4.out; first | omega | exact Nat.le_refl _⟩, ⟨by (with_reducible repeat (first | apply Kd.R_alloc | apply Kd.R_drewN | apply Kd.R_drew)); exact HO196.out⟩, ⟨by (with_reducible repeat (first | apply Kd.S_alloc | apply Kd.S_drewN | apply Kd.S_drew)); exact HO198.out⟩, ⟨by repeat (first | (with_reducible first | exact HB.out | apply below_alloc | apply pw_below_drewN | apply below_drew1) | exact HB.out)⟩⟩)
    case rest =>
     clear HC24
     try clear c1
     try clear p1
     try clear q1
     try clear hx1
     try clear qi1
     try clear c2
     try clear p2
     try clear q2
     try clear hx2
     try clear qi2
     try clear c3
     try clear q3
     try clear c4
     try clear c19
     try clear p19
     try clear q19
     try clear hx19
     try clear qi19
     try clear c20
     try clear p20
     try clear q20
     try clear hx20
     try clear qi20
     try clear c27
     try clear c27b0
     try clear c27b1
     try clear c28
     try clear q29
     try clear c30
     try clear c31
     try clear q32
     try clear c33
     try clear c34
     try clear c34b0
     try clear c34b1
     try clear c35
     try clear q36
     try clear c37
     try clear c38
     try clear q39
     try clear c42
     try clear c42b0
     try clear c42b1
     try clear hx199_0
     try clear hx199_1
     try clear hx199_2
     try clear hx200_0
     try clear hx200_1
     try clear hx200_2
     try clear hx201_0
     try clear hx201_1
     try clear hx201_2
     try clear hx202_0
     try clear hx202_1
     try clear hx202_2
     try clear hx203_0
     try clear hx203_1
     try clear hx203_2
     try clear hx204_0
     try clear hx204_1
     try clear hx204_2
     try clear p199
     try clear p200
     try clear p201
     try clear p202
     try clear p203
     try clear p204
     try clear q199
     try clear q200
     try clear q201
     try clear q202
     try clear q203
     try clear q204
     obtain ⟨kq, x104_23, rfl, HA, HJ23, HO_10, HO_11, HB⟩ := hcut
     cases kq with
     | zero => exact absurd HA.out (by simp [folkmootlaw08_TxnSees.j1])
     | succ kj23 =>
      have H := HA.out
      clear HA
      simp only [folkmootlaw08_TxnSees.j1] at H
      by_cases c55 : x104_23 = true
      ·subst c55
       have H1 : (some false) = some r := by rw [if_pos rfl] at H; exact H
       clear H
       have H := H1
       clear H1
       obtain rfl := Option.some.inj H
       go_wp2
       go_ret
       exact ⟨by first | rfl | (rw [bl_gt] <;> rfl) | (simp [errW_none, errW_some] <;> rfl) | (simp [*, errW_none, errW_some] <;> rfl), by repeat (first | (with_reducible first | exact HB.out | apply below_alloc | apply pw_below_drewN | apply below_drew1) | exact HB.out)⟩
      ·replace c55 := Bool.eq_false_iff.mpr c55
       subst c55
       have H1 : ((txn_Apply.f l2 (([(⟨a0, 0, true⟩ : S69)] : List (S69)))).bind fun t209 => (if 4 < (t194.length : Int) then ((txn_Pick.f t209 (([(⟨a0, a3⟩ : S71)] : List (S71)))).bind fun t216 => ((folkmootref08_Pairs.f kj23 ((rd_T65 t194 4).f2) t216).bind fun t219 => (if t219 = true then ((txn_Apply.f l2 t193).bind fun t220 => ((folkmootref08_Pairs.f kj23 t220 t209).bind fun t223 => (if t223 = true then ((folkmootlaw08_live.f).bind fun t224 => (some t224)) else (some false)))) else (some false)))) else (none))) = some r := by rw [if_neg (show ¬ (false = true) by decide)] at H; exact H
       clear H
       have H := H1
       clear H1
       obtain ⟨y206, hy206⟩ : ∃ y_ : List (S69), y_ = (([(⟨a0, 0, true⟩ : S69)] : List (S69))) := ⟨_, rfl⟩
       replace H : ((txn_Apply.f l2 y206).bind fun t209 => (if 4 < (t194.length : Int) then ((txn_Pick.f t209 (([(⟨a0, a3⟩ : S71)] : List (S71)))).bind fun t216 => ((folkmootref08_Pairs.f kj23 ((rd_T65 t194 4).f2) t216).bind fun t219 => (if t219 = true then ((txn_Apply.f l2 t193).bind fun t220 => ((folkmootref08_Pairs.f kj23 t220 t209).bind fun t223 => (if t223 = true then ((folkmootlaw08_live.f).bind fun t224 => (some t224)) else (some false)))) else (some false)))) else (none))) = some r := by first | (rw [hy206]; with_reducible exact H) | (have H2_ := (Option.bind_some _ _).symm.trans H; rw [hy206]; with_reducible exact H2_) | (have H2_ := (Option.bind_some _ _).symm.trans H; with_reducible exact H2_) | with_reducible exact H | (rw [hy206]; exact H) | exact H
       have Ny206 := Aside0.mk hy206
       clear hy206
       replace H := Option.bind_eq_some_iff.mp H
       obtain ⟨t209, A560, H⟩ := H
       replace H : (if 4 < (t194.length : Int) then ((txn_Pick.f t209 (([(⟨a0, a3⟩ : S71)] : List (S71)))).bind fun t216 => ((folkmootref08_Pairs.f kj23 ((rd_T65 t194 4).f2) t216).bind fun t219 => (if t219 = true then ((txn_Apply.f l2 t193).bind fun t220 => ((folkmootref08_Pairs.f kj23 t220 t209).bind fun t223 => (if t223 = true then ((folkmootlaw08_live.f).bind fun t224 => (some t224)) else (some false)))) else (some false)))) else (none)) = some r := H
       have A56 := Aside0.mk A560
       clear A560
       by_cases c57 : 4 < (t194.length : Int)
       ·rw [if_pos c57] at H
        have c57b0 : decide (4 < (t194.length : Int)) = true := decide_eq_true c57
        have c57b1 : decide (4 < t194.length) = true := decide_eq_true (by omega)
        clear c57
        obtain ⟨y213, hy213⟩ : ∃ y_ : List (S71), y_ = (([(⟨a0, a3⟩ : S71)] : List (S71))) := ⟨_, rfl⟩
        replace H : ((txn_Pick.f t209 y213).bind fun t216 => ((folkmootref08_Pairs.f kj23 ((rd_T65 t194 4).f2) t216).bind fun t219 => (if t219 = true then ((txn_Apply.f l2 t193).bind fun t220 => ((folkmootref08_Pairs.f kj23 t220 t209).bind fun t223 => (if t223 = true then ((folkmootlaw08_live.f).bind fun t224 => (some t224)) else (some false)))) else (some false)))) = some r := by first | (rw [hy213]; with_reducible exact H) | (have H2_ := (Option.bind_some _ _).symm.trans H; rw [hy213]; with_reducible exact H2_) | (have H2_ := (Option.bind_some _ _).symm.trans H; with_reducible exact H2_) | with_reducible exact H | (rw [hy213]; exact H) | exact H
        have Ny213 := Aside0.mk hy213
        clear hy213
        replace H := Option.bind_eq_some_iff.mp H
        obtain ⟨t216, A580, H⟩ := H
        replace H : ((folkmootref08_Pairs.f kj23 ((rd_T65 t194 4).f2) t216).bind fun t219 => (if t219 = true then ((txn_Apply.f l2 t193).bind fun t220 => ((folkmootref08_Pairs.f kj23 t220 t209).bind fun t223 => (if t223 = true then ((folkmootlaw08_live.f).bind fun t224 => (some t224)) else (some false)))) else (some false))) = some r := H
        have A58 := Aside0.mk A580
        clear A580
        replace H := Option.bind_eq_some_iff.mp H
        obtain ⟨t219, A590, H⟩ := H
        replace H : (if t219 = true then ((txn_Apply.f l2 t193).bind fun t220 => ((folkmootref08_Pairs.f kj23 t220 t209).bind fun t223 => (if t223 = true then ((folkmootlaw08_live.f).bind fun t224 => (some t224)) else (some false)))) else (some false)) = some r := H
        have A59 := Aside0.mk A590
        clear A590
        by_cases c60 : t219 = true
        ·subst c60
         have H1 : ((txn_Apply.f l2 t193).bind fun t220 => ((folkmootref08_Pairs.f kj23 t220 t209).bind fun t223 => (if t223 = true then ((folkmootlaw08_live.f).bind fun t224 => (some t224)) else (some false)))) = some r := by rw [if_pos rfl] at H; exact H
         clear H
         have H := H1
         clear H1
         replace H := Option.bind_eq_some_iff.mp H
         obtain ⟨t220, A610, H⟩ := H
         replace H : ((folkmootref08_Pairs.f kj23 t220 t209).bind fun t223 => (if t223 = true then ((folkmootlaw08_live.f).bind fun t224 => (some t224)) else (some false))) = some r := H
         have A61 := Aside0.mk A610
         clear A610
         replace H := Option.bind_eq_some_iff.mp H
         obtain ⟨t223, A620, H⟩ := H
         replace H : (if t223 = true then ((folkmootlaw08_live.f).bind fun t224 => (some t224)) else (some false)) = some r := H
         have A62 := Aside0.mk A620
         clear A620
         by_cases c63 : t223 = true
         ·subst c63
          have H1 : ((folkmootlaw08_live.f).bind fun t224 => (some t224)) = some r := by rw [if_pos rfl] at H; exact H
          clear H
          have H := H1
          clear H1
          replace H := Option.bind_eq_some_iff.mp H
          obtain ⟨t224, A640, H⟩ := H
          replace H : (some t224) = some r := H
          have A64 := Aside0.mk A640
          clear A640
          obtain rfl := Option.some.inj H
          try go_wp2_with (first | ((with_reducible refine gate_dst (N := 108) rfl ?_); (try (refine gate_guard (by rfl) ?_; dsimp only)); refine Kd.R_lit k69 _ 69 ?hg (N := 108) ?hd (xs := ([(⟨a0, 0, true⟩ : S69)] : List (S69))) (inner := [.string a0, .int .u64 0, .bool true]) (ok := fun _ => True) (okp := fun _ => True) ?hr ?hp (fun _ hk => hk) trivial (Below.refl _ _) (Nat.le_refl _) (by simp) ?_; (case hd => rfl); (case hg => rfl); (case hr => first | (go_simp; done) | (go_simp; rfl)); (case hp => exact (Reps.c3 (show Kd.M k69 _ _ _ (⟨a0, 0, true⟩ : S69) [.string a0, .int .u64 0, .bool true] from (k69_mkM _ _ _ (⟨a0, 0, true⟩ : S69) )) (Reps.none _ _))); intro v207 w65 ho66 hb hg_ hnew_; clear hg_ hnew_; (first | rw [← Ny206.out] at ho66 | (simp only [Int.reduceToNat] at ho66; rw [← Ny206.out] at ho66)); have n0_ := Aside0.mk (Kd.R_elder' (by (with_reducible repeat (first | apply Kd.R_alloc | apply Kd.R_drewN | apply Kd.R_drew)); exact HO_10.out) (Kd.R_base ho66) hb); have n1_ := Aside0.mk (Kd.S_below (by (with_reducible repeat (first | apply Kd.S_alloc | apply Kd.S_drewN | apply Kd.S_drew)); exact HO_11.out) hb); have n2_ := Aside0.mk (Kd.R_lower (Kd.R_new' ho66 (Kd.R_lt (by (with_reducible repeat (first | apply Kd.R_alloc | apply Kd.R_drewN | apply Kd.R_drew)); exact HO_10.out))) (below_size (by repeat (first | (with_reducible first | exact HB.out | apply below_alloc | apply pw_below_drewN | apply below_drew1) | exact HB.out)))); have n3_ := Aside0.mk (below_step (by repeat (first | (with_reducible first | exact HB.out | apply below_alloc | apply pw_below_drewN | apply below_drew1) | exact HB.out)) hb); clear HO_10; clear HO_11; clear HB; have HO_10 := n0_; have HO_11 := n1_; have HO208 := n2_; have HB := n3_; clear n0_ n1_ n2_ n3_; clear hb ho66; obtain ⟨Ao67, co67, eo67⟩ := Kd.R_slice HO208.out; subst eo67) | ((with_reducible refine gate_callee (f := 32) rfl ?_); refine goesL_ (some 109) rfl rfl Tryz.func32 (by kernel_rfl) rfl #[.slice A2 l2.length c2, .slice Ao67 y206.length co67] rfl (by (try simp only [List.map_toArray, List.map_cons, List.map_nil]); first | done | rfl | (simp only [List.length_drop, List.length_take]; rfl)) ?_; (with_reducible refine (txn_Apply.calls _ _ l2 _ _ y206 t209 _ ?side1 ?side2 ?side3 ?side4 A56.out).mono ?_); (case side1 => repeat (first | exact (Kd.C_below HR2.out HB.out) | (with_reducible refine Kd.C_alloc ?_ _) | (with_reducible refine Kd.C_drewN ?_ _) | (with_reducible refine Kd.C_drew ?_))); (case side2 => exact HC2.out); (case side3 => repeat (first | exact (Kd.R_reads' HO208.out).2.2 | (with_reducible refine Kd.C_alloc ?_ _) | (with_reducible refine Kd.C_drewN ?_ _) | (with_reducible refine Kd.C_drew ?_))); (case side4 => exact (Kd.R_reads' HO208.out).2.1); rintro e w68 ⟨v210, rfl, ho0, hb⟩; refine ⟨_, rfl, ?_⟩; have n0_ := Aside0.mk (Kd.R_below (by (with_reducible repeat (first | apply Kd.R_alloc | apply Kd.R_drewN | apply Kd.R_drew)); exact HO_10.out) hb); have n1_ := Aside0.mk (Kd.S_elder' (by (with_reducible repeat (first | apply Kd.S_alloc | apply Kd.S_drewN | apply Kd.S_drew)); exact HO_11.out) (Kd.R_base ho0) hb); have n2_ := Aside0.mk (Kd.R_below (by (with_reducible repeat (first | apply Kd.R_alloc | apply Kd.R_drewN | apply Kd.R_drew)); exact HO208.out) hb); have n3_ := Aside0.mk (Kd.R_lower ho0 (below_size (by repeat (first | (with_reducible first | exact HB.out | apply below_alloc | apply pw_below_drewN | apply below_drew1) | exact HB.out)))); have n4_ := Aside0.mk (below_step (by repeat (first | (with_reducible first | exact HB.out | apply below_alloc | apply pw_below_drewN | apply below_drew1) | exact HB.out)) hb); clear HO_10; clear HO_11; clear HO208; clear HB; have HO_10 := n0_; have HO_11 := n1_; have HO208 := n2_; have HO211 := n3_; have HB := n4_; clear n0_ n1_ n2_ n3_ n4_; (try clear hb); (try clear hb2); (try clear hk); (try clear hi); (try clear ho0)))
          have n0_ := Aside0.mk (Kd.R_drew HO_10.out)
          have n1_ := Aside0.mk (Kd.S_drew HO_11.out)
          have n2_ := Aside0.mk (Kd.R_drew HO208.out)
          have n3_ := Aside0.mk (Kd.R_drew HO211.out)
          have n4_ := Aside0.mk (below_drew1 HB.out)
          clear HO_10
          clear HO_11
          clear HO208
          clear HO211
          clear HB
          have HO_10 := n0_
          have HO_11 := n1_
          have HO208 := n2_
          have HO211 := n3_
          have HB := n4_
          clear n0_ n1_ n2_ n3_ n4_
          obtain ⟨Ao70, co70, eo70⟩ := Kd.S_slice HO_11.out
          (first | subst eo70 | (injection eo70 with f1_ f2_ f3_; have f4_ := f1_.symm; have f5_ := f3_.symm; clear f1_ f2_ f3_; subst f4_; subst f5_))
          have p212 : 0 ≤ (4 : Int) := (by omega)
          have q212 : 4 < (t194.length : Int) := of_decide_eq_true (by first | (with_reducible assumption) | assumption)
          obtain ⟨ad212, A212_2, c212_2, e212, hx212_0, hx212_1, hx212_2, hl212_2, hi212_2⟩ := at_T65 (Kd.S_reads' HO_11.out).2.2 4 p212 q212
          cases e212
          obtain ⟨ce212, hce212, hMe212, hcc212⟩ := Kd.S_get HO_11.out z65 4 p212 (by first | exact q212 | exact of_decide_eq_true (by first | (with_reducible assumption) | assumption) | (have e_ := (Kd.S_reads' HO_11.out).1; omega))
          obtain ⟨ve212_2, rfl, ge212_2⟩ := k65_openM hMe212
          have hv212_2 := hcc212 2 _ rfl
          rw [add_field _ _ 2 (by omega)] at hv212_2
          replace hv212_2 := Option.some.inj (hv212_2.symm.trans hx212_2)
          rw [hv212_2] at ge212_2
          have HL212_2 := Aside0.mk (show Kd.R k61 61 _ _ _ _ ((rd_T65 t194 4).f2) from ge212_2)
          clear hv212_2 ge212_2
          clear hcc212 hce212
          (try simp only [show (4 : Int).toNat = 4 from rfl, Nat.reduceMul, Nat.reduceEqDiff, Go.Addr.add, ↓reduceIte] at hx212_0)
          (try simp only [show (4 : Int).toNat = 4 from rfl, Nat.reduceMul, Nat.reduceEqDiff, Go.Addr.add, ↓reduceIte] at hx212_1)
          (try simp only [show (4 : Int).toNat = 4 from rfl, Nat.reduceMul, Nat.reduceEqDiff, Go.Addr.add, ↓reduceIte] at hx212_2)
          have qi212 : (4 < t194.length) = True := eq_true (by omega)
          (try rw [show ((4 : Int)).toNat = 4 from rfl] at hx212_0)
          (try rw [show 4 * 3 = 12 from rfl] at hx212_0)
          (try rw [show ((4 : Int)).toNat = 4 from rfl] at hx212_1)
          (try rw [show 4 * 3 = 12 from rfl] at hx212_1)
          (try rw [show ((4 : Int)).toNat = 4 from rfl] at hx212_2)
          (try rw [show 4 * 3 = 12 from rfl] at hx212_2)
          have HR212_2 := Aside0.mk hi212_2
          have HC212_2 := Aside0.mk hl212_2
          clear hi212_2 hl212_2
          replace p212 := eq_true p212
          replace q212 := eq_true q212
          refine start_ (n := 22) (S := fun w' => w'.cell? ⟨ad212.block, ad212.off + 12, none⟩ = some (.bool ((rd_T65 t194 4).f0)) ∧ w'.cell? ⟨ad212.block, ad212.off + 12 + 1, none⟩ = some (.int .u64 ((rd_T65 t194 4).f1)) ∧ w'.cell? ⟨ad212.block, ad212.off + 12 + 2, none⟩ = some (.slice A212_2 ((rd_T65 t194 4).f2).length c212_2)) (ds := []) #[false,false,false,false,false,false,false,false,false,false,false,false,false,false,false,false,false,false,false,false,false,false] (by kernel_rfl) rfl rfl ⟨hx212_0, hx212_1, hx212_2⟩ (fun hHeld => ?_); refine with_tabW folkmootlaw08_TxnSees.tab8 folkmootlaw08_TxnSees.bits8 (fun HT_ HW_ => ?_)
          generalize w68.drew = w69 at HO_10 HO_11 HO208 HO211 HB HL212_2 HR212_2 hx212_0 hx212_1 hx212_2 hHeld ⊢
          refine pure_ (i := 0) (N := some 110) (v := ?_) (a' := ?_) #[true,false,false,false,false,false,false,false,false,false,false,false,false,false,false,false,false,false,false,false,false,false] rfl rfl (any_of HT_.out (by kernel_rfl)) (fun _ _ _ h => h) (Or.inl ⟨by rfl, ?_⟩) ?_ ?_
          rotate_left
          ·intro w'
           go_simp
           with_reducible rfl
          rotate_left
          ·simp only [Act.put, List.setIfInBounds_toArray, List.set_cons_zero, List.set_cons_succ, i64_w, i32_w]
           rfl
          refine pure_ (i := 1) (N := some 111) (v := ?_) (a' := ?_) #[true,true,false,false,false,false,false,false,false,false,false,false,false,false,false,false,false,false,false,false,false,false] rfl rfl (any_of HT_.out (by kernel_rfl)) (fun _ _ _ h => h) (Or.inl ⟨by rfl, ?_⟩) ?_ ?_
          rotate_left
          ·intro w'
           go_simp
           with_reducible rfl
          rotate_left
          ·simp only [Act.put, List.setIfInBounds_toArray, List.set_cons_zero, List.set_cons_succ, i64_w, i32_w]
           rfl
          refine pure_ (i := 2) (N := some 112) (v := ?_) (a' := ?_) #[true,true,true,false,false,false,false,false,false,false,false,false,false,false,false,false,false,false,false,false,false,false] rfl rfl (any_of HT_.out (by kernel_rfl)) (fun _ _ _ h => h) (Or.inl ⟨by rfl, ?_⟩) ?_ ?_
          rotate_left
          ·intro w'
           go_simp
           with_reducible rfl
          rotate_left
          ·simp only [Act.put, List.setIfInBounds_toArray, List.set_cons_zero, List.set_cons_succ, i64_w, i32_w]
           rfl
          refine pure_ (i := 4) (N := some 114) (v := ?_) (a' := ?_) #[true,true,true,false,true,false,false,false,false,false,false,false,false,false,false,false,false,false,false,false,false,false] rfl rfl (any_of HT_.out (by kernel_rfl)) (fun _ _ _ h => h) (Or.inl ⟨by rfl, ?_⟩) ?_ ?_
          rotate_left
          ·intro w'
           go_simp
           with_reducible rfl
          rotate_left
          ·simp only [Act.put, List.setIfInBounds_toArray, List.set_cons_zero, List.set_cons_succ, i64_w, i32_w]
           rfl
          refine pure_ (i := 5) (N := some 115) (v := ?_) (a' := ?_) #[true,true,true,false,true,true,false,false,false,false,false,false,false,false,false,false,false,false,false,false,false,false] rfl rfl (any_of HT_.out (by kernel_rfl)) (fun _ _ _ h => h) (Or.inl ⟨by rfl, ?_⟩) ?_ ?_
          rotate_left
          ·intro w'
           go_simp
           with_reducible rfl
          rotate_left
          ·simp only [Act.put, List.setIfInBounds_toArray, List.set_cons_zero, List.set_cons_succ, i64_w, i32_w]
           rfl
          refine pure_ (i := 6) (N := some 116) (v := ?_) (a' := ?_) #[true,true,true,false,true,true,true,false,false,false,false,false,false,false,false,false,false,false,false,false,false,false] rfl rfl (any_of HT_.out (by kernel_rfl)) (fun _ _ _ h => h) (Or.inl ⟨by rfl, ?_⟩) ?_ ?_
          rotate_left
          ·intro w'
           go_simp
           with_reducible rfl
          rotate_left
          ·simp only [Act.put, List.setIfInBounds_toArray, List.set_cons_zero, List.set_cons_succ, i64_w, i32_w]
           rfl
          refine pure_ (i := 7) (N := some 117) (v := ?_) (a' := ?_) #[true,true,true,false,true,true,true,true,false,false,false,false,false,false,false,false,false,false,false,false,false,false] rfl rfl (any_of HT_.out (by kernel_rfl)) (fun _ _ _ h => h) (Or.inl ⟨by rfl, ?_⟩) ?_ ?_
          rotate_left
          ·intro w'
           go_simp
           with_reducible rfl
          rotate_left
          ·simp only [Act.put, List.setIfInBounds_toArray, List.set_cons_zero, List.set_cons_succ, i64_w, i32_w]
           rfl
          refine take_ (i := 3) (N := some 113) (v := ?_) (a' := ?_) #[true,true,true,true,true,true,true,true,false,false,false,false,false,false,false,false,false,false,false,false,false,false] rfl rfl (take_ofW HT_.out HW_.out (by kernel_rfl)) (fun _ _ _ h => h) (Or.inl ⟨by rfl, ?_⟩) hHeld ?_ ?_
          rotate_left
          ·rintro w' ⟨s0, s1, s2⟩
           go_simp
           with_reducible rfl
          rotate_left
          ·simp only [Act.put, List.setIfInBounds_toArray, List.set_cons_zero, List.set_cons_succ, i64_w, i32_w]
           rfl
          refine one_ (i := 8) (N := some 118) #[true,true,true,true,true,true,true,true,true,false,false,false,false,false,false,false,false,false,false,false,false,false] rfl rfl (one_of HT_.out (by kernel_rfl)) (by decide) (fun K hK => ?_)
          refine Kd.R_lit_step k71 _ 71 ?hg (N := 118) ?hd (xs := ([(⟨a0, a3⟩ : S71)] : List (S71))) (inner := [.string a0, .string a3]) (ok := fun _ => True) (okp := fun _ => True) ?hr ?hp (fun _ hk => hk) trivial (Below.refl _ _) (Nat.le_refl _) (by simp) ?_; (case hd => rfl); (case hg => rfl); (case hr => first | (go_simp; done) | (go_simp; rfl)); (case hp => exact (Reps.c2 (show Kd.M k71 _ _ _ (⟨a0, a3⟩ : S71) [.string a0, .string a3] from (k71_mkM _ _ _ (⟨a0, a3⟩ : S71) )) (Reps.none _ _)))
          intro v214 w71 ho72 hb hg_ hnew_
          have HS0_ := (hb.cell (World.block_lt_of_cell? _ _ (hHeld.1))).trans (hHeld.1)
          have HS1_ := (hb.cell (World.block_lt_of_cell? _ _ (hHeld.2.1))).trans (hHeld.2.1)
          have HS2_ := (hb.cell (World.block_lt_of_cell? _ _ (hHeld.2.2))).trans (hHeld.2.2)
          clear hg_ hnew_
          (first | rw [← Ny213.out] at ho72 | (simp only [Int.reduceToNat] at ho72; rw [← Ny213.out] at ho72))
          have n0_ := Aside0.mk (Kd.R_below (by (with_reducible repeat (first | apply Kd.R_alloc | apply Kd.R_drewN | apply Kd.R_drew)); exact HO_10.out) hb)
          have n1_ := Aside0.mk (Kd.S_below (by (with_reducible repeat (first | apply Kd.S_alloc | apply Kd.S_drewN | apply Kd.S_drew)); exact HO_11.out) hb)
          have n2_ := Aside0.mk (Kd.R_below (by (with_reducible repeat (first | apply Kd.R_alloc | apply Kd.R_drewN | apply Kd.R_drew)); exact HO208.out) hb)
          have n3_ := Aside0.mk (Kd.R_below (by (with_reducible repeat (first | apply Kd.R_alloc | apply Kd.R_drewN | apply Kd.R_drew)); exact HO211.out) hb)
          have n4_ := Aside0.mk (Kd.R_below (by (with_reducible repeat (first | apply Kd.R_alloc | apply Kd.R_drewN | apply Kd.R_drew)); exact HL212_2.out) hb)
          have n5_ := Aside0.mk (Kd.R_lower ho72 (below_size (by repeat (first | (with_reducible first | exact HB.out | apply below_alloc | apply pw_below_drewN | apply below_drew1) | exact HB.out))))
          have n6_ := Aside0.mk (Kd.C_below (by repeat (first | (with_reducible exact HR212_2.out) | (with_reducible refine Kd.C_alloc ?_ _) | (with_reducible refine Kd.C_drewN ?_ _) | (with_reducible refine Kd.C_drew ?_) | exact HR212_2.out)) hb)
          have n7_ := Aside0.mk (below_step (by repeat (first | (with_reducible first | exact HB.out | apply below_alloc | apply pw_below_drewN | apply below_drew1) | exact HB.out)) hb)
          clear HO_10
          clear HO_11
          clear HO208
          clear HO211
          clear HL212_2
          clear HR212_2
          clear HB
          have HO_10 := n0_
          have HO_11 := n1_
          have HO208 := n2_
          have HO211 := n3_
          have HL212_2 := n4_
          have HO215 := n5_
          have HR212_2 := n6_
          have HB := n7_
          clear n0_ n1_ n2_ n3_ n4_ n5_ n6_ n7_
          clear hb ho72
          obtain ⟨Ao73, co73, eo73⟩ := Kd.R_slice HO211.out
          (first | subst eo73 | (injection eo73 with f1_ f2_ f3_; have f4_ := f1_.symm; have f5_ := f3_.symm; clear f1_ f2_ f3_; subst f4_; subst f5_))
          obtain ⟨Ao74, co74, eo74⟩ := Kd.R_slice HO215.out
          (first | subst eo74 | (injection eo74 with f1_ f2_ f3_; have f4_ := f1_.symm; have f5_ := f3_.symm; clear f1_ f2_ f3_; subst f4_; subst f5_))
          refine hK.out _ _ ⟨HS0_, HS1_, HS2_⟩ (fun hHeld => ?_)
          clear hK K
          refine norm_ (a' := ?_) ?_ ?_
          rotate_left
          ·show Act.put _ (some 118) _ = _
           simp only [Act.put, List.setIfInBounds_toArray, List.set_cons_zero, List.set_cons_succ, i64_w, i32_w]
           rfl
          refine one_ (i := 9) (N := some 119) #[true,true,true,true,true,true,true,true,true,true,false,false,false,false,false,false,false,false,false,false,false,false] rfl rfl (one_of HT_.out (by kernel_rfl)) (by decide) (fun K hK => ?_)
          refine goes_ Tryz.func34 (by kernel_rfl) rfl #[.slice Ao73 t209.length co73, .slice Ao74 y213.length co74] (by rfl) rfl rfl (by (try simp only [List.map_toArray, List.map_cons, List.map_nil]); first | done | rfl | (simp only [List.length_drop, List.length_take]; rfl)) ?_
          with_reducible refine (txn_Pick.calls _ _ t209 _ _ y213 t216 _ ?side1 ?side2 ?side3 ?side4 A58.out).mono ?_
          (case side1 => repeat (first | exact (Kd.R_reads' HO211.out).2.2 | (with_reducible refine Kd.C_alloc ?_ _) | (with_reducible refine Kd.C_drewN ?_ _) | (with_reducible refine Kd.C_drew ?_)))
          (case side2 => exact (Kd.R_reads' HO211.out).2.1)
          (case side3 => repeat (first | exact (Kd.R_reads' HO215.out).2.2 | (with_reducible refine Kd.C_alloc ?_ _) | (with_reducible refine Kd.C_drewN ?_ _) | (with_reducible refine Kd.C_drew ?_)))
          (case side4 => exact (Kd.R_reads' HO215.out).2.1)
          rintro e w75 ⟨v217, rfl, ho0, hb⟩
          have HS0_ := (hb.cell (World.block_lt_of_cell? _ _ (hHeld.1))).trans (hHeld.1)
          have HS1_ := (hb.cell (World.block_lt_of_cell? _ _ (hHeld.2.1))).trans (hHeld.2.1)
          have HS2_ := (hb.cell (World.block_lt_of_cell? _ _ (hHeld.2.2))).trans (hHeld.2.2)
          refine ⟨_, rfl, ?_⟩
          have n0_ := Aside0.mk (Kd.R_below (by (with_reducible repeat (first | apply Kd.R_alloc | apply Kd.R_drewN | apply Kd.R_drew)); exact HO_10.out) hb)
          have n1_ := Aside0.mk (Kd.S_elder' (by (with_reducible repeat (first | apply Kd.S_alloc | apply Kd.S_drewN | apply Kd.S_drew)); exact HO_11.out) (Kd.R_base ho0) hb)
          have n2_ := Aside0.mk (Kd.R_below (by (with_reducible repeat (first | apply Kd.R_alloc | apply Kd.R_drewN | apply Kd.R_drew)); exact HO208.out) hb)
          have n3_ := Aside0.mk (Kd.R_elder' (by (with_reducible repeat (first | apply Kd.R_alloc | apply Kd.R_drewN | apply Kd.R_drew)); exact HO211.out) (Kd.R_base ho0) hb)
          have n4_ := Aside0.mk (Kd.R_elder' (by (with_reducible repeat (first | apply Kd.R_alloc | apply Kd.R_drewN | apply Kd.R_drew)); exact HL212_2.out) (Kd.R_base ho0) hb)
          have n5_ := Aside0.mk (Kd.R_below (by (with_reducible repeat (first | apply Kd.R_alloc | apply Kd.R_drewN | apply Kd.R_drew)); exact HO215.out) hb)
          have n6_ := Aside0.mk (Kd.R_lower (Kd.R_new' (Kd.R_new' ho0 (Kd.R_lt (by (with_reducible repeat (first | apply Kd.R_alloc | apply Kd.R_drewN | apply Kd.R_drew)); exact HO211.out))) (Kd.R_lt (by (with_reducible repeat (first | apply Kd.R_alloc | apply Kd.R_drewN | apply Kd.R_drew)); exact HL212_2.out))) (below_size (by repeat (first | (with_reducible first | exact HB.out | apply below_alloc | apply pw_below_drewN | apply below_drew1) | exact HB.out))))
          have n7_ := Aside0.mk (Kd.C_below (by repeat (first | (with_reducible exact HR212_2.out) | (with_reducible refine Kd.C_alloc ?_ _) | (with_reducible refine Kd.C_drewN ?_ _) | (with_reducible refine Kd.C_drew ?_) | exact HR212_2.out)) hb)
          have n8_ := Aside0.mk (below_step (by repeat (first | (with_reducible first | exact HB.out | apply below_alloc | apply pw_below_drewN | apply below_drew1) | exact HB.out)) hb)
          clear HO_10
          clear HO_11
          clear HO208
          clear HO211
          clear HL212_2
          clear HO215
          clear HR212_2
          clear HB
          have HO_10 := n0_
          have HO_11 := n1_
          have HO208 := n2_
          have HO211 := n3_
          have HL212_2 := n4_
          have HO215 := n5_
          have HO218 := n6_
          have HR212_2 := n7_
          have HB := n8_
          clear n0_ n1_ n2_ n3_ n4_ n5_ n6_ n7_ n8_
          (try clear hb)
          (try clear hb2)
          (try clear hk)
          (try clear hi)
          (try clear ho0)
          obtain ⟨Ao76, co76, eo76⟩ := Kd.R_slice HO218.out
          (first | subst eo76 | (injection eo76 with f1_ f2_ f3_; have f4_ := f1_.symm; have f5_ := f3_.symm; clear f1_ f2_ f3_; subst f4_; subst f5_))
          refine hK.out _ _ ⟨HS0_, HS1_, HS2_⟩ (fun hHeld => ?_)
          clear hK K
          refine norm_ (a' := ?_) ?_ ?_
          rotate_left
          ·show Act.put _ (some 119) _ = _
           simp only [Act.put, List.setIfInBounds_toArray, List.set_cons_zero, List.set_cons_succ, i64_w, i32_w]
           rfl
          refine one_ (i := 10) (N := some 120) #[true,true,true,true,true,true,true,true,true,true,true,false,false,false,false,false,false,false,false,false,false,false] rfl rfl (one_of HT_.out (by kernel_rfl)) (by decide) (fun K hK => ?_)
          refine goes_ Tryz.func31 (by kernel_rfl) rfl #[.slice A212_2 ((rd_T65 t194 4).f2).length c212_2, .slice Ao76 t216.length co76] (by rfl) rfl rfl (by (try simp only [List.map_toArray, List.map_cons, List.map_nil]); first | done | rfl | (simp only [List.length_drop, List.length_take]; rfl)) ?_
          with_reducible refine (folkmootref08_Pairs.calls kj23 _ _ ((rd_T65 t194 4).f2) _ _ t216 true _ ?side1 ?side2 ?side3 ?side4 A59.out).mono ?_
          (case side1 => repeat (first | exact (by repeat (first | (with_reducible exact HR212_2.out) | (with_reducible refine Kd.C_alloc ?_ _) | (with_reducible refine Kd.C_drewN ?_ _) | (with_reducible refine Kd.C_drew ?_) | exact HR212_2.out)) | (with_reducible refine Kd.C_alloc ?_ _) | (with_reducible refine Kd.C_drewN ?_ _) | (with_reducible refine Kd.C_drew ?_)))
          (case side2 => exact HC212_2.out)
          (case side3 => repeat (first | exact (Kd.R_reads' HO218.out).2.2 | (with_reducible refine Kd.C_alloc ?_ _) | (with_reducible refine Kd.C_drewN ?_ _) | (with_reducible refine Kd.C_drew ?_)))
          (case side4 => exact (Kd.R_reads' HO218.out).2.1)
          rintro e w' ⟨rfl, ⟨nd, rfl⟩⟩
          refine ⟨_, rfl, ?_⟩
          obtain ⟨Ao77, co77, eo77⟩ := Kd.R_slice HO_10.out
          (first | subst eo77 | (injection eo77 with f1_ f2_ f3_; have f4_ := f1_.symm; have f5_ := f3_.symm; clear f1_ f2_ f3_; subst f4_; subst f5_))
          refine hK.out _ _ ⟨hHeld.1, hHeld.2.1, hHeld.2.2⟩ (fun hHeld => ?_)
          clear hK K
          refine norm_ (a' := ?_) ?_ ?_
          rotate_left
          ·show Act.put _ (some 120) _ = _
           simp only [Act.put, List.setIfInBounds_toArray, List.set_cons_zero, List.set_cons_succ, i64_w, i32_w]
           rfl
          refine pure_ (i := 11) (N := some 121) (v := ?_) (a' := ?_) #[true,true,true,true,true,true,true,true,true,true,true,true,false,false,false,false,false,false,false,false,false,false] rfl rfl (any_of HT_.out (by kernel_rfl)) (fun _ _ _ h => h) (Or.inl ⟨by rfl, ?_⟩) ?_ ?_
          rotate_left
          ·intro w'
           go_simp
           with_reducible rfl
          rotate_left
          ·simp only [Act.put, List.setIfInBounds_toArray, List.set_cons_zero, List.set_cons_succ, i64_w, i32_w]
           rfl
          refine pure_ (i := 12) (N := some 122) (v := ?_) (a' := ?_) #[true,true,true,true,true,true,true,true,true,true,true,true,true,false,false,false,false,false,false,false,false,false] rfl rfl (any_of HT_.out (by kernel_rfl)) (fun _ _ _ h => h) (Or.inl ⟨by rfl, ?_⟩) ?_ ?_
          rotate_left
          ·intro w'
           go_simp
           with_reducible rfl
          rotate_left
          ·simp only [Act.put, List.setIfInBounds_toArray, List.set_cons_zero, List.set_cons_succ, i64_w, i32_w]
           rfl
          refine pure_ (i := 13) (N := some 123) (v := ?_) (a' := ?_) #[true,true,true,true,true,true,true,true,true,true,true,true,true,true,false,false,false,false,false,false,false,false] rfl rfl (any_of HT_.out (by kernel_rfl)) (fun _ _ _ h => h) (Or.inl ⟨by rfl, ?_⟩) ?_ ?_
          rotate_left
          ·intro w'
           go_simp
           with_reducible rfl
          rotate_left
          ·simp only [Act.put, List.setIfInBounds_toArray, List.set_cons_zero, List.set_cons_succ, i64_w, i32_w]
           rfl
          refine pure_ (i := 15) (N := some 125) (v := ?_) (a' := ?_) #[true,true,true,true,true,true,true,true,true,true,true,true,true,true,false,true,false,false,false,false,false,false] rfl rfl (any_of HT_.out (by kernel_rfl)) (fun _ _ _ h => h) (Or.inl ⟨by rfl, ?_⟩) ?_ ?_
          rotate_left
          ·intro w'
           go_simp
           with_reducible rfl
          rotate_left
          ·simp only [Act.put, List.setIfInBounds_toArray, List.set_cons_zero, List.set_cons_succ, i64_w, i32_w]
           rfl
          refine one_ (i := 14) (N := some 124) #[true,true,true,true,true,true,true,true,true,true,true,true,true,true,true,true,false,false,false,false,false,false] rfl rfl (one_of HT_.out (by kernel_rfl)) (by decide) (fun K hK => ?_)
          refine goes_ Tryz.func32 (by kernel_rfl) rfl #[.slice A2 l2.length c2, .slice Ao77 t193.length co77] (by rfl) rfl rfl (by (try simp only [List.map_toArray, List.map_cons, List.map_nil]); first | done | rfl | (simp only [List.length_drop, List.length_take]; rfl)) ?_
          with_reducible refine (txn_Apply.calls _ _ l2 _ _ t193 t220 _ ?side1 ?side2 ?side3 ?side4 A61.out).mono ?_
          (case side1 => repeat (first | exact (Kd.C_below HR2.out (by repeat (first | (with_reducible first | exact HB.out | apply below_alloc | apply pw_below_drewN | apply below_drew1) | exact HB.out))) | (with_reducible refine Kd.C_alloc ?_ _) | (with_reducible refine Kd.C_drewN ?_ _) | (with_reducible refine Kd.C_drew ?_)))
          (case side2 => exact HC2.out)
          (case side3 => repeat (first | exact (Kd.R_reads' HO_10.out).2.2 | (with_reducible refine Kd.C_alloc ?_ _) | (with_reducible refine Kd.C_drewN ?_ _) | (with_reducible refine Kd.C_drew ?_)))
          (case side4 => exact (Kd.R_reads' HO_10.out).2.1)
          rintro e w78 ⟨v221, rfl, ho0, hb⟩
          have HS0_ := (hb.cell (World.block_lt_of_cell? _ _ (hHeld.1))).trans (hHeld.1)
          have HS1_ := (hb.cell (World.block_lt_of_cell? _ _ (hHeld.2.1))).trans (hHeld.2.1)
          have HS2_ := (hb.cell (World.block_lt_of_cell? _ _ (hHeld.2.2))).trans (hHeld.2.2)
          refine ⟨_, rfl, ?_⟩
          have n0_ := Aside0.mk (Kd.R_below (by (with_reducible repeat (first | apply Kd.R_alloc | apply Kd.R_drewN | apply Kd.R_drew)); exact HO_10.out) hb)
          have n1_ := Aside0.mk (Kd.S_elder' (by (with_reducible repeat (first | apply Kd.S_alloc | apply Kd.S_drewN | apply Kd.S_drew)); exact HO_11.out) (Kd.R_base ho0) hb)
          have n2_ := Aside0.mk (Kd.R_below (by (with_reducible repeat (first | apply Kd.R_alloc | apply Kd.R_drewN | apply Kd.R_drew)); exact HO208.out) hb)
          have n3_ := Aside0.mk (Kd.R_elder' (by (with_reducible repeat (first | apply Kd.R_alloc | apply Kd.R_drewN | apply Kd.R_drew)); exact HO211.out) (Kd.R_base ho0) hb)
          have n4_ := Aside0.mk (Kd.R_elder' (by (with_reducible repeat (first | apply Kd.R_alloc | apply Kd.R_drewN | apply Kd.R_drew)); exact HL212_2.out) (Kd.R_base ho0) hb)
          have n5_ := Aside0.mk (Kd.R_below (by (with_reducible repeat (first | apply Kd.R_alloc | apply Kd.R_drewN | apply Kd.R_drew)); exact HO215.out) hb)
          have n6_ := Aside0.mk (Kd.R_elder' (by (with_reducible repeat (first | apply Kd.R_alloc | apply Kd.R_drewN | apply Kd.R_drew)); exact HO218.out) (Kd.R_base ho0) hb)
          have n7_ := Aside0.mk (Kd.R_lower (Kd.R_new' (Kd.R_new' (Kd.R_new' ho0 (Kd.R_lt (by (with_reducible repeat (first | apply Kd.R_alloc | apply Kd.R_drewN | apply Kd.R_drew)); exact HO211.out))) (Kd.R_lt (by (with_reducible repeat (first | apply Kd.R_alloc | apply Kd.R_drewN | apply Kd.R_drew)); exact HL212_2.out))) (Kd.R_lt (by (with_reducible repeat (first | apply Kd.R_alloc | apply Kd.R_drewN | apply Kd.R_drew)); exact HO218.out))) (below_size (by repeat (first | (with_reducible first | exact HB.out | apply below_alloc | apply pw_below_drewN | apply below_drew1) | exact HB.out))))
          have n8_ := Aside0.mk (Kd.C_below (by repeat (first | (with_reducible exact HR212_2.out) | (with_reducible refine Kd.C_alloc ?_ _) | (with_reducible refine Kd.C_drewN ?_ _) | (with_reducible refine Kd.C_drew ?_) | exact HR212_2.out)) hb)
          have n9_ := Aside0.mk (below_step (by repeat (first | (with_reducible first | exact HB.out | apply below_alloc | apply pw_below_drewN | apply below_drew1) | exact HB.out)) hb)
          clear HO_10
          clear HO_11
          clear HO208
          clear HO211
          clear HL212_2
          clear HO215
          clear HO218
          clear HR212_2
          clear HB
          have HO_10 := n0_
          have HO_11 := n1_
          have HO208 := n2_
          have HO211 := n3_
          have HL212_2 := n4_
          have HO215 := n5_
          have HO218 := n6_
          have HO222 := n7_
          have HR212_2 := n8_
          have HB := n9_
          clear n0_ n1_ n2_ n3_ n4_ n5_ n6_ n7_ n8_ n9_
          (try clear hb)
          (try clear hb2)
          (try clear hk)
          (try clear hi)
          (try clear ho0)
          obtain ⟨Ao79, co79, eo79⟩ := Kd.R_slice HO222.out
          (first | subst eo79 | (injection eo79 with f1_ f2_ f3_; have f4_ := f1_.symm; have f5_ := f3_.symm; clear f1_ f2_ f3_; subst f4_; subst f5_))
          refine hK.out _ _ ⟨HS0_, HS1_, HS2_⟩ (fun hHeld => ?_)
          clear hK K
          refine norm_ (a' := ?_) ?_ ?_
          rotate_left
          ·show Act.put _ (some 124) _ = _
           simp only [Act.put, List.setIfInBounds_toArray, List.set_cons_zero, List.set_cons_succ, i64_w, i32_w]
           rfl
          refine one_ (i := 16) (N := some 126) #[true,true,true,true,true,true,true,true,true,true,true,true,true,true,true,true,true,false,false,false,false,false] rfl rfl (one_of HT_.out (by kernel_rfl)) (by decide) (fun K hK => ?_)
          refine goes_ Tryz.func31 (by kernel_rfl) rfl #[.slice Ao79 t220.length co79, .slice Ao73 t209.length co73] (by rfl) rfl rfl (by (try simp only [List.map_toArray, List.map_cons, List.map_nil]); first | done | rfl | (simp only [List.length_drop, List.length_take]; rfl)) ?_
          with_reducible refine (folkmootref08_Pairs.calls kj23 _ _ t220 _ _ t209 true _ ?side1 ?side2 ?side3 ?side4 A62.out).mono ?_
          (case side1 => repeat (first | exact (Kd.R_reads' HO222.out).2.2 | (with_reducible refine Kd.C_alloc ?_ _) | (with_reducible refine Kd.C_drewN ?_ _) | (with_reducible refine Kd.C_drew ?_)))
          (case side2 => exact (Kd.R_reads' HO222.out).2.1)
          (case side3 => repeat (first | exact (Kd.R_reads' HO211.out).2.2 | (with_reducible refine Kd.C_alloc ?_ _) | (with_reducible refine Kd.C_drewN ?_ _) | (with_reducible refine Kd.C_drew ?_)))
          (case side4 => exact (Kd.R_reads' HO211.out).2.1)
          rintro e w' ⟨rfl, ⟨nd, rfl⟩⟩
          refine ⟨_, rfl, ?_⟩
          refine hK.out _ _ ⟨hHeld.1, hHeld.2.1, hHeld.2.2⟩ (fun hHeld => ?_)
          clear hK K
          refine norm_ (a' := ?_) ?_ ?_
          rotate_left
          ·show Act.put _ (some 126) _ = _
           simp only [Act.put, List.setIfInBounds_toArray, List.set_cons_zero, List.set_cons_succ, i64_w, i32_w]
           rfl
          refine pure_ (i := 17) (N := some 127) (v := ?_) (a' := ?_) #[true,true,true,true,true,true,true,true,true,true,true,true,true,true,true,true,true,true,false,false,false,false] rfl rfl (any_of HT_.out (by kernel_rfl)) (fun _ _ _ h => h) (Or.inl ⟨by rfl, ?_⟩) ?_ ?_
          rotate_left
          ·intro w'
           go_simp
           with_reducible rfl
          rotate_left
          ·simp only [Act.put, List.setIfInBounds_toArray, List.set_cons_zero, List.set_cons_succ, i64_w, i32_w]
           rfl
          refine pure_ (i := 18) (N := some 128) (v := ?_) (a' := ?_) #[true,true,true,true,true,true,true,true,true,true,true,true,true,true,true,true,true,true,true,false,false,false] rfl rfl (any_of HT_.out (by kernel_rfl)) (fun _ _ _ h => h) (Or.inl ⟨by rfl, ?_⟩) ?_ ?_
          rotate_left
          ·intro w'
           go_simp
           with_reducible rfl
          rotate_left
          ·simp only [Act.put, List.setIfInBounds_toArray, List.set_cons_zero, List.set_cons_succ, i64_w, i32_w]
           rfl
          refine one_ (i := 19) (N := some 129) #[true,true,true,true,true,true,true,true,true,true,true,true,true,true,true,true,true,true,true,true,false,false] rfl rfl (one_of HT_.out (by kernel_rfl)) (by decide) (fun K hK => ?_)
          refine goes_ Tryz.func14 (by kernel_rfl) rfl #[] (by rfl) rfl rfl (by (try simp only [List.map_toArray, List.map_cons, List.map_nil]); first | done | rfl | (simp only [List.length_drop, List.length_take]; rfl)) ?_
          with_reducible refine (folkmootlaw08_live.calls  t224 _ A64.out).mono ?_
          rintro e w80 ⟨rfl, hb⟩
          have HS0_ := (hb.cell (World.block_lt_of_cell? _ _ (hHeld.1))).trans (hHeld.1)
          have HS1_ := (hb.cell (World.block_lt_of_cell? _ _ (hHeld.2.1))).trans (hHeld.2.1)
          have HS2_ := (hb.cell (World.block_lt_of_cell? _ _ (hHeld.2.2))).trans (hHeld.2.2)
          refine ⟨_, rfl, ?_⟩
          have n0_ := Aside0.mk (Kd.R_below (by (with_reducible repeat (first | apply Kd.R_alloc | apply Kd.R_drewN | apply Kd.R_drew)); exact HO_10.out) hb)
          have n1_ := Aside0.mk (Kd.S_below (by (with_reducible repeat (first | apply Kd.S_alloc | apply Kd.S_drewN | apply Kd.S_drew)); exact HO_11.out) hb)
          have n2_ := Aside0.mk (Kd.R_below (by (with_reducible repeat (first | apply Kd.R_alloc | apply Kd.R_drewN | apply Kd.R_drew)); exact HO208.out) hb)
          have n3_ := Aside0.mk (Kd.R_below (by (with_reducible repeat (first | apply Kd.R_alloc | apply Kd.R_drewN | apply Kd.R_drew)); exact HO211.out) hb)
          have n4_ := Aside0.mk (Kd.R_below (by (with_reducible repeat (first | apply Kd.R_alloc | apply Kd.R_drewN | apply Kd.R_drew)); exact HL212_2.out) hb)
          have n5_ := Aside0.mk (Kd.R_below (by (with_reducible repeat (first | apply Kd.R_alloc | apply Kd.R_drewN | apply Kd.R_drew)); exact HO215.out) hb)
          have n6_ := Aside0.mk (Kd.R_below (by (with_reducible repeat (first | apply Kd.R_alloc | apply Kd.R_drewN | apply Kd.R_drew)); exact HO218.out) hb)
          have n7_ := Aside0.mk (Kd.R_below (by (with_reducible repeat (first | apply Kd.R_alloc | apply Kd.R_drewN | apply Kd.R_drew)); exact HO222.out) hb)
          have n8_ := Aside0.mk (Kd.C_below (by repeat (first | (with_reducible exact HR212_2.out) | (with_reducible refine Kd.C_alloc ?_ _) | (with_reducible refine Kd.C_drewN ?_ _) | (with_reducible refine Kd.C_drew ?_) | exact HR212_2.out)) hb)
          have n9_ := Aside0.mk (below_step (by repeat (first | (with_reducible first | exact HB.out | apply below_alloc | apply pw_below_drewN | apply below_drew1) | exact HB.out)) hb)
          clear HO_10
          clear HO_11
          clear HO208
          clear HO211
          clear HL212_2
          clear HO215
          clear HO218
          clear HO222
          clear HR212_2
          clear HB
          have HO_10 := n0_
          have HO_11 := n1_
          have HO208 := n2_
          have HO211 := n3_
          have HL212_2 := n4_
          have HO215 := n5_
          have HO218 := n6_
          have HO222 := n7_
          have HR212_2 := n8_
          have HB := n9_
          clear n0_ n1_ n2_ n3_ n4_ n5_ n6_ n7_ n8_ n9_
          (try clear hb)
          (try clear hb2)
          (try clear hk)
          (try clear hi)
          refine hK.out _ _ ⟨HS0_, HS1_, HS2_⟩ (fun hHeld => ?_)
          clear hK K
          refine norm_ (a' := ?_) ?_ ?_
          rotate_left
          ·show Act.put _ (some 129) _ = _
           simp only [Act.put, List.setIfInBounds_toArray, List.set_cons_zero, List.set_cons_succ, i64_w, i32_w]
           rfl
          refine pure_ (i := 20) (N := some 130) (v := ?_) (a' := ?_) #[true,true,true,true,true,true,true,true,true,true,true,true,true,true,true,true,true,true,true,true,true,false] rfl rfl (any_of HT_.out (by kernel_rfl)) (fun _ _ _ h => h) (Or.inl ⟨by rfl, ?_⟩) ?_ ?_
          rotate_left
          ·intro w'
           go_simp
           with_reducible rfl
          rotate_left
          ·simp only [Act.put, List.setIfInBounds_toArray, List.set_cons_zero, List.set_cons_succ, i64_w, i32_w]
           rfl
          refine pure_ (i := 21) (N := some 8) (v := ?_) (a' := ?_) #[true,true,true,true,true,true,true,true,true,true,true,true,true,true,true,true,true,true,true,true,true,true] rfl rfl (any_of HT_.out (by kernel_rfl)) (fun _ _ _ h => h) (Or.inl ⟨by rfl, ?_⟩) ?_ ?_
          rotate_left
          ·intro w'
           go_simp
           with_reducible rfl
          rotate_left
          ·simp only [Act.put, List.setIfInBounds_toArray, List.set_cons_zero, List.set_cons_succ, i64_w, i32_w]
           rfl
          refine done_ (done_of HT_.out (by kernel_rfl)) ?_
          try go_wp2
          go_ret
          exact ⟨by first | rfl | (rw [bl_gt] <;> rfl) | (simp [errW_none, errW_some] <;> rfl) | (simp [*, errW_none, errW_some] <;> rfl), by repeat (first | (with_reducible first | exact HB.out | apply below_alloc | apply pw_below_drewN | apply below_drew1) | exact HB.out)⟩
         ·replace c63 := Bool.eq_false_iff.mpr c63
          subst c63
          have H1 : (some false) = some r := by rw [if_neg (show ¬ (false = true) by decide)] at H; exact H
          clear H
          have H := H1
          clear H1
          obtain rfl := Option.some.inj H
          try go_wp2_with (first | ((with_reducible refine gate_dst (N := 108) rfl ?_); (try (refine gate_guard (by rfl) ?_; dsimp only)); refine Kd.R_lit k69 _ 69 ?hg (N := 108) ?hd (xs := ([(⟨a0, 0, true⟩ : S69)] : List (S69))) (inner := [.string a0, .int .u64 0, .bool true]) (ok := fun _ => True) (okp := fun _ => True) ?hr ?hp (fun _ hk => hk) trivial (Below.refl _ _) (Nat.le_refl _) (by simp) ?_; (case hd => rfl); (case hg => rfl); (case hr => first | (go_simp; done) | (go_simp; rfl)); (case hp => exact (Reps.c3 (show Kd.M k69 _ _ _ (⟨a0, 0, true⟩ : S69) [.string a0, .int .u64 0, .bool true] from (k69_mkM _ _ _ (⟨a0, 0, true⟩ : S69) )) (Reps.none _ _))); intro v207 w81 ho82 hb hg_ hnew_; clear hg_ hnew_; (first | rw [← Ny206.out] at ho82 | (simp only [Int.reduceToNat] at ho82; rw [← Ny206.out] at ho82)); have n0_ := Aside0.mk (Kd.R_elder' (by (with_reducible repeat (first | apply Kd.R_alloc | apply Kd.R_drewN | apply Kd.R_drew)); exact HO_10.out) (Kd.R_base ho82) hb); have n1_ := Aside0.mk (Kd.S_below (by (with_reducible repeat (first | apply Kd.S_alloc | apply Kd.S_drewN | apply Kd.S_drew)); exact HO_11.out) hb); have n2_ := Aside0.mk (Kd.R_lower (Kd.R_new' ho82 (Kd.R_lt (by (with_reducible repeat (first | apply Kd.R_alloc | apply Kd.R_drewN | apply Kd.R_drew)); exact HO_10.out))) (below_size (by repeat (first | (with_reducible first | exact HB.out | apply below_alloc | apply pw_below_drewN | apply below_drew1) | exact HB.out)))); have n3_ := Aside0.mk (below_step (by repeat (first | (with_reducible first | exact HB.out | apply below_alloc | apply pw_below_drewN | apply below_drew1) | exact HB.out)) hb); clear HO_10; clear HO_11; clear HB; have HO_10 := n0_; have HO_11 := n1_; have HO208 := n2_; have HB := n3_; clear n0_ n1_ n2_ n3_; clear hb ho82; obtain ⟨Ao83, co83, eo83⟩ := Kd.R_slice HO208.out; subst eo83) | ((with_reducible refine gate_callee (f := 32) rfl ?_); refine goesL_ (some 109) rfl rfl Tryz.func32 (by kernel_rfl) rfl #[.slice A2 l2.length c2, .slice Ao83 y206.length co83] rfl (by (try simp only [List.map_toArray, List.map_cons, List.map_nil]); first | done | rfl | (simp only [List.length_drop, List.length_take]; rfl)) ?_; (with_reducible refine (txn_Apply.calls _ _ l2 _ _ y206 t209 _ ?side1 ?side2 ?side3 ?side4 A56.out).mono ?_); (case side1 => repeat (first | exact (Kd.C_below HR2.out HB.out) | (with_reducible refine Kd.C_alloc ?_ _) | (with_reducible refine Kd.C_drewN ?_ _) | (with_reducible refine Kd.C_drew ?_))); (case side2 => exact HC2.out); (case side3 => repeat (first | exact (Kd.R_reads' HO208.out).2.2 | (with_reducible refine Kd.C_alloc ?_ _) | (with_reducible refine Kd.C_drewN ?_ _) | (with_reducible refine Kd.C_drew ?_))); (case side4 => exact (Kd.R_reads' HO208.out).2.1); rintro e w84 ⟨v210, rfl, ho0, hb⟩; refine ⟨_, rfl, ?_⟩; have n0_ := Aside0.mk (Kd.R_below (by (with_reducible repeat (first | apply Kd.R_alloc | apply Kd.R_drewN | apply Kd.R_drew)); exact HO_10.out) hb); have n1_ := Aside0.mk (Kd.S_elder' (by (with_reducible repeat (first | apply Kd.S_alloc | apply Kd.S_drewN | apply Kd.S_drew)); exact HO_11.out) (Kd.R_base ho0) hb); have n2_ := Aside0.mk (Kd.R_below (by (with_reducible repeat (first | apply Kd.R_alloc | apply Kd.R_drewN | apply Kd.R_drew)); exact HO208.out) hb); have n3_ := Aside0.mk (Kd.R_lower ho0 (below_size (by repeat (first | (with_reducible first | exact HB.out | apply below_alloc | apply pw_below_drewN | apply below_drew1) | exact HB.out)))); have n4_ := Aside0.mk (below_step (by repeat (first | (with_reducible first | exact HB.out | apply below_alloc | apply pw_below_drewN | apply below_drew1) | exact HB.out)) hb); clear HO_10; clear HO_11; clear HO208; clear HB; have HO_10 := n0_; have HO_11 := n1_; have HO208 := n2_; have HO211 := n3_; have HB := n4_; clear n0_ n1_ n2_ n3_ n4_; (try clear hb); (try clear hb2); (try clear hk); (try clear hi); (try clear ho0)))
          have n0_ := Aside0.mk (Kd.R_drew HO_10.out)
          have n1_ := Aside0.mk (Kd.S_drew HO_11.out)
          have n2_ := Aside0.mk (Kd.R_drew HO208.out)
          have n3_ := Aside0.mk (Kd.R_drew HO211.out)
          have n4_ := Aside0.mk (below_drew1 HB.out)
          clear HO_10
          clear HO_11
          clear HO208
          clear HO211
          clear HB
          have HO_10 := n0_
          have HO_11 := n1_
          have HO208 := n2_
          have HO211 := n3_
          have HB := n4_
          clear n0_ n1_ n2_ n3_ n4_
          obtain ⟨Ao86, co86, eo86⟩ := Kd.S_slice HO_11.out
          (first | subst eo86 | (injection eo86 with f1_ f2_ f3_; have f4_ := f1_.symm; have f5_ := f3_.symm; clear f1_ f2_ f3_; subst f4_; subst f5_))
          have p212 : 0 ≤ (4 : Int) := (by omega)
          have q212 : 4 < (t194.length : Int) := of_decide_eq_true (by first | (with_reducible assumption) | assumption)
          obtain ⟨ad212, A212_2, c212_2, e212, hx212_0, hx212_1, hx212_2, hl212_2, hi212_2⟩ := at_T65 (Kd.S_reads' HO_11.out).2.2 4 p212 q212
          cases e212
          obtain ⟨ce212, hce212, hMe212, hcc212⟩ := Kd.S_get HO_11.out z65 4 p212 (by first | exact q212 | exact of_decide_eq_true (by first | (with_reducible assumption) | assumption) | (have e_ := (Kd.S_reads' HO_11.out).1; omega))
          obtain ⟨ve212_2, rfl, ge212_2⟩ := k65_openM hMe212
          have hv212_2 := hcc212 2 _ rfl
          rw [add_field _ _ 2 (by omega)] at hv212_2
          replace hv212_2 := Option.some.inj (hv212_2.symm.trans hx212_2)
          rw [hv212_2] at ge212_2
          have HL212_2 := Aside0.mk (show Kd.R k61 61 _ _ _ _ ((rd_T65 t194 4).f2) from ge212_2)
          clear hv212_2 ge212_2
          clear hcc212 hce212
          (try simp only [show (4 : Int).toNat = 4 from rfl, Nat.reduceMul, Nat.reduceEqDiff, Go.Addr.add, ↓reduceIte] at hx212_0)
          (try simp only [show (4 : Int).toNat = 4 from rfl, Nat.reduceMul, Nat.reduceEqDiff, Go.Addr.add, ↓reduceIte] at hx212_1)
          (try simp only [show (4 : Int).toNat = 4 from rfl, Nat.reduceMul, Nat.reduceEqDiff, Go.Addr.add, ↓reduceIte] at hx212_2)
          have qi212 : (4 < t194.length) = True := eq_true (by omega)
          (try rw [show ((4 : Int)).toNat = 4 from rfl] at hx212_0)
          (try rw [show 4 * 3 = 12 from rfl] at hx212_0)
          (try rw [show ((4 : Int)).toNat = 4 from rfl] at hx212_1)
          (try rw [show 4 * 3 = 12 from rfl] at hx212_1)
          (try rw [show ((4 : Int)).toNat = 4 from rfl] at hx212_2)
          (try rw [show 4 * 3 = 12 from rfl] at hx212_2)
          have HR212_2 := Aside0.mk hi212_2
          have HC212_2 := Aside0.mk hl212_2
          clear hi212_2 hl212_2
          replace p212 := eq_true p212
          replace q212 := eq_true q212
          refine start_ (n := 22) (S := fun w' => w'.cell? ⟨ad212.block, ad212.off + 12, none⟩ = some (.bool ((rd_T65 t194 4).f0)) ∧ w'.cell? ⟨ad212.block, ad212.off + 12 + 1, none⟩ = some (.int .u64 ((rd_T65 t194 4).f1)) ∧ w'.cell? ⟨ad212.block, ad212.off + 12 + 2, none⟩ = some (.slice A212_2 ((rd_T65 t194 4).f2).length c212_2)) (ds := []) #[false,false,false,false,false,false,false,false,false,false,false,false,false,false,false,false,false,false,false,false,false,false] (by kernel_rfl) rfl rfl ⟨hx212_0, hx212_1, hx212_2⟩ (fun hHeld => ?_); refine with_tabW folkmootlaw08_TxnSees.tab8 folkmootlaw08_TxnSees.bits8 (fun HT_ HW_ => ?_)
          generalize w84.drew = w85 at HO_10 HO_11 HO208 HO211 HB HL212_2 HR212_2 hx212_0 hx212_1 hx212_2 hHeld ⊢
          refine pure_ (i := 0) (N := some 110) (v := ?_) (a' := ?_) #[true,false,false,false,false,false,false,false,false,false,false,false,false,false,false,false,false,false,false,false,false,false] rfl rfl (any_of HT_.out (by kernel_rfl)) (fun _ _ _ h => h) (Or.inl ⟨by rfl, ?_⟩) ?_ ?_
          rotate_left
          ·intro w'
           go_simp
           with_reducible rfl
          rotate_left
          ·simp only [Act.put, List.setIfInBounds_toArray, List.set_cons_zero, List.set_cons_succ, i64_w, i32_w]
           rfl
          refine pure_ (i := 1) (N := some 111) (v := ?_) (a' := ?_) #[true,true,false,false,false,false,false,false,false,false,false,false,false,false,false,false,false,false,false,false,false,false] rfl rfl (any_of HT_.out (by kernel_rfl)) (fun _ _ _ h => h) (Or.inl ⟨by rfl, ?_⟩) ?_ ?_
          rotate_left
          ·intro w'
           go_simp
           with_reducible rfl
          rotate_left
          ·simp only [Act.put, List.setIfInBounds_toArray, List.set_cons_zero, List.set_cons_succ, i64_w, i32_w]
           rfl
          refine pure_ (i := 2) (N := some 112) (v := ?_) (a' := ?_) #[true,true,true,false,false,false,false,false,false,false,false,false,false,false,false,false,false,false,false,false,false,false] rfl rfl (any_of HT_.out (by kernel_rfl)) (fun _ _ _ h => h) (Or.inl ⟨by rfl, ?_⟩) ?_ ?_
          rotate_left
          ·intro w'
           go_simp
           with_reducible rfl
          rotate_left
          ·simp only [Act.put, List.setIfInBounds_toArray, List.set_cons_zero, List.set_cons_succ, i64_w, i32_w]
           rfl
          refine pure_ (i := 4) (N := some 114) (v := ?_) (a' := ?_) #[true,true,true,false,true,false,false,false,false,false,false,false,false,false,false,false,false,false,false,false,false,false] rfl rfl (any_of HT_.out (by kernel_rfl)) (fun _ _ _ h => h) (Or.inl ⟨by rfl, ?_⟩) ?_ ?_
          rotate_left
          ·intro w'
           go_simp
           with_reducible rfl
          rotate_left
          ·simp only [Act.put, List.setIfInBounds_toArray, List.set_cons_zero, List.set_cons_succ, i64_w, i32_w]
           rfl
          refine pure_ (i := 5) (N := some 115) (v := ?_) (a' := ?_) #[true,true,true,false,true,true,false,false,false,false,false,false,false,false,false,false,false,false,false,false,false,false] rfl rfl (any_of HT_.out (by kernel_rfl)) (fun _ _ _ h => h) (Or.inl ⟨by rfl, ?_⟩) ?_ ?_
          rotate_left
          ·intro w'
           go_simp
           with_reducible rfl
          rotate_left
          ·simp only [Act.put, List.setIfInBounds_toArray, List.set_cons_zero, List.set_cons_succ, i64_w, i32_w]
           rfl
          refine pure_ (i := 6) (N := some 116) (v := ?_) (a' := ?_) #[true,true,true,false,true,true,true,false,false,false,false,false,false,false,false,false,false,false,false,false,false,false] rfl rfl (any_of HT_.out (by kernel_rfl)) (fun _ _ _ h => h) (Or.inl ⟨by rfl, ?_⟩) ?_ ?_
          rotate_left
          ·intro w'
           go_simp
           with_reducible rfl
          rotate_left
          ·simp only [Act.put, List.setIfInBounds_toArray, List.set_cons_zero, List.set_cons_succ, i64_w, i32_w]
           rfl
          refine pure_ (i := 7) (N := some 117) (v := ?_) (a' := ?_) #[true,true,true,false,true,true,true,true,false,false,false,false,false,false,false,false,false,false,false,false,false,false] rfl rfl (any_of HT_.out (by kernel_rfl)) (fun _ _ _ h => h) (Or.inl ⟨by rfl, ?_⟩) ?_ ?_
          rotate_left
          ·intro w'
           go_simp
           with_reducible rfl
          rotate_left
          ·simp only [Act.put, List.setIfInBounds_toArray, List.set_cons_zero, List.set_cons_succ, i64_w, i32_w]
           rfl
          refine take_ (i := 3) (N := some 113) (v := ?_) (a' := ?_) #[true,true,true,true,true,true,true,true,false,false,false,false,false,false,false,false,false,false,false,false,false,false] rfl rfl (take_ofW HT_.out HW_.out (by kernel_rfl)) (fun _ _ _ h => h) (Or.inl ⟨by rfl, ?_⟩) hHeld ?_ ?_
          rotate_left
          ·rintro w' ⟨s0, s1, s2⟩
           go_simp
           with_reducible rfl
          rotate_left
          ·simp only [Act.put, List.setIfInBounds_toArray, List.set_cons_zero, List.set_cons_succ, i64_w, i32_w]
           rfl
          refine one_ (i := 8) (N := some 118) #[true,true,true,true,true,true,true,true,true,false,false,false,false,false,false,false,false,false,false,false,false,false] rfl rfl (one_of HT_.out (by kernel_rfl)) (by decide) (fun K hK => ?_)
          refine Kd.R_lit_step k71 _ 71 ?hg (N := 118) ?hd (xs := ([(⟨a0, a3⟩ : S71)] : List (S71))) (inner := [.string a0, .string a3]) (ok := fun _ => True) (okp := fun _ => True) ?hr ?hp (fun _ hk => hk) trivial (Below.refl _ _) (Nat.le_refl _) (by simp) ?_; (case hd => rfl); (case hg => rfl); (case hr => first | (go_simp; done) | (go_simp; rfl)); (case hp => exact (Reps.c2 (show Kd.M k71 _ _ _ (⟨a0, a3⟩ : S71) [.string a0, .string a3] from (k71_mkM _ _ _ (⟨a0, a3⟩ : S71) )) (Reps.none _ _)))
          intro v214 w87 ho88 hb hg_ hnew_
          have HS0_ := (hb.cell (World.block_lt_of_cell? _ _ (hHeld.1))).trans (hHeld.1)
          have HS1_ := (hb.cell (World.block_lt_of_cell? _ _ (hHeld.2.1))).trans (hHeld.2.1)
          have HS2_ := (hb.cell (World.block_lt_of_cell? _ _ (hHeld.2.2))).trans (hHeld.2.2)
          clear hg_ hnew_
          (first | rw [← Ny213.out] at ho88 | (simp only [Int.reduceToNat] at ho88; rw [← Ny213.out] at ho88))
          have n0_ := Aside0.mk (Kd.R_below (by (with_reducible repeat (first | apply Kd.R_alloc | apply Kd.R_drewN | apply Kd.R_drew)); exact HO_10.out) hb)
          have n1_ := Aside0.mk (Kd.S_below (by (with_reducible repeat (first | apply Kd.S_alloc | apply Kd.S_drewN | apply Kd.S_drew)); exact HO_11.out) hb)
          have n2_ := Aside0.mk (Kd.R_below (by (with_reducible repeat (first | apply Kd.R_alloc | apply Kd.R_drewN | apply Kd.R_drew)); exact HO208.out) hb)
          have n3_ := Aside0.mk (Kd.R_below (by (with_reducible repeat (first | apply Kd.R_alloc | apply Kd.R_drewN | apply Kd.R_drew)); exact HO211.out) hb)
          have n4_ := Aside0.mk (Kd.R_below (by (with_reducible repeat (first | apply Kd.R_alloc | apply Kd.R_drewN | apply Kd.R_drew)); exact HL212_2.out) hb)
          have n5_ := Aside0.mk (Kd.R_lower ho88 (below_size (by repeat (first | (with_reducible first | exact HB.out | apply below_alloc | apply pw_below_drewN | apply below_drew1) | exact HB.out))))
          have n6_ := Aside0.mk (Kd.C_below (by repeat (first | (with_reducible exact HR212_2.out) | (with_reducible refine Kd.C_alloc ?_ _) | (with_reducible refine Kd.C_drewN ?_ _) | (with_reducible refine Kd.C_drew ?_) | exact HR212_2.out)) hb)
          have n7_ := Aside0.mk (below_step (by repeat (first | (with_reducible first | exact HB.out | apply below_alloc | apply pw_below_drewN | apply below_drew1) | exact HB.out)) hb)
          clear HO_10
          clear HO_11
          clear HO208
          clear HO211
          clear HL212_2
          clear HR212_2
          clear HB
          have HO_10 := n0_
          have HO_11 := n1_
          have HO208 := n2_
          have HO211 := n3_
          have HL212_2 := n4_
          have HO215 := n5_
          have HR212_2 := n6_
          have HB := n7_
          clear n0_ n1_ n2_ n3_ n4_ n5_ n6_ n7_
          clear hb ho88
          obtain ⟨Ao89, co89, eo89⟩ := Kd.R_slice HO211.out
          (first | subst eo89 | (injection eo89 with f1_ f2_ f3_; have f4_ := f1_.symm; have f5_ := f3_.symm; clear f1_ f2_ f3_; subst f4_; subst f5_))
          obtain ⟨Ao90, co90, eo90⟩ := Kd.R_slice HO215.out
          (first | subst eo90 | (injection eo90 with f1_ f2_ f3_; have f4_ := f1_.symm; have f5_ := f3_.symm; clear f1_ f2_ f3_; subst f4_; subst f5_))
          refine hK.out _ _ ⟨HS0_, HS1_, HS2_⟩ (fun hHeld => ?_)
          clear hK K
          refine norm_ (a' := ?_) ?_ ?_
          rotate_left
          ·show Act.put _ (some 118) _ = _
           simp only [Act.put, List.setIfInBounds_toArray, List.set_cons_zero, List.set_cons_succ, i64_w, i32_w]
           rfl
          refine one_ (i := 9) (N := some 119) #[true,true,true,true,true,true,true,true,true,true,false,false,false,false,false,false,false,false,false,false,false,false] rfl rfl (one_of HT_.out (by kernel_rfl)) (by decide) (fun K hK => ?_)
          refine goes_ Tryz.func34 (by kernel_rfl) rfl #[.slice Ao89 t209.length co89, .slice Ao90 y213.length co90] (by rfl) rfl rfl (by (try simp only [List.map_toArray, List.map_cons, List.map_nil]); first | done | rfl | (simp only [List.length_drop, List.length_take]; rfl)) ?_
          with_reducible refine (txn_Pick.calls _ _ t209 _ _ y213 t216 _ ?side1 ?side2 ?side3 ?side4 A58.out).mono ?_
          (case side1 => repeat (first | exact (Kd.R_reads' HO211.out).2.2 | (with_reducible refine Kd.C_alloc ?_ _) | (with_reducible refine Kd.C_drewN ?_ _) | (with_reducible refine Kd.C_drew ?_)))
          (case side2 => exact (Kd.R_reads' HO211.out).2.1)
          (case side3 => repeat (first | exact (Kd.R_reads' HO215.out).2.2 | (with_reducible refine Kd.C_alloc ?_ _) | (with_reducible refine Kd.C_drewN ?_ _) | (with_reducible refine Kd.C_drew ?_)))
          (case side4 => exact (Kd.R_reads' HO215.out).2.1)
          rintro e w91 ⟨v217, rfl, ho0, hb⟩
          have HS0_ := (hb.cell (World.block_lt_of_cell? _ _ (hHeld.1))).trans (hHeld.1)
          have HS1_ := (hb.cell (World.block_lt_of_cell? _ _ (hHeld.2.1))).trans (hHeld.2.1)
          have HS2_ := (hb.cell (World.block_lt_of_cell? _ _ (hHeld.2.2))).trans (hHeld.2.2)
          refine ⟨_, rfl, ?_⟩
          have n0_ := Aside0.mk (Kd.R_below (by (with_reducible repeat (first | apply Kd.R_alloc | apply Kd.R_drewN | apply Kd.R_drew)); exact HO_10.out) hb)
          have n1_ := Aside0.mk (Kd.S_elder' (by (with_reducible repeat (first | apply Kd.S_alloc | apply Kd.S_drewN | apply Kd.S_drew)); exact HO_11.out) (Kd.R_base ho0) hb)
          have n2_ := Aside0.mk (Kd.R_below (by (with_reducible repeat (first | apply Kd.R_alloc | apply Kd.R_drewN | apply Kd.R_drew)); exact HO208.out) hb)
          have n3_ := Aside0.mk (Kd.R_elder' (by (with_reducible repeat (first | apply Kd.R_alloc | apply Kd.R_drewN | apply Kd.R_drew)); exact HO211.out) (Kd.R_base ho0) hb)
          have n4_ := Aside0.mk (Kd.R_elder' (by (with_reducible repeat (first | apply Kd.R_alloc | apply Kd.R_drewN | apply Kd.R_drew)); exact HL212_2.out) (Kd.R_base ho0) hb)
          have n5_ := Aside0.mk (Kd.R_below (by (with_reducible repeat (first | apply Kd.R_alloc | apply Kd.R_drewN | apply Kd.R_drew)); exact HO215.out) hb)
          have n6_ := Aside0.mk (Kd.R_lower (Kd.R_new' (Kd.R_new' ho0 (Kd.R_lt (by (with_reducible repeat (first | apply Kd.R_alloc | apply Kd.R_drewN | apply Kd.R_drew)); exact HO211.out))) (Kd.R_lt (by (with_reducible repeat (first | apply Kd.R_alloc | apply Kd.R_drewN | apply Kd.R_drew)); exact HL212_2.out))) (below_size (by repeat (first | (with_reducible first | exact HB.out | apply below_alloc | apply pw_below_drewN | apply below_drew1) | exact HB.out))))
          have n7_ := Aside0.mk (Kd.C_below (by repeat (first | (with_reducible exact HR212_2.out) | (with_reducible refine Kd.C_alloc ?_ _) | (with_reducible refine Kd.C_drewN ?_ _) | (with_reducible refine Kd.C_drew ?_) | exact HR212_2.out)) hb)
          have n8_ := Aside0.mk (below_step (by repeat (first | (with_reducible first | exact HB.out | apply below_alloc | apply pw_below_drewN | apply below_drew1) | exact HB.out)) hb)
          clear HO_10
          clear HO_11
          clear HO208
          clear HO211
          clear HL212_2
          clear HO215
          clear HR212_2
          clear HB
          have HO_10 := n0_
          have HO_11 := n1_
          have HO208 := n2_
          have HO211 := n3_
          have HL212_2 := n4_
          have HO215 := n5_
          have HO218 := n6_
          have HR212_2 := n7_
          have HB := n8_
          clear n0_ n1_ n2_ n3_ n4_ n5_ n6_ n7_ n8_
          (try clear hb)
          (try clear hb2)
          (try clear hk)
          (try clear hi)
          (try clear ho0)
          obtain ⟨Ao92, co92, eo92⟩ := Kd.R_slice HO218.out
          (first | subst eo92 | (injection eo92 with f1_ f2_ f3_; have f4_ := f1_.symm; have f5_ := f3_.symm; clear f1_ f2_ f3_; subst f4_; subst f5_))
          refine hK.out _ _ ⟨HS0_, HS1_, HS2_⟩ (fun hHeld => ?_)
          clear hK K
          refine norm_ (a' := ?_) ?_ ?_
          rotate_left
          ·show Act.put _ (some 119) _ = _
           simp only [Act.put, List.setIfInBounds_toArray, List.set_cons_zero, List.set_cons_succ, i64_w, i32_w]
           rfl
          refine one_ (i := 10) (N := some 120) #[true,true,true,true,true,true,true,true,true,true,true,false,false,false,false,false,false,false,false,false,false,false] rfl rfl (one_of HT_.out (by kernel_rfl)) (by decide) (fun K hK => ?_)
          refine goes_ Tryz.func31 (by kernel_rfl) rfl #[.slice A212_2 ((rd_T65 t194 4).f2).length c212_2, .slice Ao92 t216.length co92] (by rfl) rfl rfl (by (try simp only [List.map_toArray, List.map_cons, List.map_nil]); first | done | rfl | (simp only [List.length_drop, List.length_take]; rfl)) ?_
          with_reducible refine (folkmootref08_Pairs.calls kj23 _ _ ((rd_T65 t194 4).f2) _ _ t216 true _ ?side1 ?side2 ?side3 ?side4 A59.out).mono ?_
          (case side1 => repeat (first | exact (by repeat (first | (with_reducible exact HR212_2.out) | (with_reducible refine Kd.C_alloc ?_ _) | (with_reducible refine Kd.C_drewN ?_ _) | (with_reducible refine Kd.C_drew ?_) | exact HR212_2.out)) | (with_reducible refine Kd.C_alloc ?_ _) | (with_reducible refine Kd.C_drewN ?_ _) | (with_reducible refine Kd.C_drew ?_)))
          (case side2 => exact HC212_2.out)
          (case side3 => repeat (first | exact (Kd.R_reads' HO218.out).2.2 | (with_reducible refine Kd.C_alloc ?_ _) | (with_reducible refine Kd.C_drewN ?_ _) | (with_reducible refine Kd.C_drew ?_)))
          (case side4 => exact (Kd.R_reads' HO218.out).2.1)
          rintro e w' ⟨rfl, ⟨nd, rfl⟩⟩
          refine ⟨_, rfl, ?_⟩
          obtain ⟨Ao93, co93, eo93⟩ := Kd.R_slice HO_10.out
          (first | subst eo93 | (injection eo93 with f1_ f2_ f3_; have f4_ := f1_.symm; have f5_ := f3_.symm; clear f1_ f2_ f3_; subst f4_; subst f5_))
          refine hK.out _ _ ⟨hHeld.1, hHeld.2.1, hHeld.2.2⟩ (fun hHeld => ?_)
          clear hK K
          refine norm_ (a' := ?_) ?_ ?_
          rotate_left
          ·show Act.put _ (some 120) _ = _
           simp only [Act.put, List.setIfInBounds_toArray, List.set_cons_zero, List.set_cons_succ, i64_w, i32_w]
           rfl
          refine pure_ (i := 11) (N := some 121) (v := ?_) (a' := ?_) #[true,true,true,true,true,true,true,true,true,true,true,true,false,false,false,false,false,false,false,false,false,false] rfl rfl (any_of HT_.out (by kernel_rfl)) (fun _ _ _ h => h) (Or.inl ⟨by rfl, ?_⟩) ?_ ?_
          rotate_left
          ·intro w'
           go_simp
           with_reducible rfl
          rotate_left
          ·simp only [Act.put, List.setIfInBounds_toArray, List.set_cons_zero, List.set_cons_succ, i64_w, i32_w]
           rfl
          refine pure_ (i := 12) (N := some 122) (v := ?_) (a' := ?_) #[true,true,true,true,true,true,true,true,true,true,true,true,true,false,false,false,false,false,false,false,false,false] rfl rfl (any_of HT_.out (by kernel_rfl)) (fun _ _ _ h => h) (Or.inl ⟨by rfl, ?_⟩) ?_ ?_
          rotate_left
          ·intro w'
           go_simp
           with_reducible rfl
          rotate_left
          ·simp only [Act.put, List.setIfInBounds_toArray, List.set_cons_zero, List.set_cons_succ, i64_w, i32_w]
           rfl
          refine pure_ (i := 13) (N := some 123) (v := ?_) (a' := ?_) #[true,true,true,true,true,true,true,true,true,true,true,true,true,true,false,false,false,false,false,false,false,false] rfl rfl (any_of HT_.out (by kernel_rfl)) (fun _ _ _ h => h) (Or.inl ⟨by rfl, ?_⟩) ?_ ?_
          rotate_left
          ·intro w'
           go_simp
           with_reducible rfl
          rotate_left
          ·simp only [Act.put, List.setIfInBounds_toArray, List.set_cons_zero, List.set_cons_succ, i64_w, i32_w]
           rfl
          refine pure_ (i := 15) (N := some 125) (v := ?_) (a' := ?_) #[true,true,true,true,true,true,true,true,true,true,true,true,true,true,false,true,false,false,false,false,false,false] rfl rfl (any_of HT_.out (by kernel_rfl)) (fun _ _ _ h => h) (Or.inl ⟨by rfl, ?_⟩) ?_ ?_
          rotate_left
          ·intro w'
           go_simp
           with_reducible rfl
          rotate_left
          ·simp only [Act.put, List.setIfInBounds_toArray, List.set_cons_zero, List.set_cons_succ, i64_w, i32_w]
           rfl
          refine one_ (i := 14) (N := some 124) #[true,true,true,true,true,true,true,true,true,true,true,true,true,true,true,true,false,false,false,false,false,false] rfl rfl (one_of HT_.out (by kernel_rfl)) (by decide) (fun K hK => ?_)
          refine goes_ Tryz.func32 (by kernel_rfl) rfl #[.slice A2 l2.length c2, .slice Ao93 t193.length co93] (by rfl) rfl rfl (by (try simp only [List.map_toArray, List.map_cons, List.map_nil]); first | done | rfl | (simp only [List.length_drop, List.length_take]; rfl)) ?_
          with_reducible refine (txn_Apply.calls _ _ l2 _ _ t193 t220 _ ?side1 ?side2 ?side3 ?side4 A61.out).mono ?_
          (case side1 => repeat (first | exact (Kd.C_below HR2.out (by repeat (first | (with_reducible first | exact HB.out | apply below_alloc | apply pw_below_drewN | apply below_drew1) | exact HB.out))) | (with_reducible refine Kd.C_alloc ?_ _) | (with_reducible refine Kd.C_drewN ?_ _) | (with_reducible refine Kd.C_drew ?_)))
          (case side2 => exact HC2.out)
          (case side3 => repeat (first | exact (Kd.R_reads' HO_10.out).2.2 | (with_reducible refine Kd.C_alloc ?_ _) | (with_reducible refine Kd.C_drewN ?_ _) | (with_reducible refine Kd.C_drew ?_)))
          (case side4 => exact (Kd.R_reads' HO_10.out).2.1)
          rintro e w94 ⟨v221, rfl, ho0, hb⟩
          have HS0_ := (hb.cell (World.block_lt_of_cell? _ _ (hHeld.1))).trans (hHeld.1)
          have HS1_ := (hb.cell (World.block_lt_of_cell? _ _ (hHeld.2.1))).trans (hHeld.2.1)
          have HS2_ := (hb.cell (World.block_lt_of_cell? _ _ (hHeld.2.2))).trans (hHeld.2.2)
          refine ⟨_, rfl, ?_⟩
          have n0_ := Aside0.mk (Kd.R_below (by (with_reducible repeat (first | apply Kd.R_alloc | apply Kd.R_drewN | apply Kd.R_drew)); exact HO_10.out) hb)
          have n1_ := Aside0.mk (Kd.S_elder' (by (with_reducible repeat (first | apply Kd.S_alloc | apply Kd.S_drewN | apply Kd.S_drew)); exact HO_11.out) (Kd.R_base ho0) hb)
          have n2_ := Aside0.mk (Kd.R_below (by (with_reducible repeat (first | apply Kd.R_alloc | apply Kd.R_drewN | apply Kd.R_drew)); exact HO208.out) hb)
          have n3_ := Aside0.mk (Kd.R_elder' (by (with_reducible repeat (first | apply Kd.R_alloc | apply Kd.R_drewN | apply Kd.R_drew)); exact HO211.out) (Kd.R_base ho0) hb)
          have n4_ := Aside0.mk (Kd.R_elder' (by (with_reducible repeat (first | apply Kd.R_alloc | apply Kd.R_drewN | apply Kd.R_drew)); exact HL212_2.out) (Kd.R_base ho0) hb)
          have n5_ := Aside0.mk (Kd.R_below (by (with_reducible repeat (first | apply Kd.R_alloc | apply Kd.R_drewN | apply Kd.R_drew)); exact HO215.out) hb)
          have n6_ := Aside0.mk (Kd.R_elder' (by (with_reducible repeat (first | apply Kd.R_alloc | apply Kd.R_drewN | apply Kd.R_drew)); exact HO218.out) (Kd.R_base ho0) hb)
          have n7_ := Aside0.mk (Kd.R_lower (Kd.R_new' (Kd.R_new' (Kd.R_new' ho0 (Kd.R_lt (by (with_reducible repeat (first | apply Kd.R_alloc | apply Kd.R_drewN | apply Kd.R_drew)); exact HO211.out))) (Kd.R_lt (by (with_reducible repeat (first | apply Kd.R_alloc | apply Kd.R_drewN | apply Kd.R_drew)); exact HL212_2.out))) (Kd.R_lt (by (with_reducible repeat (first | apply Kd.R_alloc | apply Kd.R_drewN | apply Kd.R_drew)); exact HO218.out))) (below_size (by repeat (first | (with_reducible first | exact HB.out | apply below_alloc | apply pw_below_drewN | apply below_drew1) | exact HB.out))))
          have n8_ := Aside0.mk (Kd.C_below (by repeat (first | (with_reducible exact HR212_2.out) | (with_reducible refine Kd.C_alloc ?_ _) | (with_reducible refine Kd.C_drewN ?_ _) | (with_reducible refine Kd.C_drew ?_) | exact HR212_2.out)) hb)
          have n9_ := Aside0.mk (below_step (by repeat (first | (with_reducible first | exact HB.out | apply below_alloc | apply pw_below_drewN | apply below_drew1) | exact HB.out)) hb)
          clear HO_10
          clear HO_11
          clear HO208
          clear HO211
          clear HL212_2
          clear HO215
          clear HO218
          clear HR212_2
          clear HB
          have HO_10 := n0_
          have HO_11 := n1_
          have HO208 := n2_
          have HO211 := n3_
          have HL212_2 := n4_
          have HO215 := n5_
          have HO218 := n6_
          have HO222 := n7_
          have HR212_2 := n8_
          have HB := n9_
          clear n0_ n1_ n2_ n3_ n4_ n5_ n6_ n7_ n8_ n9_
          (try clear hb)
          (try clear hb2)
          (try clear hk)
          (try clear hi)
          (try clear ho0)
          obtain ⟨Ao95, co95, eo95⟩ := Kd.R_slice HO222.out
          (first | subst eo95 | (injection eo95 with f1_ f2_ f3_; have f4_ := f1_.symm; have f5_ := f3_.symm; clear f1_ f2_ f3_; subst f4_; subst f5_))
          refine hK.out _ _ ⟨HS0_, HS1_, HS2_⟩ (fun hHeld => ?_)
          clear hK K
          refine norm_ (a' := ?_) ?_ ?_
          rotate_left
          ·show Act.put _ (some 124) _ = _
           simp only [Act.put, List.setIfInBounds_toArray, List.set_cons_zero, List.set_cons_succ, i64_w, i32_w]
           rfl
          refine one_ (i := 16) (N := some 126) #[true,true,true,true,true,true,true,true,true,true,true,true,true,true,true,true,true,false,false,false,false,false] rfl rfl (one_of HT_.out (by kernel_rfl)) (by decide) (fun K hK => ?_)
          refine goes_ Tryz.func31 (by kernel_rfl) rfl #[.slice Ao95 t220.length co95, .slice Ao89 t209.length co89] (by rfl) rfl rfl (by (try simp only [List.map_toArray, List.map_cons, List.map_nil]); first | done | rfl | (simp only [List.length_drop, List.length_take]; rfl)) ?_
          with_reducible refine (folkmootref08_Pairs.calls kj23 _ _ t220 _ _ t209 false _ ?side1 ?side2 ?side3 ?side4 A62.out).mono ?_
          (case side1 => repeat (first | exact (Kd.R_reads' HO222.out).2.2 | (with_reducible refine Kd.C_alloc ?_ _) | (with_reducible refine Kd.C_drewN ?_ _) | (with_reducible refine Kd.C_drew ?_)))
          (case side2 => exact (Kd.R_reads' HO222.out).2.1)
          (case side3 => repeat (first | exact (Kd.R_reads' HO211.out).2.2 | (with_reducible refine Kd.C_alloc ?_ _) | (with_reducible refine Kd.C_drewN ?_ _) | (with_reducible refine Kd.C_drew ?_)))
          (case side4 => exact (Kd.R_reads' HO211.out).2.1)
          rintro e w' ⟨rfl, ⟨nd, rfl⟩⟩
          refine ⟨_, rfl, ?_⟩
          refine hK.out _ _ ⟨hHeld.1, hHeld.2.1, hHeld.2.2⟩ (fun hHeld => ?_)
          clear hK K
          refine norm_ (a' := ?_) ?_ ?_
          rotate_left
          ·show Act.put _ (some 126) _ = _
           simp only [Act.put, List.setIfInBounds_toArray, List.set_cons_zero, List.set_cons_succ, i64_w, i32_w]
           rfl
          refine pure_ (i := 17) (N := some 127) (v := ?_) (a' := ?_) #[true,true,true,true,true,true,true,true,true,true,true,true,true,true,true,true,true,true,false,false,false,false] rfl rfl (any_of HT_.out (by kernel_rfl)) (fun _ _ _ h => h) (Or.inl ⟨by rfl, ?_⟩) ?_ ?_
          rotate_left
          ·intro w'
           go_simp
           with_reducible rfl
          rotate_left
          ·simp only [Act.put, List.setIfInBounds_toArray, List.set_cons_zero, List.set_cons_succ, i64_w, i32_w]
           rfl
          refine pure_ (i := 18) (N := some 128) (v := ?_) (a' := ?_) #[true,true,true,true,true,true,true,true,true,true,true,true,true,true,true,true,true,true,true,false,false,false] rfl rfl (any_of HT_.out (by kernel_rfl)) (fun _ _ _ h => h) (Or.inl ⟨by rfl, ?_⟩) ?_ ?_
          rotate_left
          ·intro w'
           go_simp
           with_reducible rfl
          rotate_left
          ·simp only [Act.put, List.setIfInBounds_toArray, List.set_cons_zero, List.set_cons_succ, i64_w, i32_w]
           rfl
          refine pure_ (i := 19) (N := some 129) (v := undef) (a' := ?_) #[true,true,true,true,true,true,true,true,true,true,true,true,true,true,true,true,true,true,true,true,false,false] rfl rfl (any_of HT_.out (by kernel_rfl)) (fun _ _ _ h => h) (Or.inr ⟨by rfl, rfl⟩) ?_ ?_
          rotate_left
          ·simp only [Act.put, List.setIfInBounds_toArray, List.set_cons_zero, List.set_cons_succ, i64_w, i32_w]
           rfl
          refine pure_ (i := 20) (N := some 130) (v := ?_) (a' := ?_) #[true,true,true,true,true,true,true,true,true,true,true,true,true,true,true,true,true,true,true,true,true,false] rfl rfl (any_of HT_.out (by kernel_rfl)) (fun _ _ _ h => h) (Or.inl ⟨by rfl, ?_⟩) ?_ ?_
          rotate_left
          ·intro w'
           go_simp
           with_reducible rfl
          rotate_left
          ·simp only [Act.put, List.setIfInBounds_toArray, List.set_cons_zero, List.set_cons_succ, i64_w, i32_w]
           rfl
          refine pure_ (i := 21) (N := some 8) (v := ?_) (a' := ?_) #[true,true,true,true,true,true,true,true,true,true,true,true,true,true,true,true,true,true,true,true,true,true] rfl rfl (any_of HT_.out (by kernel_rfl)) (fun _ _ _ h => h) (Or.inl ⟨by rfl, ?_⟩) ?_ ?_
          rotate_left
          ·intro w'
           go_simp
           with_reducible rfl
          rotate_left
          ·simp only [Act.put, List.setIfInBounds_toArray, List.set_cons_zero, List.set_cons_succ, i64_w, i32_w]
           rfl
          refine done_ (done_of HT_.out (by kernel_rfl)) ?_
          try go_wp2
          go_ret
          exact ⟨by first | rfl | (rw [bl_gt] <;> rfl) | (simp [errW_none, errW_some] <;> rfl) | (simp [*, errW_none, errW_some] <;> rfl), by repeat (first | (with_reducible first | exact HB.out | apply below_alloc | apply pw_below_drewN | apply below_drew1) | exact HB.out)⟩
        ·replace c60 := Bool.eq_false_iff.mpr c60
         subst c60
         have H1 : (some false) = some r := by rw [if_neg (show ¬ (false = true) by decide)] at H; exact H
         clear H
         have H := H1
         clear H1
         obtain rfl := Option.some.inj H
         try go_wp2_with (first | ((with_reducible refine gate_dst (N := 108) rfl ?_); (try (refine gate_guard (by rfl) ?_; dsimp only)); refine Kd.R_lit k69 _ 69 ?hg (N := 108) ?hd (xs := ([(⟨a0, 0, true⟩ : S69)] : List (S69))) (inner := [.string a0, .int .u64 0, .bool true]) (ok := fun _ => True) (okp := fun _ => True) ?hr ?hp (fun _ hk => hk) trivial (Below.refl _ _) (Nat.le_refl _) (by simp) ?_; (case hd => rfl); (case hg => rfl); (case hr => first | (go_simp; done) | (go_simp; rfl)); (case hp => exact (Reps.c3 (show Kd.M k69 _ _ _ (⟨a0, 0, true⟩ : S69) [.string a0, .int .u64 0, .bool true] from (k69_mkM _ _ _ (⟨a0, 0, true⟩ : S69) )) (Reps.none _ _))); intro v207 w96 ho97 hb hg_ hnew_; clear hg_ hnew_; (first | rw [← Ny206.out] at ho97 | (simp only [Int.reduceToNat] at ho97; rw [← Ny206.out] at ho97)); have n0_ := Aside0.mk (Kd.R_elder' (by (with_reducible repeat (first | apply Kd.R_alloc | apply Kd.R_drewN | apply Kd.R_drew)); exact HO_10.out) (Kd.R_base ho97) hb); have n1_ := Aside0.mk (Kd.S_below (by (with_reducible repeat (first | apply Kd.S_alloc | apply Kd.S_drewN | apply Kd.S_drew)); exact HO_11.out) hb); have n2_ := Aside0.mk (Kd.R_lower (Kd.R_new' ho97 (Kd.R_lt (by (with_reducible repeat (first | apply Kd.R_alloc | apply Kd.R_drewN | apply Kd.R_drew)); exact HO_10.out))) (below_size (by repeat (first | (with_reducible first | exact HB.out | apply below_alloc | apply pw_below_drewN | apply below_drew1) | exact HB.out)))); have n3_ := Aside0.mk (below_step (by repeat (first | (with_reducible first | exact HB.out | apply below_alloc | apply pw_below_drewN | apply below_drew1) | exact HB.out)) hb); clear HO_10; clear HO_11; clear HB; have HO_10 := n0_; have HO_11 := n1_; have HO208 := n2_; have HB := n3_; clear n0_ n1_ n2_ n3_; clear hb ho97; obtain ⟨Ao98, co98, eo98⟩ := Kd.R_slice HO208.out; subst eo98) | ((with_reducible refine gate_callee (f := 32) rfl ?_); refine goesL_ (some 109) rfl rfl Tryz.func32 (by kernel_rfl) rfl #[.slice A2 l2.length c2, .slice Ao98 y206.length co98] rfl (by (try simp only [List.map_toArray, List.map_cons, List.map_nil]); first | done | rfl | (simp only [List.length_drop, List.length_take]; rfl)) ?_; (with_reducible refine (txn_Apply.calls _ _ l2 _ _ y206 t209 _ ?side1 ?side2 ?side3 ?side4 A56.out).mono ?_); (case side1 => repeat (first | exact (Kd.C_below HR2.out HB.out) | (with_reducible refine Kd.C_alloc ?_ _) | (with_reducible refine Kd.C_drewN ?_ _) | (with_reducible refine Kd.C_drew ?_))); (case side2 => exact HC2.out); (case side3 => repeat (first | exact (Kd.R_reads' HO208.out).2.2 | (with_reducible refine Kd.C_alloc ?_ _) | (with_reducible refine Kd.C_drewN ?_ _) | (with_reducible refine Kd.C_drew ?_))); (case side4 => exact (Kd.R_reads' HO208.out).2.1); rintro e w99 ⟨v210, rfl, ho0, hb⟩; refine ⟨_, rfl, ?_⟩; have n0_ := Aside0.mk (Kd.R_below (by (with_reducible repeat (first | apply Kd.R_alloc | apply Kd.R_drewN | apply Kd.R_drew)); exact HO_10.out) hb); have n1_ := Aside0.mk (Kd.S_elder' (by (with_reducible repeat (first | apply Kd.S_alloc | apply Kd.S_drewN | apply Kd.S_drew)); exact HO_11.out) (Kd.R_base ho0) hb); have n2_ := Aside0.mk (Kd.R_below (by (with_reducible repeat (first | apply Kd.R_alloc | apply Kd.R_drewN | apply Kd.R_drew)); exact HO208.out) hb); have n3_ := Aside0.mk (Kd.R_lower ho0 (below_size (by repeat (first | (with_reducible first | exact HB.out | apply below_alloc | apply pw_below_drewN | apply below_drew1) | exact HB.out)))); have n4_ := Aside0.mk (below_step (by repeat (first | (with_reducible first | exact HB.out | apply below_alloc | apply pw_below_drewN | apply below_drew1) | exact HB.out)) hb); clear HO_10; clear HO_11; clear HO208; clear HB; have HO_10 := n0_; have HO_11 := n1_; have HO208 := n2_; have HO211 := n3_; have HB := n4_; clear n0_ n1_ n2_ n3_ n4_; (try clear hb); (try clear hb2); (try clear hk); (try clear hi); (try clear ho0)))
         have n0_ := Aside0.mk (Kd.R_drew HO_10.out)
         have n1_ := Aside0.mk (Kd.S_drew HO_11.out)
         have n2_ := Aside0.mk (Kd.R_drew HO208.out)
         have n3_ := Aside0.mk (Kd.R_drew HO211.out)
         have n4_ := Aside0.mk (below_drew1 HB.out)
         clear HO_10
         clear HO_11
         clear HO208
         clear HO211
         clear HB
         have HO_10 := n0_
         have HO_11 := n1_
         have HO208 := n2_
         have HO211 := n3_
         have HB := n4_
         clear n0_ n1_ n2_ n3_ n4_
         obtain ⟨Ao101, co101, eo101⟩ := Kd.S_slice HO_11.out
         (first | subst eo101 | (injection eo101 with f1_ f2_ f3_; have f4_ := f1_.symm; have f5_ := f3_.symm; clear f1_ f2_ f3_; subst f4_; subst f5_))
         have p212 : 0 ≤ (4 : Int) := (by omega)
         have q212 : 4 < (t194.length : Int) := of_decide_eq_true (by first | (with_reducible assumption) | assumption)
         obtain ⟨ad212, A212_2, c212_2, e212, hx212_0, hx212_1, hx212_2, hl212_2, hi212_2⟩ := at_T65 (Kd.S_reads' HO_11.out).2.2 4 p212 q212
         cases e212
         obtain ⟨ce212, hce212, hMe212, hcc212⟩ := Kd.S_get HO_11.out z65 4 p212 (by first | exact q212 | exact of_decide_eq_true (by first | (with_reducible assumption) | assumption) | (have e_ := (Kd.S_reads' HO_11.out).1; omega))
         obtain ⟨ve212_2, rfl, ge212_2⟩ := k65_openM hMe212
         have hv212_2 := hcc212 2 _ rfl
         rw [add_field _ _ 2 (by omega)] at hv212_2
         replace hv212_2 := Option.some.inj (hv212_2.symm.trans hx212_2)
         rw [hv212_2] at ge212_2
         have HL212_2 := Aside0.mk (show Kd.R k61 61 _ _ _ _ ((rd_T65 t194 4).f2) from ge212_2)
         clear hv212_2 ge212_2
         clear hcc212 hce212
         (try simp only [show (4 : Int).toNat = 4 from rfl, Nat.reduceMul, Nat.reduceEqDiff, Go.Addr.add, ↓reduceIte] at hx212_0)
         (try simp only [show (4 : Int).toNat = 4 from rfl, Nat.reduceMul, Nat.reduceEqDiff, Go.Addr.add, ↓reduceIte] at hx212_1)
         (try simp only [show (4 : Int).toNat = 4 from rfl, Nat.reduceMul, Nat.reduceEqDiff, Go.Addr.add, ↓reduceIte] at hx212_2)
         have qi212 : (4 < t194.length) = True := eq_true (by omega)
         (try rw [show ((4 : Int)).toNat = 4 from rfl] at hx212_0)
         (try rw [show 4 * 3 = 12 from rfl] at hx212_0)
         (try rw [show ((4 : Int)).toNat = 4 from rfl] at hx212_1)
         (try rw [show 4 * 3 = 12 from rfl] at hx212_1)
         (try rw [show ((4 : Int)).toNat = 4 from rfl] at hx212_2)
         (try rw [show 4 * 3 = 12 from rfl] at hx212_2)
         have HR212_2 := Aside0.mk hi212_2
         have HC212_2 := Aside0.mk hl212_2
         clear hi212_2 hl212_2
         replace p212 := eq_true p212
         replace q212 := eq_true q212
         refine start_ (n := 22) (S := fun w' => w'.cell? ⟨ad212.block, ad212.off + 12, none⟩ = some (.bool ((rd_T65 t194 4).f0)) ∧ w'.cell? ⟨ad212.block, ad212.off + 12 + 1, none⟩ = some (.int .u64 ((rd_T65 t194 4).f1)) ∧ w'.cell? ⟨ad212.block, ad212.off + 12 + 2, none⟩ = some (.slice A212_2 ((rd_T65 t194 4).f2).length c212_2)) (ds := []) #[false,false,false,false,false,false,false,false,false,false,false,false,false,false,false,false,false,false,false,false,false,false] (by kernel_rfl) rfl rfl ⟨hx212_0, hx212_1, hx212_2⟩ (fun hHeld => ?_); refine with_tabW folkmootlaw08_TxnSees.tab8 folkmootlaw08_TxnSees.bits8 (fun HT_ HW_ => ?_)
         generalize w99.drew = w100 at HO_10 HO_11 HO208 HO211 HB HL212_2 HR212_2 hx212_0 hx212_1 hx212_2 hHeld ⊢
         refine pure_ (i := 0) (N := some 110) (v := ?_) (a' := ?_) #[true,false,false,false,false,false,false,false,false,false,false,false,false,false,false,false,false,false,false,false,false,false] rfl rfl (any_of HT_.out (by kernel_rfl)) (fun _ _ _ h => h) (Or.inl ⟨by rfl, ?_⟩) ?_ ?_
         rotate_left
         ·intro w'
          go_simp
          with_reducible rfl
         rotate_left
         ·simp only [Act.put, List.setIfInBounds_toArray, List.set_cons_zero, List.set_cons_succ, i64_w, i32_w]
          rfl
         refine pure_ (i := 1) (N := some 111) (v := ?_) (a' := ?_) #[true,true,false,false,false,false,false,false,false,false,false,false,false,false,false,false,false,false,false,false,false,false] rfl rfl (any_of HT_.out (by kernel_rfl)) (fun _ _ _ h => h) (Or.inl ⟨by rfl, ?_⟩) ?_ ?_
         rotate_left
         ·intro w'
          go_simp
          with_reducible rfl
         rotate_left
         ·simp only [Act.put, List.setIfInBounds_toArray, List.set_cons_zero, List.set_cons_succ, i64_w, i32_w]
          rfl
         refine pure_ (i := 2) (N := some 112) (v := ?_) (a' := ?_) #[true,true,true,false,false,false,false,false,false,false,false,false,false,false,false,false,false,false,false,false,false,false] rfl rfl (any_of HT_.out (by kernel_rfl)) (fun _ _ _ h => h) (Or.inl ⟨by rfl, ?_⟩) ?_ ?_
         rotate_left
         ·intro w'
          go_simp
          with_reducible rfl
         rotate_left
         ·simp only [Act.put, List.setIfInBounds_toArray, List.set_cons_zero, List.set_cons_succ, i64_w, i32_w]
          rfl
         refine pure_ (i := 4) (N := some 114) (v := ?_) (a' := ?_) #[true,true,true,false,true,false,false,false,false,false,false,false,false,false,false,false,false,false,false,false,false,false] rfl rfl (any_of HT_.out (by kernel_rfl)) (fun _ _ _ h => h) (Or.inl ⟨by rfl, ?_⟩) ?_ ?_
         rotate_left
         ·intro w'
          go_simp
          with_reducible rfl
         rotate_left
         ·simp only [Act.put, List.setIfInBounds_toArray, List.set_cons_zero, List.set_cons_succ, i64_w, i32_w]
          rfl
         refine pure_ (i := 5) (N := some 115) (v := ?_) (a' := ?_) #[true,true,true,false,true,true,false,false,false,false,false,false,false,false,false,false,false,false,false,false,false,false] rfl rfl (any_of HT_.out (by kernel_rfl)) (fun _ _ _ h => h) (Or.inl ⟨by rfl, ?_⟩) ?_ ?_
         rotate_left
         ·intro w'
          go_simp
          with_reducible rfl
         rotate_left
         ·simp only [Act.put, List.setIfInBounds_toArray, List.set_cons_zero, List.set_cons_succ, i64_w, i32_w]
          rfl
         refine pure_ (i := 6) (N := some 116) (v := ?_) (a' := ?_) #[true,true,true,false,true,true,true,false,false,false,false,false,false,false,false,false,false,false,false,false,false,false] rfl rfl (any_of HT_.out (by kernel_rfl)) (fun _ _ _ h => h) (Or.inl ⟨by rfl, ?_⟩) ?_ ?_
         rotate_left
         ·intro w'
          go_simp
          with_reducible rfl
         rotate_left
         ·simp only [Act.put, List.setIfInBounds_toArray, List.set_cons_zero, List.set_cons_succ, i64_w, i32_w]
          rfl
         refine pure_ (i := 7) (N := some 117) (v := ?_) (a' := ?_) #[true,true,true,false,true,true,true,true,false,false,false,false,false,false,false,false,false,false,false,false,false,false] rfl rfl (any_of HT_.out (by kernel_rfl)) (fun _ _ _ h => h) (Or.inl ⟨by rfl, ?_⟩) ?_ ?_
         rotate_left
         ·intro w'
          go_simp
          with_reducible rfl
         rotate_left
         ·simp only [Act.put, List.setIfInBounds_toArray, List.set_cons_zero, List.set_cons_succ, i64_w, i32_w]
          rfl
         refine take_ (i := 3) (N := some 113) (v := ?_) (a' := ?_) #[true,true,true,true,true,true,true,true,false,false,false,false,false,false,false,false,false,false,false,false,false,false] rfl rfl (take_ofW HT_.out HW_.out (by kernel_rfl)) (fun _ _ _ h => h) (Or.inl ⟨by rfl, ?_⟩) hHeld ?_ ?_
         rotate_left
         ·rintro w' ⟨s0, s1, s2⟩
          go_simp
          with_reducible rfl
         rotate_left
         ·simp only [Act.put, List.setIfInBounds_toArray, List.set_cons_zero, List.set_cons_succ, i64_w, i32_w]
          rfl
         refine one_ (i := 8) (N := some 118) #[true,true,true,true,true,true,true,true,true,false,false,false,false,false,false,false,false,false,false,false,false,false] rfl rfl (one_of HT_.out (by kernel_rfl)) (by decide) (fun K hK => ?_)
         refine Kd.R_lit_step k71 _ 71 ?hg (N := 118) ?hd (xs := ([(⟨a0, a3⟩ : S71)] : List (S71))) (inner := [.string a0, .string a3]) (ok := fun _ => True) (okp := fun _ => True) ?hr ?hp (fun _ hk => hk) trivial (Below.refl _ _) (Nat.le_refl _) (by simp) ?_; (case hd => rfl); (case hg => rfl); (case hr => first | (go_simp; done) | (go_simp; rfl)); (case hp => exact (Reps.c2 (show Kd.M k71 _ _ _ (⟨a0, a3⟩ : S71) [.string a0, .string a3] from (k71_mkM _ _ _ (⟨a0, a3⟩ : S71) )) (Reps.none _ _)))
         intro v214 w102 ho103 hb hg_ hnew_
         have HS0_ := (hb.cell (World.block_lt_of_cell? _ _ (hHeld.1))).trans (hHeld.1)
         have HS1_ := (hb.cell (World.block_lt_of_cell? _ _ (hHeld.2.1))).trans (hHeld.2.1)
         have HS2_ := (hb.cell (World.block_lt_of_cell? _ _ (hHeld.2.2))).trans (hHeld.2.2)
         clear hg_ hnew_
         (first | rw [← Ny213.out] at ho103 | (simp only [Int.reduceToNat] at ho103; rw [← Ny213.out] at ho103))
         have n0_ := Aside0.mk (Kd.R_below (by (with_reducible repeat (first | apply Kd.R_alloc | apply Kd.R_drewN | apply Kd.R_drew)); exact HO_10.out) hb)
         have n1_ := Aside0.mk (Kd.S_below (by (with_reducible repeat (first | apply Kd.S_alloc | apply Kd.S_drewN | apply Kd.S_drew)); exact HO_11.out) hb)
         have n2_ := Aside0.mk (Kd.R_below (by (with_reducible repeat (first | apply Kd.R_alloc | apply Kd.R_drewN | apply Kd.R_drew)); exact HO208.out) hb)
         have n3_ := Aside0.mk (Kd.R_below (by (with_reducible repeat (first | apply Kd.R_alloc | apply Kd.R_drewN | apply Kd.R_drew)); exact HO211.out) hb)
         have n4_ := Aside0.mk (Kd.R_below (by (with_reducible repeat (first | apply Kd.R_alloc | apply Kd.R_drewN | apply Kd.R_drew)); exact HL212_2.out) hb)
         have n5_ := Aside0.mk (Kd.R_lower ho103 (below_size (by repeat (first | (with_reducible first | exact HB.out | apply below_alloc | apply pw_below_drewN | apply below_drew1) | exact HB.out))))
         have n6_ := Aside0.mk (Kd.C_below (by repeat (first | (with_reducible exact HR212_2.out) | (with_reducible refine Kd.C_alloc ?_ _) | (with_reducible refine Kd.C_drewN ?_ _) | (with_reducible refine Kd.C_drew ?_) | exact HR212_2.out)) hb)
         have n7_ := Aside0.mk (below_step (by repeat (first | (with_reducible first | exact HB.out | apply below_alloc | apply pw_below_drewN | apply below_drew1) | exact HB.out)) hb)
         clear HO_10
         clear HO_11
         clear HO208
         clear HO211
         clear HL212_2
         clear HR212_2
         clear HB
         have HO_10 := n0_
         have HO_11 := n1_
         have HO208 := n2_
         have HO211 := n3_
         have HL212_2 := n4_
         have HO215 := n5_
         have HR212_2 := n6_
         have HB := n7_
         clear n0_ n1_ n2_ n3_ n4_ n5_ n6_ n7_
         clear hb ho103
         obtain ⟨Ao104, co104, eo104⟩ := Kd.R_slice HO211.out
         (first | subst eo104 | (injection eo104 with f1_ f2_ f3_; have f4_ := f1_.symm; have f5_ := f3_.symm; clear f1_ f2_ f3_; subst f4_; subst f5_))
         obtain ⟨Ao105, co105, eo105⟩ := Kd.R_slice HO215.out
         (first | subst eo105 | (injection eo105 with f1_ f2_ f3_; have f4_ := f1_.symm; have f5_ := f3_.symm; clear f1_ f2_ f3_; subst f4_; subst f5_))
         refine hK.out _ _ ⟨HS0_, HS1_, HS2_⟩ (fun hHeld => ?_)
         clear hK K
         refine norm_ (a' := ?_) ?_ ?_
         rotate_left
         ·show Act.put _ (some 118) _ = _
          simp only [Act.put, List.setIfInBounds_toArray, List.set_cons_zero, List.set_cons_succ, i64_w, i32_w]
          rfl
         refine one_ (i := 9) (N := some 119) #[true,true,true,true,true,true,true,true,true,true,false,false,false,false,false,false,false,false,false,false,false,false] rfl rfl (one_of HT_.out (by kernel_rfl)) (by decide) (fun K hK => ?_)
         refine goes_ Tryz.func34 (by kernel_rfl) rfl #[.slice Ao104 t209.length co104, .slice Ao105 y213.length co105] (by rfl) rfl rfl (by (try simp only [List.map_toArray, List.map_cons, List.map_nil]); first | done | rfl | (simp only [List.length_drop, List.length_take]; rfl)) ?_
         with_reducible refine (txn_Pick.calls _ _ t209 _ _ y213 t216 _ ?side1 ?side2 ?side3 ?side4 A58.out).mono ?_
         (case side1 => repeat (first | exact (Kd.R_reads' HO211.out).2.2 | (with_reducible refine Kd.C_alloc ?_ _) | (with_reducible refine Kd.C_drewN ?_ _) | (with_reducible refine Kd.C_drew ?_)))
         (case side2 => exact (Kd.R_reads' HO211.out).2.1)
         (case side3 => repeat (first | exact (Kd.R_reads' HO215.out).2.2 | (with_reducible refine Kd.C_alloc ?_ _) | (with_reducible refine Kd.C_drewN ?_ _) | (with_reducible refine Kd.C_drew ?_)))
         (case side4 => exact (Kd.R_reads' HO215.out).2.1)
         rintro e w106 ⟨v217, rfl, ho0, hb⟩
         have HS0_ := (hb.cell (World.block_lt_of_cell? _ _ (hHeld.1))).trans (hHeld.1)
         have HS1_ := (hb.cell (World.block_lt_of_cell? _ _ (hHeld.2.1))).trans (hHeld.2.1)
         have HS2_ := (hb.cell (World.block_lt_of_cell? _ _ (hHeld.2.2))).trans (hHeld.2.2)
         refine ⟨_, rfl, ?_⟩
         have n0_ := Aside0.mk (Kd.R_below (by (with_reducible repeat (first | apply Kd.R_alloc | apply Kd.R_drewN | apply Kd.R_drew)); exact HO_10.out) hb)
         have n1_ := Aside0.mk (Kd.S_elder' (by (with_reducible repeat (first | apply Kd.S_alloc | apply Kd.S_drewN | apply Kd.S_drew)); exact HO_11.out) (Kd.R_base ho0) hb)
         have n2_ := Aside0.mk (Kd.R_below (by (with_reducible repeat (first | apply Kd.R_alloc | apply Kd.R_drewN | apply Kd.R_drew)); exact HO208.out) hb)
         have n3_ := Aside0.mk (Kd.R_elder' (by (with_reducible repeat (first | apply Kd.R_alloc | apply Kd.R_drewN | apply Kd.R_drew)); exact HO211.out) (Kd.R_base ho0) hb)
         have n4_ := Aside0.mk (Kd.R_elder' (by (with_reducible repeat (first | apply Kd.R_alloc | apply Kd.R_drewN | apply Kd.R_drew)); exact HL212_2.out) (Kd.R_base ho0) hb)
         have n5_ := Aside0.mk (Kd.R_below (by (with_reducible repeat (first | apply Kd.R_alloc | apply Kd.R_drewN | apply Kd.R_drew)); exact HO215.out) hb)
         have n6_ := Aside0.mk (Kd.R_lower (Kd.R_new' (Kd.R_new' ho0 (Kd.R_lt (by (with_reducible repeat (first | apply Kd.R_alloc | apply Kd.R_drewN | apply Kd.R_drew)); exact HO211.out))) (Kd.R_lt (by (with_reducible repeat (first | apply Kd.R_alloc | apply Kd.R_drewN | apply Kd.R_drew)); exact HL212_2.out))) (below_size (by repeat (first | (with_reducible first | exact HB.out | apply below_alloc | apply pw_below_drewN | apply below_drew1) | exact HB.out))))
         have n7_ := Aside0.mk (Kd.C_below (by repeat (first | (with_reducible exact HR212_2.out) | (with_reducible refine Kd.C_alloc ?_ _) | (with_reducible refine Kd.C_drewN ?_ _) | (with_reducible refine Kd.C_drew ?_) | exact HR212_2.out)) hb)
         have n8_ := Aside0.mk (below_step (by repeat (first | (with_reducible first | exact HB.out | apply below_alloc | apply pw_below_drewN | apply below_drew1) | exact HB.out)) hb)
         clear HO_10
         clear HO_11
         clear HO208
         clear HO211
         clear HL212_2
         clear HO215
         clear HR212_2
         clear HB
         have HO_10 := n0_
         have HO_11 := n1_
         have HO208 := n2_
         have HO211 := n3_
         have HL212_2 := n4_
         have HO215 := n5_
         have HO218 := n6_
         have HR212_2 := n7_
         have HB := n8_
         clear n0_ n1_ n2_ n3_ n4_ n5_ n6_ n7_ n8_
         (try clear hb)
         (try clear hb2)
         (try clear hk)
         (try clear hi)
         (try clear ho0)
         obtain ⟨Ao107, co107, eo107⟩ := Kd.R_slice HO218.out
         (first | subst eo107 | (injection eo107 with f1_ f2_ f3_; have f4_ := f1_.symm; have f5_ := f3_.symm; clear f1_ f2_ f3_; subst f4_; subst f5_))
         refine hK.out _ _ ⟨HS0_, HS1_, HS2_⟩ (fun hHeld => ?_)
         clear hK K
         refine norm_ (a' := ?_) ?_ ?_
         rotate_left
         ·show Act.put _ (some 119) _ = _
          simp only [Act.put, List.setIfInBounds_toArray, List.set_cons_zero, List.set_cons_succ, i64_w, i32_w]
          rfl
         refine one_ (i := 10) (N := some 120) #[true,true,true,true,true,true,true,true,true,true,true,false,false,false,false,false,false,false,false,false,false,false] rfl rfl (one_of HT_.out (by kernel_rfl)) (by decide) (fun K hK => ?_)
         refine goes_ Tryz.func31 (by kernel_rfl) rfl #[.slice A212_2 ((rd_T65 t194 4).f2).length c212_2, .slice Ao107 t216.length co107] (by rfl) rfl rfl (by (try simp only [List.map_toArray, List.map_cons, List.map_nil]); first | done | rfl | (simp only [List.length_drop, List.length_take]; rfl)) ?_
         with_reducible refine (folkmootref08_Pairs.calls kj23 _ _ ((rd_T65 t194 4).f2) _ _ t216 false _ ?side1 ?side2 ?side3 ?side4 A59.out).mono ?_
         (case side1 => repeat (first | exact (by repeat (first | (with_reducible exact HR212_2.out) | (with_reducible refine Kd.C_alloc ?_ _) | (with_reducible refine Kd.C_drewN ?_ _) | (with_reducible refine Kd.C_drew ?_) | exact HR212_2.out)) | (with_reducible refine Kd.C_alloc ?_ _) | (with_reducible refine Kd.C_drewN ?_ _) | (with_reducible refine Kd.C_drew ?_)))
         (case side2 => exact HC212_2.out)
         (case side3 => repeat (first | exact (Kd.R_reads' HO218.out).2.2 | (with_reducible refine Kd.C_alloc ?_ _) | (with_reducible refine Kd.C_drewN ?_ _) | (with_reducible refine Kd.C_drew ?_)))
         (case side4 => exact (Kd.R_reads' HO218.out).2.1)
         rintro e w' ⟨rfl, ⟨nd, rfl⟩⟩
         refine ⟨_, rfl, ?_⟩
         refine hK.out _ _ ⟨hHeld.1, hHeld.2.1, hHeld.2.2⟩ (fun hHeld => ?_)
         clear hK K
         refine norm_ (a' := ?_) ?_ ?_
         rotate_left
         ·show Act.put _ (some 120) _ = _
          simp only [Act.put, List.setIfInBounds_toArray, List.set_cons_zero, List.set_cons_succ, i64_w, i32_w]
          rfl
         refine pure_ (i := 11) (N := some 121) (v := ?_) (a' := ?_) #[true,true,true,true,true,true,true,true,true,true,true,true,false,false,false,false,false,false,false,false,false,false] rfl rfl (any_of HT_.out (by kernel_rfl)) (fun _ _ _ h => h) (Or.inl ⟨by rfl, ?_⟩) ?_ ?_
         rotate_left
         ·intro w'
          go_simp
          with_reducible rfl
         rotate_left
         ·simp only [Act.put, List.setIfInBounds_toArray, List.set_cons_zero, List.set_cons_succ, i64_w, i32_w]
          rfl
         refine pure_ (i := 12) (N := some 122) (v := undef) (a' := ?_) #[true,true,true,true,true,true,true,true,true,true,true,true,true,false,false,false,false,false,false,false,false,false] rfl rfl (any_of HT_.out (by kernel_rfl)) (fun _ _ _ h => h) (Or.inr ⟨by rfl, rfl⟩) ?_ ?_
         rotate_left
         ·simp only [Act.put, List.setIfInBounds_toArray, List.set_cons_zero, List.set_cons_succ, i64_w, i32_w]
          rfl
         refine pure_ (i := 13) (N := some 123) (v := undef) (a' := ?_) #[true,true,true,true,true,true,true,true,true,true,true,true,true,true,false,false,false,false,false,false,false,false] rfl rfl (any_of HT_.out (by kernel_rfl)) (fun _ _ _ h => h) (Or.inr ⟨by rfl, rfl⟩) ?_ ?_
         rotate_left
         ·simp only [Act.put, List.setIfInBounds_toArray, List.set_cons_zero, List.set_cons_succ, i64_w, i32_w]
          rfl
         refine pure_ (i := 14) (N := some 124) (v := undef) (a' := ?_) #[true,true,true,true,true,true,true,true,true,true,true,true,true,true,true,false,false,false,false,false,false,false] rfl rfl (any_of HT_.out (by kernel_rfl)) (fun _ _ _ h => h) (Or.inr ⟨by rfl, rfl⟩) ?_ ?_
         rotate_left
         ·simp only [Act.put, List.setIfInBounds_toArray, List.set_cons_zero, List.set_cons_succ, i64_w, i32_w]
          rfl
         refine pure_ (i := 15) (N := some 125) (v := undef) (a' := ?_) #[true,true,true,true,true,true,true,true,true,true,true,true,true,true,true,true,false,false,false,false,false,false] rfl rfl (any_of HT_.out (by kernel_rfl)) (fun _ _ _ h => h) (Or.inr ⟨by rfl, rfl⟩) ?_ ?_
         rotate_left
         ·simp only [Act.put, List.setIfInBounds_toArray, List.set_cons_zero, List.set_cons_succ, i64_w, i32_w]
          rfl
         refine pure_ (i := 16) (N := some 126) (v := undef) (a' := ?_) #[true,true,true,true,true,true,true,true,true,true,true,true,true,true,true,true,true,false,false,false,false,false] rfl rfl (any_of HT_.out (by kernel_rfl)) (fun _ _ _ h => h) (Or.inr ⟨by rfl, rfl⟩) ?_ ?_
         rotate_left
         ·simp only [Act.put, List.setIfInBounds_toArray, List.set_cons_zero, List.set_cons_succ, i64_w, i32_w]
          rfl
         refine pure_ (i := 17) (N := some 127) (v := ?_) (a' := ?_) #[true,true,true,true,true,true,true,true,true,true,true,true,true,true,true,true,true,true,false,false,false,false] rfl rfl (any_of HT_.out (by kernel_rfl)) (fun _ _ _ h => h) (Or.inl ⟨by rfl, ?_⟩) ?_ ?_
         rotate_left
         ·intro w'
          go_simp
          with_reducible rfl
         rotate_left
         ·simp only [Act.put, List.setIfInBounds_toArray, List.set_cons_zero, List.set_cons_succ, i64_w, i32_w]
          rfl
         refine pure_ (i := 18) (N := some 128) (v := ?_) (a' := ?_) #[true,true,true,true,true,true,true,true,true,true,true,true,true,true,true,true,true,true,true,false,false,false] rfl rfl (any_of HT_.out (by kernel_rfl)) (fun _ _ _ h => h) (Or.inl ⟨by rfl, ?_⟩) ?_ ?_
         rotate_left
         ·intro w'
          go_simp
          with_reducible rfl
         rotate_left
         ·simp only [Act.put, List.setIfInBounds_toArray, List.set_cons_zero, List.set_cons_succ, i64_w, i32_w]
          rfl
         refine pure_ (i := 19) (N := some 129) (v := undef) (a' := ?_) #[true,true,true,true,true,true,true,true,true,true,true,true,true,true,true,true,true,true,true,true,false,false] rfl rfl (any_of HT_.out (by kernel_rfl)) (fun _ _ _ h => h) (Or.inr ⟨by rfl, rfl⟩) ?_ ?_
         rotate_left
         ·simp only [Act.put, List.setIfInBounds_toArray, List.set_cons_zero, List.set_cons_succ, i64_w, i32_w]
          rfl
         refine pure_ (i := 20) (N := some 130) (v := ?_) (a' := ?_) #[true,true,true,true,true,true,true,true,true,true,true,true,true,true,true,true,true,true,true,true,true,false] rfl rfl (any_of HT_.out (by kernel_rfl)) (fun _ _ _ h => h) (Or.inl ⟨by rfl, ?_⟩) ?_ ?_
         rotate_left
         ·intro w'
          go_simp
          with_reducible rfl
         rotate_left
         ·simp only [Act.put, List.setIfInBounds_toArray, List.set_cons_zero, List.set_cons_succ, i64_w, i32_w]
          rfl
         refine pure_ (i := 21) (N := some 8) (v := ?_) (a' := ?_) #[true,true,true,true,true,true,true,true,true,true,true,true,true,true,true,true,true,true,true,true,true,true] rfl rfl (any_of HT_.out (by kernel_rfl)) (fun _ _ _ h => h) (Or.inl ⟨by rfl, ?_⟩) ?_ ?_
         rotate_left
         ·intro w'
          go_simp
          with_reducible rfl
         rotate_left
         ·simp only [Act.put, List.setIfInBounds_toArray, List.set_cons_zero, List.set_cons_succ, i64_w, i32_w]
          rfl
         refine done_ (done_of HT_.out (by kernel_rfl)) ?_
         try go_wp2
         go_ret
         exact ⟨by first | rfl | (rw [bl_gt] <;> rfl) | (simp [errW_none, errW_some] <;> rfl) | (simp [*, errW_none, errW_some] <;> rfl), by repeat (first | (with_reducible first | exact HB.out | apply below_alloc | apply pw_below_drewN | apply below_drew1) | exact HB.out)⟩
       ·rw [if_neg c57] at H
        exact absurd H (by simp)
end Go.Proofs.YtgmlenpcchhmbaaGreat.P
end
