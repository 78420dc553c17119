/- what the claim's row stands on, part 8. -/
import Derived.Test.YtgmlenpcchhmbaaGreatZs2
import Derived.Test.YtgmlenpcchhmbaaGreatZs7
section
set_option linter.unusedVariables false
set_option linter.unusedSimpArgs false
namespace Go.Proofs.YtgmlenpcchhmbaaGreat.P
open Go.RowKit Go.Proofs.YtgmlenpcchhmbaaGreatW.PrintWords Go.Proofs.YtgmlenpcchhmbaaGreatW.PrintLast Go.Proofs.YtgmlenpcchhmbaaGreatW.PrintMore
attribute [local go_sem] max2_int min2_int max_two min_two max_three min_three max_four min_four   -- for this text's walks alone
def folkmootlaw08_ops.f (l0 : List (S63)) : Option ((List (S63))) := (some (([] : List (S63)) : List (S63))).bind fun y284 => (if y284.length + l0.length < 2932031007402 then (some (y284 ++ l0)) else (none))
set_option maxHeartbeats 8000000 in
set_option maxRecDepth 100000 in
theorem folkmootlaw08_ops.calls (A0 : Option Addr) (c0 : Nat) (l0 : List (S63)) (r : List (S63)) (w : World) (hr0 : Kd.C k63 w A0 l0.length l0) (hc0 : l0.length ≤ c0) (h : folkmootlaw08_ops.f l0 = some r) :
  Calls Tryz.prog 19 #[.slice A0 l0.length c0] w fun e w' => ∃ v0_ : Value, e = .returned (v0_) ∧ Kd.R k63 63 w' w.heap.size (fun _ => True) v0_ r ∧ Below w.heap.size w w' := by
 have HR0 := Aside0.mk hr0
 have HC0 := Aside0.mk hc0
 clear hr0 hc0
 have HB := Aside0.mk (Below.refl w.heap.size w)
 have H : ((some (([] : List (S63)) : List (S63))).bind fun y284 => (if y284.length + l0.length < 2932031007402 then (some (y284 ++ l0)) else (none))) = some r := h
 clear h
 obtain ⟨y284, hy284⟩ : ∃ y_ : List (S63), y_ = (([] : List (S63))) := ⟨_, rfl⟩
 replace H : (if y284.length + l0.length < 2932031007402 then (some (y284 ++ l0)) else (none)) = some r := by first | (rw [hy284]; with_reducible exact H) | (have H2_ := (Option.bind_some _ _).symm.trans H; rw [hy284]; with_reducible exact H2_) | (have H2_ := (Option.bind_some _ _).symm.trans H; with_reducible exact H2_) | with_reducible exact H | (rw [hy284]; exact H) | exact H
 have Ny284 := Aside0.mk hy284
 clear hy284
 by_cases c2 : y284.length + l0.length < 2932031007402
 ·rw [if_pos c2] at H
  have LMc2 := Aside0.mk c2
  clear c2
  obtain ⟨y287, hy287⟩ : ∃ y_ : List (S63), y_ = (y284 ++ l0) := ⟨_, rfl⟩
  replace H : (some y287) = some r := by first | (rw [hy287]; with_reducible exact H) | (have H2_ := (Option.bind_some _ _).symm.trans H; rw [hy287]; with_reducible exact H2_) | (have H2_ := (Option.bind_some _ _).symm.trans H; with_reducible exact H2_) | with_reducible exact H | (rw [hy287]; exact H) | exact H
  have Ny287 := Aside0.mk hy287
  clear hy287;obtain rfl := Option.some.inj H
  go_enter Tryz.func19, Tryz.ntmps19
  go_wp2_with (first | ((with_reducible refine gate_dst (N := 3) rfl ?_); refine Kd.R_lit k63 _ 63 ?hg (N := 3) ?hd (xs := ([] : List (S63))) (inner := []) (ok := fun _ => True) (okp := fun _ => True) ?hr ?hp (fun _ hk => hk) trivial (Below.refl _ _) (Nat.le_refl _) (by simp) ?_; (case hd => rfl); (case hg => rfl); (case hr => first | (go_simp; done) | (go_simp; rfl)); (case hp => exact (Reps.none _ _)); intro v285 w3 ho4 hb hg_ hnew_; clear hg_ hnew_; (first | rw [← Ny284.out] at ho4 | (simp only [Int.reduceToNat] at ho4; rw [← Ny284.out] at ho4)); have n0_ := Aside0.mk (Kd.R_lower ho4 (below_size bB_)); have n1_ := Aside0.mk (below_step bB_ hb); clear HB; have HO286 := n0_; have HB := n1_; clear n0_ n1_; clear hb ho4) | ((with_reducible refine gate_builtin (b := .append) (xs := #[.tmp 3, .tmp 4]) rfl ?_); at_builtin; refine Kd.R_append_rows k63 (w0 := w) w.heap.size rfl (.tmp 3) (.tmp 4) 22 63 (.agg #[(.int .i64 0), (.string ⟨#[]⟩), (.string ⟨#[]⟩), (.int .u64 0)]) 48 rfl Tryz.underlying22 info63 rfl (by decide) (by omega) v285 y284 l0 _ _ _ (fun _ => True) (fun _ => False) rfl rfl ?aO ?aR (fun _ _ h => h) (fun _ h => h.elim) ?aF ?aB ?aS ?aL ?_; (case aR => repeat (first | exact (Kd.C_below HR0.out HB.out) | (with_reducible refine Kd.C_alloc ?_ _) | (with_reducible refine Kd.C_drewN ?_ _) | (with_reducible refine Kd.C_drew ?_))); (case aB => exact bB_); (case aF => exact (fun _ _ => trivial)); (case aO => exact (rR_ HO286.out)); (case aS => exact (below_size bB_)); (case aL => have := LMc2.out; omega); intro v288 w5 ho hb hg hat; rw [← Ny287.out] at ho; have n0_ := Aside0.mk (hb); have n1_ := Aside0.mk (ho); clear HB; clear HO286; have HB := n0_; have HO289 := n1_; clear n0_ n1_; clear ho hb hg hat))
  go_ret
  exact ⟨_, by first | rfl | (rw [bl_gt] <;> rfl) | (simp [errW_none, errW_some] <;> rfl) | (simp [*, errW_none, errW_some] <;> rfl), by (with_reducible repeat (first | apply Kd.R_alloc | apply Kd.R_drewN | apply Kd.R_drew)); exact HO289.out, bB_⟩
 ·rw [if_neg c2] at H
  exact absurd H (by simp)
end Go.Proofs.YtgmlenpcchhmbaaGreat.P
end
section
set_option linter.unusedVariables false
set_option linter.unusedSimpArgs false
namespace Go.Proofs.YtgmlenpcchhmbaaGreat.P
open Go.RowKit Go.Proofs.YtgmlenpcchhmbaaGreatW.PrintWords Go.Proofs.YtgmlenpcchhmbaaGreatW.PrintLast Go.Proofs.YtgmlenpcchhmbaaGreatW.PrintMore
attribute [local go_sem] max2_int min2_int max_two min_two max_three min_three max_four min_four   -- for this text's walks alone
def folkmootref08_point.f (a0 : ByteArray) : Option (ByteArray × ByteArray) := if a0.size + 1 ≤ 9223372036854775807 then (some (a0, a0 ++ (⟨#[0]⟩ : ByteArray))) else (none)
set_option maxHeartbeats 8000000 in
set_option maxRecDepth 100000 in
theorem folkmootref08_point.calls (a0 : ByteArray) (r1 : ByteArray) (r2 : ByteArray) (w : World) (h : folkmootref08_point.f a0 = some (r1, r2)) :
  Calls Tryz.prog 89 #[.string a0] w fun e w' => e = .returned (.agg #[.string r1, .string r2]) ∧ Below w.heap.size w w' := by
 have hu71 := Tryz.underlying71
 have HB := Aside0.mk (Below.refl w.heap.size w)
 have H : (if a0.size + 1 ≤ 9223372036854775807 then (some (a0, a0 ++ (⟨#[0]⟩ : ByteArray))) else (none)) = some (r1, r2) := h
 clear h
 by_cases c2 : a0.size + 1 ≤ 9223372036854775807
 ·rw [if_pos c2] at H
  have c2b0 := eq_true c2
  have c2b1 : decide (a0.size + 1 ≤ 9223372036854775807) = true := decide_eq_true c2
  try have c2b2 : (9223372036854775807 < a0.size + 1) = False := eq_false (Nat.not_lt.2 c2)
  simp only [Option.some.injEq, Prod.mk.injEq] at H
  obtain ⟨rfl, rfl⟩ := H
  go_enter Tryz.func89, Tryz.ntmps89
  go_wp2_with (first | ((with_reducible refine gate_dst (N := 2) rfl ?_); refine box_event ?hg (N := 2) ?hd (cs := #[.string (⟨#[]⟩ : ByteArray), .string (⟨#[]⟩ : ByteArray)]) (t := 71) ?hr ?_; (case hd => rfl); (case hg => rfl); (case hr => first | (go_simp; done) | (go_simp; rfl)); intro gb831 hg w3 hbox hb; have n0_ := Aside0.mk (below_step bB_ hb); have n1_ := Aside0.mk (hbox); have n2_ := Aside0.mk ((by rw [hg]; exact (below_size bB_) : w.heap.size ≤ gb831)); have n3_ := Aside0.mk ((by rw [hg]; exact (below_size bB_) : w.heap.size ≤ gb831)); clear HB; have HB := n0_; have BK831 := n1_; have GW831 := n2_; have GE831 := n3_; clear n0_ n1_ n2_ n3_; clear hb hbox hg; have hcz4_0 : w3.cell? ⟨gb831, 0, none⟩ = some (.string (⟨#[]⟩ : ByteArray)) := (blk_cell BK831.out 0).trans rfl; have hcz4_1 : w3.cell? ⟨gb831, 1, none⟩ = some (.string (⟨#[]⟩ : ByteArray)) := (blk_cell BK831.out 1).trans rfl; have hfz4_0 := blk_frozen BK831.out 0; have hfz4_1 := blk_frozen BK831.out 1))
  refine bodyPost_ret (results_cell_row rfl _ _ gb831 71 #[.string a0, .string (a0 ++ (⟨#[0]⟩ : ByteArray))] (0, 0) _ rfl (by (with_reducible repeat (first | refine blk_drewN ?_ _ | refine blk_drew ?_ | refine blk_alloc ?_ _)); refine blk_put (cs := #[.string a0, .string (⟨#[]⟩ : ByteArray)]) ?_ 1 _ rfl; (with_reducible repeat (first | refine blk_drewN ?_ _ | refine blk_drew ?_ | refine blk_alloc ?_ _)); refine blk_put (cs := #[.string (⟨#[]⟩ : ByteArray), .string (⟨#[]⟩ : ByteArray)]) ?_ 0 _ rfl; (with_reducible repeat (first | refine blk_drewN ?_ _ | refine blk_drew ?_ | refine blk_alloc ?_ _)); exact BK831.out) Tryz.underlying71 rfl (by kernel_rfl)) rfl ?_
  exact ⟨by first | rfl | (rw [bl_gt] <;> rfl) | (simp [errW_none, errW_some] <;> rfl) | (simp [*, errW_none, errW_some] <;> rfl), by repeat (first | (with_reducible first | exact HB.out | apply below_alloc | apply pw_below_drewN | apply below_drew1 | refine below_set ?_ GE831.out) | exact HB.out)⟩
 ·rw [if_neg c2] at H
  exact absurd H (by simp)
end Go.Proofs.YtgmlenpcchhmbaaGreat.P
end
section
set_option linter.unusedVariables false
set_option linter.unusedSimpArgs false
namespace Go.Proofs.YtgmlenpcchhmbaaGreat.P
open Go.RowKit Go.Proofs.YtgmlenpcchhmbaaGreatW.PrintWords Go.Proofs.YtgmlenpcchhmbaaGreatW.PrintLast Go.Proofs.YtgmlenpcchhmbaaGreatW.PrintMore
attribute [local go_sem] max2_int min2_int max_two min_two max_three min_three max_four min_four   -- for this text's walks alone
mutual
def folkmootref08_Reads.l0 : Nat → List (S63) → List (S71) → Int → Option ((List (S71)))
 | 0, _, _, _ => none
 | k + 1, x0, x3, x4 => if x4 < (x0.length : Int) then (if 0 ≤ x4 then (if ((rd_T63 x0 x4).f0) = 1 then (folkmootref08_Reads.j1 k x0 x3 x4 ((rd_T63 x0 x4).f0) (((rd_T63 x0 x4).f0) == 1)) else (if ((rd_T63 x0 x4).f0) = 4 then (folkmootref08_Reads.j1 k x0 x3 x4 ((rd_T63 x0 x4).f0) (((rd_T63 x0 x4).f0) == 4)) else (folkmootref08_Reads.j1 k x0 x3 x4 ((rd_T63 x0 x4).f0) (((rd_T63 x0 x4).f0) == 5)))) else (none)) else ((folkmootref03_Union.f k x3).bind fun t832 => (some t832))
def folkmootref08_Reads.j1 : Nat → List (S63) → List (S71) → Int → Int → Bool → Option ((List (S71)))
 | 0, _, _, _, _, _ => none
 | k + 1, x0, x3, x4, x15, x16 => if x16 = true then (if 0 ≤ x4 then (if x4 < (x0.length : Int) then ((folkmootref08_point.f ((rd_T63 x0 x4).f1)).bind fun bt837 => (if x3.length < 4398046511104 then (folkmootref08_Reads.l0 k x0 (x3 ++ [(⟨bt837.1, bt837.2⟩ : S71)]) (wrap64 (x4 + 1))) else (none))) else (none)) else (none)) else (if x15 = 6 then (if 0 ≤ x4 then (if x4 < (x0.length : Int) then ((folkmootref08_point.f ((rd_T63 x0 x4).f1)).bind fun bt843 => ((folkmootref08_point.f ((rd_T63 x0 x4).f2)).bind fun bt846 => ((some (([(⟨bt843.1, bt843.2⟩ : S71), (⟨bt846.1, bt846.2⟩ : S71)] : List (S71)) : List (S71))).bind fun y848 => (if x3.length + y848.length < 4398046511104 then (folkmootref08_Reads.l0 k x0 (x3 ++ y848) (wrap64 (x4 + 1))) else (none))))) else (none)) else (none)) else (if x15 = 2 then (if 0 ≤ x4 then (if x4 < (x0.length : Int) then (if x3.length < 4398046511104 then (folkmootref08_Reads.l0 k x0 (x3 ++ [(⟨(rd_T63 x0 x4).f1, (rd_T63 x0 x4).f2⟩ : S71)]) (wrap64 (x4 + 1))) else (none)) else (none)) else (none)) else (folkmootref08_Reads.l0 k x0 x3 (wrap64 (x4 + 1)))))
end
def folkmootref08_Reads.f (k : Nat) (l0 : List (S63)) : Option ((List (S71))) := folkmootref08_Reads.l0 k l0 ([] : List (S71)) 0
def folkmootref08_Reads.T11 : Bool × List (List Nat × List Nat) := (true, [([], []), ([], []), ([], []), ([1, 2], [1, 2]), ([3], [3]), ([4], [4]), ([5], [5]), ([], []), ([], []), ([7, 8], [7, 8]), ([9], [9]), ([10], [10]), ([11, 6], [11]), ([6, 12], [6, 12]), ([0, 13, 12], [0, 13]), ([14, 14, 0, 1, 2, 3, 4, 5, 6, 7, 8, 9, 10, 11, 12, 13, 14], [0, 14])])
def folkmootref08_Reads.B11 : List Nat := [0, 0, 0, 6, 14, 30, 62, 0, 0, 384, 896, 1920, 4094, 8190, 16383, 32767]
theorem folkmootref08_Reads.tab11 : rtab .any (opsOf Tryz.f43 11) = folkmootref08_Reads.T11 := by kernel_rfl
theorem folkmootref08_Reads.bits11 : waitsOk folkmootref08_Reads.T11.2 folkmootref08_Reads.B11 = true := by kernel_rfl
def folkmootref08_Reads.T13 : Bool × List (List Nat × List Nat) := (true, [([], []), ([], []), ([], []), ([1, 2], [1, 2]), ([3], [3]), ([4], [4]), ([], []), ([], []), ([6, 7], [6, 7]), ([8], [8]), ([9], [9]), ([5, 10], [5, 10]), ([11], [11]), ([0, 12], [0, 12]), ([13, 13, 0, 1, 2, 3, 4, 5, 6, 7, 8, 9, 10, 11, 12, 13], [0, 13])])
def folkmootref08_Reads.B13 : List Nat := [0, 0, 0, 6, 14, 30, 0, 0, 192, 448, 960, 2046, 4094, 8191, 16383]
theorem folkmootref08_Reads.tab13 : rtab .any (opsOf Tryz.f43 13) = folkmootref08_Reads.T13 := by kernel_rfl
theorem folkmootref08_Reads.bits13 : waitsOk folkmootref08_Reads.T13.2 folkmootref08_Reads.B13 = true := by kernel_rfl
set_option maxHeartbeats 8000000 in
set_option maxRecDepth 100000 in
theorem folkmootref08_Reads.calls (k : Nat) (A0 : Option Addr) (c0 : Nat) (l0 : List (S63)) (r : List (S71)) (w : World) (hr0 : Kd.C k63 w A0 l0.length l0) (hc0 : l0.length ≤ c0) (h : folkmootref08_Reads.f k l0 = some r) :
  Calls Tryz.prog 43 #[.slice A0 l0.length c0] w fun e w' => ∃ v0_ : Value, e = .returned (v0_) ∧ Kd.R k71 71 w' w.heap.size (fun _ => True) v0_ r ∧ Below w.heap.size w w' := by
 have hu71 := Tryz.underlying71
 have HR0 := Aside0.mk hr0
 have HC0 := Aside0.mk hc0
 clear hr0 hc0
 have HB := Aside0.mk (Below.refl w.heap.size w)
 have H : (folkmootref08_Reads.l0 k l0 ([] : List (S71)) 0) = some r := h
 clear h
 have H' := Aside0.mk H
 clear H
 go_enter Tryz.func43, Tryz.ntmps43
 go_wp2
 go_loopg [3, 4] k (fun kq v3 v4 w' => ∃ (x3_1 : List (S71)) (x4_1 : Int), v4 = .int .i64 x4_1 ∧ Aside0 (folkmootref08_Reads.l0 kq l0 x3_1 x4_1 = some r) ∧ Aside0 (kq ≤ k) ∧ Aside0 (Kd.R k71 71 w' w.heap.size (fun _ => True) v3 x3_1) ∧ Aside0 (Below w.heap.size w w'))
 case atStart => exact ⟨(([] : List (S71))), (0), (by first | rfl | (rw [bl_gt] <;> rfl) | (simp; done) | (simp [*]; done)), H', ⟨Nat.le_refl _⟩, ⟨by first | exact Kd.R_nil _ _ _ _ _ | exact Kd.N_nil _ _ _ _ _ | exact Kd.V_nil _ _ _ _ _ | exact Kd.Q_nil _ _ _ _ _ | exact Kd.S_nil _ _ _ _ _⟩, ⟨bB_⟩⟩
 case round =>
  clear H'
  obtain ⟨x3_1, x4_1, rfl, HA, HK1, HO_3, HB⟩ := hrel
  cases gk with
  | zero => exact absurd HA.out (by simp [folkmootref08_Reads.l0])
  | succ k1 =>
   have H := HA.out;clear HA
   simp only [folkmootref08_Reads.l0] at H
   by_cases c2 : x4_1 < (l0.length : Int)
   ·rw [if_pos c2] at H
    have c2b0 : decide (x4_1 < (l0.length : Int)) = true := decide_eq_true c2
    clear c2
    by_cases c3 : 0 ≤ x4_1
    ·rw [if_pos c3] at H
     have c3b0 : decide (0 ≤ x4_1) = true := decide_eq_true c3
     clear c3
     have HC4 := Aside0.mk H
     clear H
     have p835 : 0 ≤ (x4_1 : Int) := of_decide_eq_true (by first | (with_reducible assumption) | assumption)
     have q835 : x4_1 < (l0.length : Int) := of_decide_eq_true (by first | (with_reducible assumption) | assumption)
     obtain ⟨ad835, e835, hx835_0, hx835_1, hx835_2, hx835_3⟩ := at_T63 HR0.out x4_1 p835 q835
     cases e835
     replace hx835_0 := (HB.out.cell (World.block_lt_of_cell? w _ hx835_0)).trans hx835_0
     replace hx835_1 := (HB.out.cell (World.block_lt_of_cell? w _ hx835_1)).trans hx835_1
     replace hx835_2 := (HB.out.cell (World.block_lt_of_cell? w _ hx835_2)).trans hx835_2
     replace hx835_3 := (HB.out.cell (World.block_lt_of_cell? w _ hx835_3)).trans hx835_3
     replace p835 := eq_true p835
     replace q835 := eq_true q835
     go_upto_if 16 with (fail)
     go_cut [16] (fun v16 wc => ∃ (kq : Nat) (x16_3 : Bool), v16 = .bool x16_3 ∧ Aside0 (folkmootref08_Reads.j1 kq l0 x3_1 x4_1 ((rd_T63 l0 x4_1).f0) x16_3 = some r) ∧ Aside0 (kq ≤ k1) ∧ Aside0 (Kd.R k71 71 wc w.heap.size (fun _ => True) u3 x3_1) ∧ Aside0 (Below w.heap.size w wc))
     case first =>
      have H := HC4.out;clear HC4
      by_cases c5 : ((rd_T63 l0 x4_1).f0) = 1
      ·rw [if_pos c5] at H
       have c5b0 : (((rd_T63 l0 x4_1).f0) == 1) = true := beq_iff_eq.mpr c5
       have c5b1 : (((rd_T63 l0 x4_1).f0) != 1) = false := bne_eq_false_iff_eq.mpr c5
       clear c5
       (first | rw [c5b0] | (simp only [i64_w, i32_w]; rw [c5b0]) | skip)
       have H' := Aside0.mk H
       clear H
       go_wp2
       first
       | (go_meet; case rel => exact ⟨_, ((((rd_T63 l0 x4_1).f0) == 1)), (by first | rfl | (rw [bl_gt] <;> rfl) | (simp; done) | (simp [*]; done)), H', ⟨by have := HK1.out; first | omega | exact Nat.le_refl _⟩, ⟨rR_ HO_3.out⟩, ⟨bB_⟩⟩)
       | (refine Met.intro ?_; go_step; (repeat apply Exists.intro); refine ⟨?_, ?_⟩; rotate_left; (focus (simp only [c5b0]; try rfl)); exact ⟨_, ((((rd_T63 l0 x4_1).f0) == 1)), (by first | rfl | (rw [bl_gt] <;> rfl) | (simp; done) | (simp [*]; done)), H', ⟨by have := HK1.out; first | omega | exact Nat.le_refl _⟩, ⟨rR_ HO_3.out⟩, ⟨bB_⟩⟩)
      ·rw [if_neg c5] at H
       have c5b0 : (((rd_T63 l0 x4_1).f0) == 1) = false := beq_eq_false_iff_ne.mpr c5
       have c5b1 : (((rd_T63 l0 x4_1).f0) != 1) = true := bne_iff_ne.mpr c5
       (first | rw [c5b0] | (simp only [i64_w, i32_w]; rw [c5b0]) | skip)
       by_cases c6 : ((rd_T63 l0 x4_1).f0) = 4
       ·rw [if_pos c6] at H
        have c6b0 : (((rd_T63 l0 x4_1).f0) == 4) = true := beq_iff_eq.mpr c6
        have c6b1 : (((rd_T63 l0 x4_1).f0) != 4) = false := bne_eq_false_iff_eq.mpr c6
        clear c6
        have H' := Aside0.mk H
        clear H
        go_wp2
        first
        | (go_meet; case rel => exact ⟨_, ((((rd_T63 l0 x4_1).f0) == 4)), (by first | rfl | (rw [bl_gt] <;> rfl) | (simp; done) | (simp [*]; done)), H', ⟨by have := HK1.out; first | omega | exact Nat.le_refl _⟩, ⟨rR_ HO_3.out⟩, ⟨bB_⟩⟩)
        | (refine Met.intro ?_; go_step; (repeat apply Exists.intro); refine ⟨?_, ?_⟩; rotate_left; (focus (simp only [c5b0, c6b0]; try rfl)); exact ⟨_, ((((rd_T63 l0 x4_1).f0) == 4)), (by first | rfl | (rw [bl_gt] <;> rfl) | (simp; done) | (simp [*]; done)), H', ⟨by have := HK1.out; first | omega | exact Nat.le_refl _⟩, ⟨rR_ HO_3.out⟩, ⟨bB_⟩⟩)
       ·rw [if_neg c6] at H
        have c6b0 : (((rd_T63 l0 x4_1).f0) == 4) = false := beq_eq_false_iff_ne.mpr c6
        have c6b1 : (((rd_T63 l0 x4_1).f0) != 4) = true := bne_iff_ne.mpr c6
        have H' := Aside0.mk H
        clear H
        go_wp2
        first
        | (go_meet; case rel => exact ⟨_, ((((rd_T63 l0 x4_1).f0) == 5)), (by first | rfl | (rw [bl_gt] <;> rfl) | (simp; done) | (simp [*]; done)), H', ⟨by have := HK1.out; first | omega | exact Nat.le_refl _⟩, ⟨rR_ HO_3.out⟩, ⟨bB_⟩⟩)
        | (refine Met.intro ?_; go_step; (repeat apply Exists.intro); refine ⟨?_, ?_⟩; rotate_left; (focus (simp only [c5b0, c6b0]; try rfl)); exact ⟨_, ((((rd_T63 l0 x4_1).f0) == 5)), (by first | rfl | (rw [bl_gt] <;> rfl) | (simp; done) | (simp [*]; done)), H', ⟨by have := HK1.out; first | omega | exact Nat.le_refl _⟩, ⟨rR_ HO_3.out⟩, ⟨bB_⟩⟩)
     case rest =>
      clear HC4
      try clear c2
      try clear c2b0
      try clear p2
      try clear c3
      try clear c3b0
      try clear c4
      try clear c5
      try clear c5b0
      try clear c5b1
      try clear c6
      try clear c6b0
      try clear c6b1
      try clear hx835_0
      try clear hx835_1
      try clear hx835_2
      try clear hx835_3
      try clear p835
      try clear q835
      obtain ⟨kq, x16_3, rfl, HA, HJ3, HO_3, HB⟩ := hcut
      cases kq with
      | zero => exact absurd HA.out (by simp [folkmootref08_Reads.j1])
      | succ kj3 =>
       have H := HA.out;clear HA
       simp only [folkmootref08_Reads.j1] at H
       by_cases c7 : x16_3 = true
       ·subst c7
        have H1 : (if 0 ≤ x4_1 then (if x4_1 < (l0.length : Int) then ((folkmootref08_point.f ((rd_T63 l0 x4_1).f1)).bind fun bt837 => (if x3_1.length < 4398046511104 then (folkmootref08_Reads.l0 kj3 l0 (x3_1 ++ [(⟨bt837.1, bt837.2⟩ : S71)]) (wrap64 (x4_1 + 1))) else (none))) else (none)) else (none)) = some r := by rw [if_pos rfl] at H; exact H
        clear H;have H := H1;clear H1
        by_cases c8 : 0 ≤ x4_1
        ·rw [if_pos c8] at H
         have c8b0 : decide (0 ≤ x4_1) = true := decide_eq_true c8
         clear c8
         by_cases c9 : x4_1 < (l0.length : Int)
         ·rw [if_pos c9] at H
          have c9b0 : decide (x4_1 < (l0.length : Int)) = true := decide_eq_true c9
          clear c9
          replace H := Option.bind_eq_some_iff.mp H
          obtain ⟨⟨t837, t838⟩, A100, H⟩ := H
          replace H : (if x3_1.length < 4398046511104 then (folkmootref08_Reads.l0 kj3 l0 (x3_1 ++ [(⟨t837, t838⟩ : S71)]) (wrap64 (x4_1 + 1))) else (none)) = some r := H
          have A10 := Aside0.mk A100
          clear A100
          by_cases c11 : x3_1.length < 4398046511104
          ·rw [if_pos c11] at H
           have LMc11 := Aside0.mk c11
           clear c11
           obtain ⟨y839, hy839⟩ : ∃ y_ : List (S71), y_ = (x3_1 ++ [(⟨t837, t838⟩ : S71)]) := ⟨_, rfl⟩
           replace H : (folkmootref08_Reads.l0 kj3 l0 y839 (wrap64 (x4_1 + 1))) = some r := by first | (rw [hy839]; with_reducible exact H) | (have H2_ := (Option.bind_some _ _).symm.trans H; rw [hy839]; with_reducible exact H2_) | (have H2_ := (Option.bind_some _ _).symm.trans H; with_reducible exact H2_) | with_reducible exact H | (rw [hy839]; exact H) | exact H
           have Ny839 := Aside0.mk hy839
           clear hy839
           have H' := Aside0.mk H
           clear H
           have p836 : 0 ≤ (x4_1 : Int) := of_decide_eq_true (by first | (with_reducible assumption) | assumption)
           have q836 : x4_1 < (l0.length : Int) := of_decide_eq_true (by first | (with_reducible assumption) | assumption)
           obtain ⟨ad836, e836, hx836_0, hx836_1, hx836_2, hx836_3⟩ := at_T63 HR0.out x4_1 p836 q836
           obtain rfl : ad835 = ad836 := (by injection e836)
           replace hx836_0 := (HB.out.cell (World.block_lt_of_cell? w _ hx836_0)).trans hx836_0
           replace hx836_1 := (HB.out.cell (World.block_lt_of_cell? w _ hx836_1)).trans hx836_1
           replace hx836_2 := (HB.out.cell (World.block_lt_of_cell? w _ hx836_2)).trans hx836_2
           replace hx836_3 := (HB.out.cell (World.block_lt_of_cell? w _ hx836_3)).trans hx836_3
           replace p836 := eq_true p836
           replace q836 := eq_true q836
           go_wp2_with (first | ((with_reducible refine gate_callee (f := 89) rfl ?_); refine goesL_ (some 26) rfl rfl Tryz.func89 (by kernel_rfl) rfl #[.string ((rd_T63 l0 x4_1).f1)] rfl (by (try simp only [List.map_toArray, List.map_cons, List.map_nil]); first | done | rfl | (simp only [List.length_drop, List.length_take]; rfl)) ?_; (with_reducible refine (folkmootref08_point.calls ((rd_T63 l0 x4_1).f1) t837 t838 _ A10.out).mono ?_); rintro e w12 ⟨rfl, hb⟩; refine ⟨_, rfl, ?_⟩; have n0_ := Aside0.mk (Kd.R_below (rR_ HO_3.out) hb); have n1_ := Aside0.mk (below_step bB_ hb); clear HO_3; clear HB; have HO_3 := n0_; have HB := n1_; clear n0_ n1_; (try clear hb); (try clear hb2); (try clear hk); (try clear hi)) | ((with_reducible refine gate_builtin (b := .append) (xs := #[.tmp 20, .tmp 27]) rfl ?_); at_builtin; refine Kd.R_append k71 (w0 := w) w.heap.size rfl (.tmp 20) (.tmp 27) 40 71 (.agg #[(.string ⟨#[]⟩), (.string ⟨#[]⟩)]) 32 rfl Tryz.underlying40 info71 rfl (by decide) (by omega) u3 x3_1 (⟨t837, t838⟩ : S71) [.string t837, .string t838] (fun _ => True) (fun _ => False) rfl rfl ?aP (fun _ hk => hk.elim) ?aF ?aO ?aB ?aS ?aL ?_; (case aP => exact k71_mkM _ _ _ (⟨t837, t838⟩ : S71)); (case aB => exact bB_); (case aF => exact (fun _ _ => trivial)); (case aO => exact (rR_ HO_3.out)); (case aS => exact (below_size bB_)); (case aL => have := LMc11.out; omega); intro v840 w13 ho hb hg hat; rw [← Ny839.out] at ho; have n0_ := Aside0.mk (hb); have n1_ := Aside0.mk (ho); clear HB; clear HO_3; have HB := n0_; have HO841 := n1_; clear n0_ n1_; clear ho hb hg hat))
           go_roundg kj3
           case measure => have := HK1.out; have := HJ3.out; omega
           case rel => exact ⟨(y839), (wrap64 (x4_1 + 1)), (by first | rfl | (rw [bl_gt] <;> rfl) | (simp; done) | (simp [*]; done)), H', ⟨by have := HK1.out; have := HJ3.out; omega⟩, ⟨rR_ HO841.out⟩, ⟨bB_⟩⟩
          ·rw [if_neg c11] at H
           exact absurd H (by simp)
         ·rw [if_neg c9] at H
          exact absurd H (by simp)
        ·rw [if_neg c8] at H
         exact absurd H (by simp)
       ·replace c7 := Bool.eq_false_iff.mpr c7
        subst c7
        have H1 : (if ((rd_T63 l0 x4_1).f0) = 6 then (if 0 ≤ x4_1 then (if x4_1 < (l0.length : Int) then ((folkmootref08_point.f ((rd_T63 l0 x4_1).f1)).bind fun bt843 => ((folkmootref08_point.f ((rd_T63 l0 x4_1).f2)).bind fun bt846 => ((some (([(⟨bt843.1, bt843.2⟩ : S71), (⟨bt846.1, bt846.2⟩ : S71)] : List (S71)) : List (S71))).bind fun y848 => (if x3_1.length + y848.length < 4398046511104 then (folkmootref08_Reads.l0 kj3 l0 (x3_1 ++ y848) (wrap64 (x4_1 + 1))) else (none))))) else (none)) else (none)) else (if ((rd_T63 l0 x4_1).f0) = 2 then (if 0 ≤ x4_1 then (if x4_1 < (l0.length : Int) then (if x3_1.length < 4398046511104 then (folkmootref08_Reads.l0 kj3 l0 (x3_1 ++ [(⟨(rd_T63 l0 x4_1).f1, (rd_T63 l0 x4_1).f2⟩ : S71)]) (wrap64 (x4_1 + 1))) else (none)) else (none)) else (none)) else (folkmootref08_Reads.l0 kj3 l0 x3_1 (wrap64 (x4_1 + 1))))) = some r := by rw [if_neg (show ¬ (false = true) by decide)] at H; exact H
        clear H;have H := H1;clear H1
        by_cases c14 : ((rd_T63 l0 x4_1).f0) = 6
        ·rw [if_pos c14] at H
         have c14b0 : (((rd_T63 l0 x4_1).f0) == 6) = true := beq_iff_eq.mpr c14
         have c14b1 : (((rd_T63 l0 x4_1).f0) != 6) = false := bne_eq_false_iff_eq.mpr c14
         clear c14
         by_cases c15 : 0 ≤ x4_1
         ·rw [if_pos c15] at H
          have c15b0 : decide (0 ≤ x4_1) = true := decide_eq_true c15
          clear c15
          by_cases c16 : x4_1 < (l0.length : Int)
          ·rw [if_pos c16] at H
           have c16b0 : decide (x4_1 < (l0.length : Int)) = true := decide_eq_true c16
           clear c16
           replace H := Option.bind_eq_some_iff.mp H
           obtain ⟨⟨t843, t844⟩, A170, H⟩ := H
           replace H : ((folkmootref08_point.f ((rd_T63 l0 x4_1).f2)).bind fun bt846 => ((some (([(⟨t843, t844⟩ : S71), (⟨bt846.1, bt846.2⟩ : S71)] : List (S71)) : List (S71))).bind fun y848 => (if x3_1.length + y848.length < 4398046511104 then (folkmootref08_Reads.l0 kj3 l0 (x3_1 ++ y848) (wrap64 (x4_1 + 1))) else (none)))) = some r := H
           have A17 := Aside0.mk A170
           clear A170
           replace H := Option.bind_eq_some_iff.mp H
           obtain ⟨⟨t846, t847⟩, A180, H⟩ := H
           replace H : ((some (([(⟨t843, t844⟩ : S71), (⟨t846, t847⟩ : S71)] : List (S71)) : List (S71))).bind fun y848 => (if x3_1.length + y848.length < 4398046511104 then (folkmootref08_Reads.l0 kj3 l0 (x3_1 ++ y848) (wrap64 (x4_1 + 1))) else (none))) = some r := H
           have A18 := Aside0.mk A180
           clear A180
           obtain ⟨y848, hy848⟩ : ∃ y_ : List (S71), y_ = (([(⟨t843, t844⟩ : S71), (⟨t846, t847⟩ : S71)] : List (S71))) := ⟨_, rfl⟩
           replace H : (if x3_1.length + y848.length < 4398046511104 then (folkmootref08_Reads.l0 kj3 l0 (x3_1 ++ y848) (wrap64 (x4_1 + 1))) else (none)) = some r := by first | (rw [hy848]; with_reducible exact H) | (have H2_ := (Option.bind_some _ _).symm.trans H; rw [hy848]; with_reducible exact H2_) | (have H2_ := (Option.bind_some _ _).symm.trans H; with_reducible exact H2_) | with_reducible exact H | (rw [hy848]; exact H) | exact H
           have Ny848 := Aside0.mk hy848
           clear hy848
           by_cases c19 : x3_1.length + y848.length < 4398046511104
           ·rw [if_pos c19] at H
            have LMc19 := Aside0.mk c19
            clear c19
            obtain ⟨y851, hy851⟩ : ∃ y_ : List (S71), y_ = (x3_1 ++ y848) := ⟨_, rfl⟩
            replace H : (folkmootref08_Reads.l0 kj3 l0 y851 (wrap64 (x4_1 + 1))) = some r := by first | (rw [hy851]; with_reducible exact H) | (have H2_ := (Option.bind_some _ _).symm.trans H; rw [hy851]; with_reducible exact H2_) | (have H2_ := (Option.bind_some _ _).symm.trans H; with_reducible exact H2_) | with_reducible exact H | (rw [hy851]; exact H) | exact H
            have Ny851 := Aside0.mk hy851
            clear hy851
            have H' := Aside0.mk H
            clear H
            try go_wp2
            have n0_ := Aside0.mk (Kd.R_drew HO_3.out)
            have n1_ := Aside0.mk (below_drew1 HB.out)
            clear HO_3 HB;have HO_3 := n0_;have HB := n1_;clear n0_ n1_
            have p842 : 0 ≤ (x4_1 : Int) := of_decide_eq_true (by first | (with_reducible assumption) | assumption)
            have q842 : x4_1 < (l0.length : Int) := of_decide_eq_true (by first | (with_reducible assumption) | assumption)
            obtain ⟨ad842, e842, hx842_0, hx842_1, hx842_2, hx842_3⟩ := at_T63 HR0.out x4_1 p842 q842
            have hw842_3 := hx842_3;have hw842_2 := hx842_2;have hw842_1 := hx842_1;have hw842_0 := hx842_0
            obtain rfl : ad835 = ad842 := (by injection e842)
            replace hx842_0 := (HB.out.cell (World.block_lt_of_cell? w _ hx842_0)).trans hx842_0
            replace hx842_1 := (HB.out.cell (World.block_lt_of_cell? w _ hx842_1)).trans hx842_1
            replace hx842_2 := (HB.out.cell (World.block_lt_of_cell? w _ hx842_2)).trans hx842_2
            replace hx842_3 := (HB.out.cell (World.block_lt_of_cell? w _ hx842_3)).trans hx842_3
            replace p842 := eq_true p842
            replace q842 := eq_true q842
            have p845 : 0 ≤ (x4_1 : Int) := of_decide_eq_true (by first | (with_reducible assumption) | assumption)
            have q845 : x4_1 < (l0.length : Int) := of_decide_eq_true (by first | (with_reducible assumption) | assumption)
            obtain ⟨ad845, e845, hx845_0, hx845_1, hx845_2, hx845_3⟩ := at_T63 HR0.out x4_1 p845 q845
            have hw845_3 := hx845_3;have hw845_2 := hx845_2;have hw845_1 := hx845_1;have hw845_0 := hx845_0
            obtain rfl : ad835 = ad845 := (by injection e845)
            replace hx845_0 := (HB.out.cell (World.block_lt_of_cell? w _ hx845_0)).trans hx845_0
            replace hx845_1 := (HB.out.cell (World.block_lt_of_cell? w _ hx845_1)).trans hx845_1
            replace hx845_2 := (HB.out.cell (World.block_lt_of_cell? w _ hx845_2)).trans hx845_2
            replace hx845_3 := (HB.out.cell (World.block_lt_of_cell? w _ hx845_3)).trans hx845_3
            replace p845 := eq_true p845
            replace q845 := eq_true q845
            refine start_ (n := 16) (S := fun w' => w'.cell? (ad835.add ((x4_1).toNat * 4)) = some (.int .i64 ((rd_T63 l0 x4_1).f0)) ∧ w'.cell? ⟨(ad835.add ((x4_1).toNat * 4)).block, (ad835.add ((x4_1).toNat * 4)).off + 1, none⟩ = some (.string ((rd_T63 l0 x4_1).f1)) ∧ w'.cell? ⟨(ad835.add ((x4_1).toNat * 4)).block, (ad835.add ((x4_1).toNat * 4)).off + 2, none⟩ = some (.string ((rd_T63 l0 x4_1).f2)) ∧ w'.cell? ⟨(ad835.add ((x4_1).toNat * 4)).block, (ad835.add ((x4_1).toNat * 4)).off + 3, none⟩ = some (.int .u64 ((rd_T63 l0 x4_1).f3)) ∧ w'.cell? (ad835.add ((x4_1).toNat * 4)) = some (.int .i64 ((rd_T63 l0 x4_1).f0)) ∧ w'.cell? ⟨(ad835.add ((x4_1).toNat * 4)).block, (ad835.add ((x4_1).toNat * 4)).off + 1, none⟩ = some (.string ((rd_T63 l0 x4_1).f1)) ∧ w'.cell? ⟨(ad835.add ((x4_1).toNat * 4)).block, (ad835.add ((x4_1).toNat * 4)).off + 2, none⟩ = some (.string ((rd_T63 l0 x4_1).f2)) ∧ w'.cell? ⟨(ad835.add ((x4_1).toNat * 4)).block, (ad835.add ((x4_1).toNat * 4)).off + 3, none⟩ = some (.int .u64 ((rd_T63 l0 x4_1).f3))) (ds := []) #[false,false,false,false,false,false,false,false,false,false,false,false,false,false,false,false] (by kernel_rfl) rfl rfl ⟨((HB.out.cell (World.block_lt_of_cell? w _ hw842_0)).trans hw842_0), ((HB.out.cell (World.block_lt_of_cell? w _ hw842_1)).trans hw842_1), ((HB.out.cell (World.block_lt_of_cell? w _ hw842_2)).trans hw842_2), ((HB.out.cell (World.block_lt_of_cell? w _ hw842_3)).trans hw842_3), ((HB.out.cell (World.block_lt_of_cell? w _ hw845_0)).trans hw845_0), ((HB.out.cell (World.block_lt_of_cell? w _ hw845_1)).trans hw845_1), ((HB.out.cell (World.block_lt_of_cell? w _ hw845_2)).trans hw845_2), ((HB.out.cell (World.block_lt_of_cell? w _ hw845_3)).trans hw845_3)⟩ (fun hHeld => ?_); refine with_tabW folkmootref08_Reads.tab11 folkmootref08_Reads.bits11 (fun HT_ HW_ => ?_)
            generalize wc.drew = w20 at HO_3 HB hx842_0 hx842_1 hx842_2 hx842_3 hx845_0 hx845_1 hx845_2 hx845_3 hHeld ⊢
            refine pu_ 0 31 ?_;refine pu_ 1 32 ?_;refine pu_ 2 33 ?_;refine pu_ 3 34 ?_;refine pu_ 4 35 ?_;refine pu_ 7 38 ?_;refine pu_ 8 39 ?_;refine pu_ 9 40 ?_;refine pu_ 10 41 ?_;refine ta_ 5 36 hHeld ?_;refine ta_ 11 42 hHeld ?_;refine one_ (i := 6) (N := some 37) #[true,true,true,true,true,true,true,true,true,true,true,true,false,false,false,false] rfl rfl (one_of HT_.out (by kernel_rfl)) (by decide) (fun K hK => ?_);refine goes_ Tryz.func89 (by kernel_rfl) rfl #[.string ((rd_T63 l0 x4_1).f1)] (by rfl) rfl rfl (by (try simp only [List.map_toArray, List.map_cons, List.map_nil]); first | done | rfl | (simp only [List.length_drop, List.length_take]; rfl)) ?_
            with_reducible refine (folkmootref08_point.calls ((rd_T63 l0 x4_1).f1) t843 t844 _ A17.out).mono ?_
            rintro e w21 ⟨rfl, hb⟩
            refine ⟨_, rfl, ?_⟩
            have n0_ := Aside0.mk (Kd.R_below (rR_ HO_3.out) hb)
            have n1_ := Aside0.mk (below_step bB_ hb)
            clear HO_3 HB;have HO_3 := n0_;have HB := n1_;clear n0_ n1_;(try clear hb);(try clear hb2);(try clear hk);(try clear hi);refine hK.out _ _ ⟨((HB.out.cell (World.block_lt_of_cell? w _ hw842_0)).trans hw842_0), ((HB.out.cell (World.block_lt_of_cell? w _ hw842_1)).trans hw842_1), ((HB.out.cell (World.block_lt_of_cell? w _ hw842_2)).trans hw842_2), ((HB.out.cell (World.block_lt_of_cell? w _ hw842_3)).trans hw842_3), ((HB.out.cell (World.block_lt_of_cell? w _ hw845_0)).trans hw845_0), ((HB.out.cell (World.block_lt_of_cell? w _ hw845_1)).trans hw845_1), ((HB.out.cell (World.block_lt_of_cell? w _ hw845_2)).trans hw845_2), ((HB.out.cell (World.block_lt_of_cell? w _ hw845_3)).trans hw845_3)⟩ (fun hHeld => ?_);clear hK K;refine norm_ (a' := ?_) ?_ ?_;rotate_left
            ·show Act.put _ (some 37) _ = _
             simp only [Act.put, List.setIfInBounds_toArray, List.set_cons_zero, List.set_cons_succ, i64_w, i32_w];rfl
            refine one_ (i := 12) (N := some 43) #[true,true,true,true,true,true,true,true,true,true,true,true,true,false,false,false] rfl rfl (one_of HT_.out (by kernel_rfl)) (by decide) (fun K hK => ?_);refine goes_ Tryz.func89 (by kernel_rfl) rfl #[.string ((rd_T63 l0 x4_1).f2)] (by rfl) rfl rfl (by (try simp only [List.map_toArray, List.map_cons, List.map_nil]); first | done | rfl | (simp only [List.length_drop, List.length_take]; rfl)) ?_
            with_reducible refine (folkmootref08_point.calls ((rd_T63 l0 x4_1).f2) t846 t847 _ A18.out).mono ?_
            rintro e w22 ⟨rfl, hb⟩
            refine ⟨_, rfl, ?_⟩
            have n0_ := Aside0.mk (Kd.R_below (rR_ HO_3.out) hb)
            have n1_ := Aside0.mk (below_step bB_ hb)
            clear HO_3 HB;have HO_3 := n0_;have HB := n1_;clear n0_ n1_;(try clear hb);(try clear hb2);(try clear hk);(try clear hi);refine hK.out _ _ ⟨((HB.out.cell (World.block_lt_of_cell? w _ hw842_0)).trans hw842_0), ((HB.out.cell (World.block_lt_of_cell? w _ hw842_1)).trans hw842_1), ((HB.out.cell (World.block_lt_of_cell? w _ hw842_2)).trans hw842_2), ((HB.out.cell (World.block_lt_of_cell? w _ hw842_3)).trans hw842_3), ((HB.out.cell (World.block_lt_of_cell? w _ hw845_0)).trans hw845_0), ((HB.out.cell (World.block_lt_of_cell? w _ hw845_1)).trans hw845_1), ((HB.out.cell (World.block_lt_of_cell? w _ hw845_2)).trans hw845_2), ((HB.out.cell (World.block_lt_of_cell? w _ hw845_3)).trans hw845_3)⟩ (fun hHeld => ?_);clear hK K;refine norm_ (a' := ?_) ?_ ?_;rotate_left
            ·show Act.put _ (some 43) _ = _
             simp only [Act.put, List.setIfInBounds_toArray, List.set_cons_zero, List.set_cons_succ, i64_w, i32_w];rfl
            refine one_ (i := 13) (N := some 44) #[true,true,true,true,true,true,true,true,true,true,true,true,true,true,false,false] rfl rfl (one_of HT_.out (by kernel_rfl)) (by decide) (fun K hK => ?_);refine Kd.R_lit_step k71 _ 71 ?hg (N := 44) ?hd (xs := ([(⟨t843, t844⟩ : S71), (⟨t846, t847⟩ : S71)] : List (S71))) (inner := [.string t843, .string t844, .string t846, .string t847]) (ok := fun _ => True) (okp := fun _ => True) ?hr ?hp (fun _ hk => hk) trivial (Below.refl _ _) (Nat.le_refl _) (by simp) ?_; (case hd => rfl); (case hg => rfl); (case hr => first | (go_simp; done) | (go_simp; rfl)); (case hp => exact (Reps.c2 (show Kd.M k71 _ _ _ (⟨t843, t844⟩ : S71) [.string t843, .string t844] from (k71_mkM _ _ _ (⟨t843, t844⟩ : S71) )) (Reps.c2 (show Kd.M k71 _ _ _ (⟨t846, t847⟩ : S71) [.string t846, .string t847] from (k71_mkM _ _ _ (⟨t846, t847⟩ : S71) )) (Reps.none _ _))));intro v849 w23 ho24 hb hg_ hnew_;clear hg_ hnew_
            (first | rw [← Ny848.out] at ho24 | (simp only [Int.reduceToNat] at ho24; rw [← Ny848.out] at ho24))
            have n0_ := Aside0.mk (Kd.R_elder' (rR_ HO_3.out) (Kd.R_base ho24) hb)
            have n1_ := Aside0.mk (Kd.R_lower (Kd.R_new' ho24 (Kd.R_lt (rR_ HO_3.out))) (below_size bB_))
            have n2_ := Aside0.mk (below_step bB_ hb)
            clear HO_3 HB;have HO_3 := n0_;have HO850 := n1_;have HB := n2_;clear n0_ n1_ n2_ hb ho24
            obtain ⟨Ao26, co26, eo26⟩ := Kd.R_slice HO850.out
            (first | subst eo26 | (injection eo26 with f1_ f2_ f3_; have f4_ := f1_.symm; have f5_ := f3_.symm; clear f1_ f2_ f3_; subst f4_; subst f5_))
            refine hK.out _ _ ⟨((HB.out.cell (World.block_lt_of_cell? w _ hw842_0)).trans hw842_0), ((HB.out.cell (World.block_lt_of_cell? w _ hw842_1)).trans hw842_1), ((HB.out.cell (World.block_lt_of_cell? w _ hw842_2)).trans hw842_2), ((HB.out.cell (World.block_lt_of_cell? w _ hw842_3)).trans hw842_3), ((HB.out.cell (World.block_lt_of_cell? w _ hw845_0)).trans hw845_0), ((HB.out.cell (World.block_lt_of_cell? w _ hw845_1)).trans hw845_1), ((HB.out.cell (World.block_lt_of_cell? w _ hw845_2)).trans hw845_2), ((HB.out.cell (World.block_lt_of_cell? w _ hw845_3)).trans hw845_3)⟩ (fun hHeld => ?_);clear hK K;refine norm_ (a' := ?_) ?_ ?_;rotate_left
            ·show Act.put _ (some 44) _ = _
             simp only [Act.put, List.setIfInBounds_toArray, List.set_cons_zero, List.set_cons_succ, i64_w, i32_w];rfl
            refine one_ (i := 14) (N := some 45) #[true,true,true,true,true,true,true,true,true,true,true,true,true,true,true,false] rfl rfl (one_of HT_.out (by kernel_rfl)) (by decide) (fun K hK => ?_);refine Kd.R_append_rows_step k71 (w0 := w) w.heap.size (by rfl) (.tmp 31) (.tmp 44) 40 71 (.agg #[(.string ⟨#[]⟩), (.string ⟨#[]⟩)]) 32 rfl Tryz.underlying40 info71 rfl (by decide) (by omega) u3 x3_1 y848 _ _ _ (fun k_ => some k_ ≠ (.slice Ao26 y848.length co26 : Value).ownBlock) (fun _ => False) rfl rfl ?aO ?aR (fun _ _ h => h) (fun _ h => h.elim) ?aF ?aB ?aS ?aL ?_
            (case aR => repeat (first | exact (Kd.R_reads' HO850.out).2.2 | (with_reducible refine Kd.C_alloc ?_ _) | (with_reducible refine Kd.C_drewN ?_ _) | (with_reducible refine Kd.C_drew ?_)))
            (case aB => exact bB_)
            (case aF => exact (fun k_ hk => Kd.fresh' (Kd.R_lt (rR_ HO850.out)) k_ hk))
            (case aO => exact (by (with_reducible repeat (first | apply Kd.R_alloc | apply Kd.R_drewN | apply Kd.R_drew)); exact Kd.R_mono HO_3.out (fun _ hk => hk.2)))
            (case aS => exact (below_size bB_))
            (case aL => have := LMc19.out; omega)
            intro v852 w25 ho hb hg hat
            rw [← Ny851.out] at ho
            have n0_ := Aside0.mk (Kd.R_after (ok := (fun _ => True)) (rR_ HO850.out) hg hat)
            have n1_ := Aside0.mk (hb)
            have n2_ := Aside0.mk (ho)
            clear HO850 HB HO_3;have HO850 := n0_;have HB := n1_;have HO853 := n2_;clear n0_ n1_ n2_ ho hb hg hat;refine hK.out _ _ ⟨((HB.out.cell (World.block_lt_of_cell? w _ hw842_0)).trans hw842_0), ((HB.out.cell (World.block_lt_of_cell? w _ hw842_1)).trans hw842_1), ((HB.out.cell (World.block_lt_of_cell? w _ hw842_2)).trans hw842_2), ((HB.out.cell (World.block_lt_of_cell? w _ hw842_3)).trans hw842_3), ((HB.out.cell (World.block_lt_of_cell? w _ hw845_0)).trans hw845_0), ((HB.out.cell (World.block_lt_of_cell? w _ hw845_1)).trans hw845_1), ((HB.out.cell (World.block_lt_of_cell? w _ hw845_2)).trans hw845_2), ((HB.out.cell (World.block_lt_of_cell? w _ hw845_3)).trans hw845_3)⟩ (fun hHeld => ?_);clear hK K;refine norm_ (a' := ?_) ?_ ?_;rotate_left
            ·show Act.put _ (some 45) _ = _
             simp only [Act.put, List.setIfInBounds_toArray, List.set_cons_zero, List.set_cons_succ, i64_w, i32_w];rfl
            refine pu_ 15 3 ?_;refine done_ (done_of HT_.out (by kernel_rfl)) ?_
            try go_wp2
            go_roundg kj3
            case measure => have := HK1.out; have := HJ3.out; omega
            case rel => exact ⟨(y851), (wrap64 (x4_1 + 1)), (by first | rfl | (rw [bl_gt] <;> rfl) | (simp; done) | (simp [*]; done)), H', ⟨by have := HK1.out; have := HJ3.out; omega⟩, ⟨by (with_reducible repeat (first | apply Kd.R_alloc | apply Kd.R_drewN | apply Kd.R_drew)); exact Kd.R_mono HO853.out (fun _ hk => trivial)⟩, ⟨bB_⟩⟩
           ·rw [if_neg c19] at H
            exact absurd H (by simp)
          ·rw [if_neg c16] at H
           exact absurd H (by simp)
         ·rw [if_neg c15] at H
          exact absurd H (by simp)
        ·rw [if_neg c14] at H
         have c14b0 : (((rd_T63 l0 x4_1).f0) == 6) = false := beq_eq_false_iff_ne.mpr c14
         have c14b1 : (((rd_T63 l0 x4_1).f0) != 6) = true := bne_iff_ne.mpr c14
         by_cases c27 : ((rd_T63 l0 x4_1).f0) = 2
         ·rw [if_pos c27] at H
          have c27b0 : (((rd_T63 l0 x4_1).f0) == 2) = true := beq_iff_eq.mpr c27
          have c27b1 : (((rd_T63 l0 x4_1).f0) != 2) = false := bne_eq_false_iff_eq.mpr c27
          clear c27
          by_cases c28 : 0 ≤ x4_1
          ·rw [if_pos c28] at H
           have c28b0 : decide (0 ≤ x4_1) = true := decide_eq_true c28
           clear c28
           by_cases c29 : x4_1 < (l0.length : Int)
           ·rw [if_pos c29] at H
            have c29b0 : decide (x4_1 < (l0.length : Int)) = true := decide_eq_true c29
            clear c29
            by_cases c30 : x3_1.length < 4398046511104
            ·rw [if_pos c30] at H
             have LMc30 := Aside0.mk c30
             clear c30
             obtain ⟨y856, hy856⟩ : ∃ y_ : List (S71), y_ = (x3_1 ++ [(⟨(rd_T63 l0 x4_1).f1, (rd_T63 l0 x4_1).f2⟩ : S71)]) := ⟨_, rfl⟩
             replace H : (folkmootref08_Reads.l0 kj3 l0 y856 (wrap64 (x4_1 + 1))) = some r := by first | (rw [hy856]; with_reducible exact H) | (have H2_ := (Option.bind_some _ _).symm.trans H; rw [hy856]; with_reducible exact H2_) | (have H2_ := (Option.bind_some _ _).symm.trans H; with_reducible exact H2_) | with_reducible exact H | (rw [hy856]; exact H) | exact H
             have Ny856 := Aside0.mk hy856
             clear hy856
             have H' := Aside0.mk H
             clear H
             try go_wp2
             have n0_ := Aside0.mk (Kd.R_drew HO_3.out)
             have n1_ := Aside0.mk (below_drew1 HB.out)
             clear HO_3 HB;have HO_3 := n0_;have HB := n1_;clear n0_ n1_
             have p854 : 0 ≤ (x4_1 : Int) := of_decide_eq_true (by first | (with_reducible assumption) | assumption)
             have q854 : x4_1 < (l0.length : Int) := of_decide_eq_true (by first | (with_reducible assumption) | assumption)
             obtain ⟨ad854, e854, hx854_0, hx854_1, hx854_2, hx854_3⟩ := at_T63 HR0.out x4_1 p854 q854
             have hw854_3 := hx854_3;have hw854_2 := hx854_2;have hw854_1 := hx854_1;have hw854_0 := hx854_0
             obtain rfl : ad835 = ad854 := (by injection e854)
             replace hx854_0 := (HB.out.cell (World.block_lt_of_cell? w _ hx854_0)).trans hx854_0
             replace hx854_1 := (HB.out.cell (World.block_lt_of_cell? w _ hx854_1)).trans hx854_1
             replace hx854_2 := (HB.out.cell (World.block_lt_of_cell? w _ hx854_2)).trans hx854_2
             replace hx854_3 := (HB.out.cell (World.block_lt_of_cell? w _ hx854_3)).trans hx854_3
             replace p854 := eq_true p854
             replace q854 := eq_true q854
             have p855 : 0 ≤ (x4_1 : Int) := of_decide_eq_true (by first | (with_reducible assumption) | assumption)
             have q855 : x4_1 < (l0.length : Int) := of_decide_eq_true (by first | (with_reducible assumption) | assumption)
             obtain ⟨ad855, e855, hx855_0, hx855_1, hx855_2, hx855_3⟩ := at_T63 HR0.out x4_1 p855 q855
             have hw855_3 := hx855_3;have hw855_2 := hx855_2;have hw855_1 := hx855_1;have hw855_0 := hx855_0
             obtain rfl : ad835 = ad855 := (by injection e855)
             replace hx855_0 := (HB.out.cell (World.block_lt_of_cell? w _ hx855_0)).trans hx855_0
             replace hx855_1 := (HB.out.cell (World.block_lt_of_cell? w _ hx855_1)).trans hx855_1
             replace hx855_2 := (HB.out.cell (World.block_lt_of_cell? w _ hx855_2)).trans hx855_2
             replace hx855_3 := (HB.out.cell (World.block_lt_of_cell? w _ hx855_3)).trans hx855_3
             replace p855 := eq_true p855
             replace q855 := eq_true q855
             refine start_ (n := 15) (S := fun w' => w'.cell? (ad835.add ((x4_1).toNat * 4)) = some (.int .i64 ((rd_T63 l0 x4_1).f0)) ∧ w'.cell? ⟨(ad835.add ((x4_1).toNat * 4)).block, (ad835.add ((x4_1).toNat * 4)).off + 1, none⟩ = some (.string ((rd_T63 l0 x4_1).f1)) ∧ w'.cell? ⟨(ad835.add ((x4_1).toNat * 4)).block, (ad835.add ((x4_1).toNat * 4)).off + 2, none⟩ = some (.string ((rd_T63 l0 x4_1).f2)) ∧ w'.cell? ⟨(ad835.add ((x4_1).toNat * 4)).block, (ad835.add ((x4_1).toNat * 4)).off + 3, none⟩ = some (.int .u64 ((rd_T63 l0 x4_1).f3)) ∧ w'.cell? (ad835.add ((x4_1).toNat * 4)) = some (.int .i64 ((rd_T63 l0 x4_1).f0)) ∧ w'.cell? ⟨(ad835.add ((x4_1).toNat * 4)).block, (ad835.add ((x4_1).toNat * 4)).off + 1, none⟩ = some (.string ((rd_T63 l0 x4_1).f1)) ∧ w'.cell? ⟨(ad835.add ((x4_1).toNat * 4)).block, (ad835.add ((x4_1).toNat * 4)).off + 2, none⟩ = some (.string ((rd_T63 l0 x4_1).f2)) ∧ w'.cell? ⟨(ad835.add ((x4_1).toNat * 4)).block, (ad835.add ((x4_1).toNat * 4)).off + 3, none⟩ = some (.int .u64 ((rd_T63 l0 x4_1).f3))) (ds := []) #[false,false,false,false,false,false,false,false,false,false,false,false,false,false,false] (by kernel_rfl) rfl rfl ⟨((HB.out.cell (World.block_lt_of_cell? w _ hw854_0)).trans hw854_0), ((HB.out.cell (World.block_lt_of_cell? w _ hw854_1)).trans hw854_1), ((HB.out.cell (World.block_lt_of_cell? w _ hw854_2)).trans hw854_2), ((HB.out.cell (World.block_lt_of_cell? w _ hw854_3)).trans hw854_3), ((HB.out.cell (World.block_lt_of_cell? w _ hw855_0)).trans hw855_0), ((HB.out.cell (World.block_lt_of_cell? w _ hw855_1)).trans hw855_1), ((HB.out.cell (World.block_lt_of_cell? w _ hw855_2)).trans hw855_2), ((HB.out.cell (World.block_lt_of_cell? w _ hw855_3)).trans hw855_3)⟩ (fun hHeld => ?_); refine with_tabW folkmootref08_Reads.tab13 folkmootref08_Reads.bits13 (fun HT_ HW_ => ?_)
             generalize wc.drew = w31 at HO_3 HB hx854_0 hx854_1 hx854_2 hx854_3 hx855_0 hx855_1 hx855_2 hx855_3 hHeld ⊢
             refine pu_ 0 48 ?_;refine pu_ 1 49 ?_;refine pu_ 2 50 ?_;refine pu_ 3 51 ?_;refine pu_ 4 52 ?_;refine pu_ 6 54 ?_;refine pu_ 7 55 ?_;refine pu_ 8 56 ?_;refine pu_ 9 57 ?_;refine ta_ 5 53 hHeld ?_;refine ta_ 10 58 hHeld ?_;refine pu_ 11 59 ?_;refine one_ (i := 12) (N := some 60) #[true,true,true,true,true,true,true,true,true,true,true,true,true,false,false] rfl rfl (one_of HT_.out (by kernel_rfl)) (by decide) (fun K hK => ?_);refine value_ (w1 := ?_) (v := ?_) (by rfl) rfl ?_ ?_;rotate_left 2
             ·go_simp;constructor
              ·rfl
              ·rfl
             refine hK.out _ _ ⟨(World.cell?_alloc_lt _ _ _ (World.block_lt_of_cell? _ _ (((HB.out.cell (World.block_lt_of_cell? w _ hw854_0)).trans hw854_0)))).trans (((HB.out.cell (World.block_lt_of_cell? w _ hw854_0)).trans hw854_0)), (World.cell?_alloc_lt _ _ _ (World.block_lt_of_cell? _ _ (((HB.out.cell (World.block_lt_of_cell? w _ hw854_1)).trans hw854_1)))).trans (((HB.out.cell (World.block_lt_of_cell? w _ hw854_1)).trans hw854_1)), (World.cell?_alloc_lt _ _ _ (World.block_lt_of_cell? _ _ (((HB.out.cell (World.block_lt_of_cell? w _ hw854_2)).trans hw854_2)))).trans (((HB.out.cell (World.block_lt_of_cell? w _ hw854_2)).trans hw854_2)), (World.cell?_alloc_lt _ _ _ (World.block_lt_of_cell? _ _ (((HB.out.cell (World.block_lt_of_cell? w _ hw854_3)).trans hw854_3)))).trans (((HB.out.cell (World.block_lt_of_cell? w _ hw854_3)).trans hw854_3)), (World.cell?_alloc_lt _ _ _ (World.block_lt_of_cell? _ _ (((HB.out.cell (World.block_lt_of_cell? w _ hw855_0)).trans hw855_0)))).trans (((HB.out.cell (World.block_lt_of_cell? w _ hw855_0)).trans hw855_0)), (World.cell?_alloc_lt _ _ _ (World.block_lt_of_cell? _ _ (((HB.out.cell (World.block_lt_of_cell? w _ hw855_1)).trans hw855_1)))).trans (((HB.out.cell (World.block_lt_of_cell? w _ hw855_1)).trans hw855_1)), (World.cell?_alloc_lt _ _ _ (World.block_lt_of_cell? _ _ (((HB.out.cell (World.block_lt_of_cell? w _ hw855_2)).trans hw855_2)))).trans (((HB.out.cell (World.block_lt_of_cell? w _ hw855_2)).trans hw855_2)), (World.cell?_alloc_lt _ _ _ (World.block_lt_of_cell? _ _ (((HB.out.cell (World.block_lt_of_cell? w _ hw855_3)).trans hw855_3)))).trans (((HB.out.cell (World.block_lt_of_cell? w _ hw855_3)).trans hw855_3))⟩ (fun hHeld => ?_);clear hK K;refine norm_ (a' := ?_) ?_ ?_;rotate_left
             ·show Act.put _ (some 60) _ = _
              simp only [Act.put, List.setIfInBounds_toArray, List.set_cons_zero, List.set_cons_succ, i64_w, i32_w];rfl
             refine one_ (i := 13) (N := some 61) #[true,true,true,true,true,true,true,true,true,true,true,true,true,true,false] rfl rfl (one_of HT_.out (by kernel_rfl)) (by decide) (fun K hK => ?_);refine Kd.R_append_step k71 (w0 := w) w.heap.size (by rfl) (.tmp 48) (.tmp 60) 40 71 (.agg #[(.string ⟨#[]⟩), (.string ⟨#[]⟩)]) 32 rfl Tryz.underlying40 info71 rfl (by decide) (by omega) u3 x3_1 (⟨(rd_T63 l0 x4_1).f1, (rd_T63 l0 x4_1).f2⟩ : S71) [.string ((rd_T63 l0 x4_1).f1), .string ((rd_T63 l0 x4_1).f2)] (fun _ => True) (fun _ => False) rfl rfl ?aP (fun _ hk => hk.elim) ?aF ?aO ?aB ?aS ?aL ?_
             (case aP => exact k71_mkM _ _ _ (⟨(rd_T63 l0 x4_1).f1, (rd_T63 l0 x4_1).f2⟩ : S71))
             (case aB => exact bB_)
             (case aF => exact (fun _ _ => trivial))
             (case aO => exact (rR_ HO_3.out))
             (case aS => exact (below_size bB_))
             (case aL => have := LMc30.out; omega)
             intro v857 w32 ho hb hg hat
             rw [← Ny856.out] at ho
             have n0_ := Aside0.mk (hb)
             have n1_ := Aside0.mk (ho)
             clear HB HO_3;have HB := n0_;have HO858 := n1_;clear n0_ n1_ ho hb hg hat;refine hK.out _ _ ⟨((HB.out.cell (World.block_lt_of_cell? w _ hw854_0)).trans hw854_0), ((HB.out.cell (World.block_lt_of_cell? w _ hw854_1)).trans hw854_1), ((HB.out.cell (World.block_lt_of_cell? w _ hw854_2)).trans hw854_2), ((HB.out.cell (World.block_lt_of_cell? w _ hw854_3)).trans hw854_3), ((HB.out.cell (World.block_lt_of_cell? w _ hw855_0)).trans hw855_0), ((HB.out.cell (World.block_lt_of_cell? w _ hw855_1)).trans hw855_1), ((HB.out.cell (World.block_lt_of_cell? w _ hw855_2)).trans hw855_2), ((HB.out.cell (World.block_lt_of_cell? w _ hw855_3)).trans hw855_3)⟩ (fun hHeld => ?_);clear hK K;refine norm_ (a' := ?_) ?_ ?_;rotate_left
             ·show Act.put _ (some 61) _ = _
              simp only [Act.put, List.setIfInBounds_toArray, List.set_cons_zero, List.set_cons_succ, i64_w, i32_w];rfl
             refine pu_ 14 3 ?_;refine done_ (done_of HT_.out (by kernel_rfl)) ?_
             try go_wp2
             go_roundg kj3
             case measure => have := HK1.out; have := HJ3.out; omega
             case rel => exact ⟨(y856), (wrap64 (x4_1 + 1)), (by first | rfl | (rw [bl_gt] <;> rfl) | (simp; done) | (simp [*]; done)), H', ⟨by have := HK1.out; have := HJ3.out; omega⟩, ⟨rR_ HO858.out⟩, ⟨bB_⟩⟩
            ·rw [if_neg c30] at H
             exact absurd H (by simp)
           ·rw [if_neg c29] at H
            exact absurd H (by simp)
          ·rw [if_neg c28] at H
           exact absurd H (by simp)
         ·rw [if_neg c27] at H
          have c27b0 : (((rd_T63 l0 x4_1).f0) == 2) = false := beq_eq_false_iff_ne.mpr c27
          have c27b1 : (((rd_T63 l0 x4_1).f0) != 2) = true := bne_iff_ne.mpr c27
          have H' := Aside0.mk H
          clear H
          go_wp2
          go_roundg kj3
          case measure => have := HK1.out; have := HJ3.out; omega
          case rel => exact ⟨(x3_1), (wrap64 (x4_1 + 1)), (by first | rfl | (rw [bl_gt] <;> rfl) | (simp; done) | (simp [*]; done)), H', ⟨by have := HK1.out; have := HJ3.out; omega⟩, ⟨rR_ HO_3.out⟩, ⟨bB_⟩⟩
    ·rw [if_neg c3] at H
     exact absurd H (by simp)
   ·rw [if_neg c2] at H
    have c2b0 : decide (x4_1 < (l0.length : Int)) = false := decide_eq_false c2
    clear c2
    replace H := Option.bind_eq_some_iff.mp H
    obtain ⟨t832, A330, H⟩ := H
    replace H : (some t832) = some r := H
    have A33 := Aside0.mk A330
    clear A330;obtain rfl := Option.some.inj H
    obtain ⟨Ao34, co34, eo34⟩ := Kd.R_slice HO_3.out
    subst eo34
    go_wp2_with (first | ((with_reducible refine gate_callee (f := 25) rfl ?_); refine goesL_ (some 63) rfl rfl Tryz.func25 (by kernel_rfl) rfl #[.slice Ao34 x3_1.length co34] rfl (by (try simp only [List.map_toArray, List.map_cons, List.map_nil]); first | done | rfl | (simp only [List.length_drop, List.length_take]; rfl)) ?_; (with_reducible refine (folkmootref03_Union.calls k1 _ _ x3_1 t832 _ ?side1 ?side2 A33.out).mono ?_); (case side1 => repeat (first | exact (Kd.R_reads' HO_3.out).2.2 | (with_reducible refine Kd.C_alloc ?_ _) | (with_reducible refine Kd.C_drewN ?_ _) | (with_reducible refine Kd.C_drew ?_))); (case side2 => exact (Kd.R_reads' HO_3.out).2.1); rintro e w35 ⟨v833, rfl, ho0, hb⟩; refine ⟨_, rfl, ?_⟩; have n0_ := Aside0.mk (Kd.R_elder' (rR_ HO_3.out) (Kd.R_base ho0) hb); have n1_ := Aside0.mk (Kd.R_lower (Kd.R_new' ho0 (Kd.R_lt (rR_ HO_3.out))) (below_size bB_)); have n2_ := Aside0.mk (below_step bB_ hb); clear HO_3; clear HB; have HO_3 := n0_; have HO834 := n1_; have HB := n2_; clear n0_ n1_ n2_; (try clear hb); (try clear hb2); (try clear hk); (try clear hi); (try clear ho0)))
    go_ret
    exact ⟨_, by first | rfl | (rw [bl_gt] <;> rfl) | (simp [errW_none, errW_some] <;> rfl) | (simp [*, errW_none, errW_some] <;> rfl), by (with_reducible repeat (first | apply Kd.R_alloc | apply Kd.R_drewN | apply Kd.R_drew)); exact Kd.R_mono HO834.out (fun _ hk => trivial), bB_⟩
end Go.Proofs.YtgmlenpcchhmbaaGreat.P
end
section
set_option linter.unusedVariables false
set_option linter.unusedSimpArgs false
namespace Go.Proofs.YtgmlenpcchhmbaaGreat.P
open Go.RowKit Go.Proofs.YtgmlenpcchhmbaaGreatW.PrintWords Go.Proofs.YtgmlenpcchhmbaaGreatW.PrintLast Go.Proofs.YtgmlenpcchhmbaaGreatW.PrintMore
attribute [local go_sem] max2_int min2_int max_two min_two max_three min_three max_four min_four   -- for this text's walks alone
mutual
def folkmootref08_Writes.l0 : Nat → List (S63) → List (S71) → Int → Option ((List (S71)))
 | 0, _, _, _ => none
 | k + 1, x0, x3, x4 => if x4 < (x0.length : Int) then (if 0 ≤ x4 then (if ((rd_T63 x0 x4).f0) = 3 then (folkmootref08_Writes.j1 k x0 x3 x4 ((rd_T63 x0 x4).f0) (((rd_T63 x0 x4).f0) == 3)) else (if ((rd_T63 x0 x4).f0) = 4 then (folkmootref08_Writes.j1 k x0 x3 x4 ((rd_T63 x0 x4).f0) (((rd_T63 x0 x4).f0) == 4)) else (folkmootref08_Writes.j1 k x0 x3 x4 ((rd_T63 x0 x4).f0) (((rd_T63 x0 x4).f0) == 5)))) else (none)) else ((folkmootref03_Union.f k x3).bind fun t859 => (some t859))
def folkmootref08_Writes.j1 : Nat → List (S63) → List (S71) → Int → Int → Bool → Option ((List (S71)))
 | 0, _, _, _, _, _ => none
 | k + 1, x0, x3, x4, x15, x16 => if x16 = true then (if 0 ≤ x4 then (if x4 < (x0.length : Int) then ((folkmootref08_point.f ((rd_T63 x0 x4).f1)).bind fun bt864 => (if x3.length < 4398046511104 then (folkmootref08_Writes.l0 k x0 (x3 ++ [(⟨bt864.1, bt864.2⟩ : S71)]) (wrap64 (x4 + 1))) else (none))) else (none)) else (none)) else (if x15 = 6 then (if 0 ≤ x4 then (if x4 < (x0.length : Int) then ((folkmootref08_point.f ((rd_T63 x0 x4).f1)).bind fun bt870 => ((folkmootref08_point.f ((rd_T63 x0 x4).f2)).bind fun bt873 => ((some (([(⟨bt870.1, bt870.2⟩ : S71), (⟨bt873.1, bt873.2⟩ : S71)] : List (S71)) : List (S71))).bind fun y875 => (if x3.length + y875.length < 4398046511104 then (folkmootref08_Writes.l0 k x0 (x3 ++ y875) (wrap64 (x4 + 1))) else (none))))) else (none)) else (none)) else (folkmootref08_Writes.l0 k x0 x3 (wrap64 (x4 + 1))))
end
def folkmootref08_Writes.f (k : Nat) (l0 : List (S63)) : Option ((List (S71))) := folkmootref08_Writes.l0 k l0 ([] : List (S71)) 0
def folkmootref08_Writes.T11 : Bool × List (List Nat × List Nat) := (true, [([], []), ([], []), ([], []), ([1, 2], [1, 2]), ([3], [3]), ([4], [4]), ([5], [5]), ([], []), ([], []), ([7, 8], [7, 8]), ([9], [9]), ([10], [10]), ([11, 6], [11]), ([6, 12], [6, 12]), ([0, 13, 12], [0, 13]), ([14, 14, 0, 1, 2, 3, 4, 5, 6, 7, 8, 9, 10, 11, 12, 13, 14], [0, 14])])
def folkmootref08_Writes.B11 : List Nat := [0, 0, 0, 6, 14, 30, 62, 0, 0, 384, 896, 1920, 4094, 8190, 16383, 32767]
theorem folkmootref08_Writes.tab11 : rtab .any (opsOf Tryz.f44 11) = folkmootref08_Writes.T11 := by kernel_rfl
theorem folkmootref08_Writes.bits11 : waitsOk folkmootref08_Writes.T11.2 folkmootref08_Writes.B11 = true := by kernel_rfl
set_option maxHeartbeats 8000000 in
set_option maxRecDepth 100000 in
theorem folkmootref08_Writes.calls (k : Nat) (A0 : Option Addr) (c0 : Nat) (l0 : List (S63)) (r : List (S71)) (w : World) (hr0 : Kd.C k63 w A0 l0.length l0) (hc0 : l0.length ≤ c0) (h : folkmootref08_Writes.f k l0 = some r) :
  Calls Tryz.prog 44 #[.slice A0 l0.length c0] w fun e w' => ∃ v0_ : Value, e = .returned (v0_) ∧ Kd.R k71 71 w' w.heap.size (fun _ => True) v0_ r ∧ Below w.heap.size w w' := by
 have HR0 := Aside0.mk hr0
 have HC0 := Aside0.mk hc0
 clear hr0 hc0
 have HB := Aside0.mk (Below.refl w.heap.size w)
 have H : (folkmootref08_Writes.l0 k l0 ([] : List (S71)) 0) = some r := h
 clear h
 have H' := Aside0.mk H
 clear H
 go_enter Tryz.func44, Tryz.ntmps44
 go_wp2
 go_loopg [3, 4] k (fun kq v3 v4 w' => ∃ (x3_1 : List (S71)) (x4_1 : Int), v4 = .int .i64 x4_1 ∧ Aside0 (folkmootref08_Writes.l0 kq l0 x3_1 x4_1 = some r) ∧ Aside0 (kq ≤ k) ∧ Aside0 (Kd.R k71 71 w' w.heap.size (fun _ => True) v3 x3_1) ∧ Aside0 (Below w.heap.size w w'))
 case atStart => exact ⟨(([] : List (S71))), (0), (by first | rfl | (rw [bl_gt] <;> rfl) | (simp; done) | (simp [*]; done)), H', ⟨Nat.le_refl _⟩, ⟨by first | exact Kd.R_nil _ _ _ _ _ | exact Kd.N_nil _ _ _ _ _ | exact Kd.V_nil _ _ _ _ _ | exact Kd.Q_nil _ _ _ _ _ | exact Kd.S_nil _ _ _ _ _⟩, ⟨bB_⟩⟩
 case round =>
  clear H'
  obtain ⟨x3_1, x4_1, rfl, HA, HK1, HO_3, HB⟩ := hrel
  cases gk with
  | zero => exact absurd HA.out (by simp [folkmootref08_Writes.l0])
  | succ k1 =>
   have H := HA.out;clear HA
   simp only [folkmootref08_Writes.l0] at H
   by_cases c2 : x4_1 < (l0.length : Int)
   ·rw [if_pos c2] at H
    have c2b0 : decide (x4_1 < (l0.length : Int)) = true := decide_eq_true c2
    clear c2
    by_cases c3 : 0 ≤ x4_1
    ·rw [if_pos c3] at H
     have c3b0 : decide (0 ≤ x4_1) = true := decide_eq_true c3
     clear c3
     have HC4 := Aside0.mk H
     clear H
     have p862 : 0 ≤ (x4_1 : Int) := of_decide_eq_true (by first | (with_reducible assumption) | assumption)
     have q862 : x4_1 < (l0.length : Int) := of_decide_eq_true (by first | (with_reducible assumption) | assumption)
     obtain ⟨ad862, e862, hx862_0, hx862_1, hx862_2, hx862_3⟩ := at_T63 HR0.out x4_1 p862 q862
     cases e862
     replace hx862_0 := (HB.out.cell (World.block_lt_of_cell? w _ hx862_0)).trans hx862_0
     replace hx862_1 := (HB.out.cell (World.block_lt_of_cell? w _ hx862_1)).trans hx862_1
     replace hx862_2 := (HB.out.cell (World.block_lt_of_cell? w _ hx862_2)).trans hx862_2
     replace hx862_3 := (HB.out.cell (World.block_lt_of_cell? w _ hx862_3)).trans hx862_3
     replace p862 := eq_true p862
     replace q862 := eq_true q862
     go_upto_if 16 with (fail)
     go_cut [16] (fun v16 wc => ∃ (kq : Nat) (x16_3 : Bool), v16 = .bool x16_3 ∧ Aside0 (folkmootref08_Writes.j1 kq l0 x3_1 x4_1 ((rd_T63 l0 x4_1).f0) x16_3 = some r) ∧ Aside0 (kq ≤ k1) ∧ Aside0 (Kd.R k71 71 wc w.heap.size (fun _ => True) u3 x3_1) ∧ Aside0 (Below w.heap.size w wc))
     case first =>
      have H := HC4.out;clear HC4
      by_cases c5 : ((rd_T63 l0 x4_1).f0) = 3
      ·rw [if_pos c5] at H
       have c5b0 : (((rd_T63 l0 x4_1).f0) == 3) = true := beq_iff_eq.mpr c5
       have c5b1 : (((rd_T63 l0 x4_1).f0) != 3) = false := bne_eq_false_iff_eq.mpr c5
       clear c5
       (first | rw [c5b0] | (simp only [i64_w, i32_w]; rw [c5b0]) | skip)
       have H' := Aside0.mk H
       clear H
       go_wp2
       first
       | (go_meet; case rel => exact ⟨_, ((((rd_T63 l0 x4_1).f0) == 3)), (by first | rfl | (rw [bl_gt] <;> rfl) | (simp; done) | (simp [*]; done)), H', ⟨by have := HK1.out; first | omega | exact Nat.le_refl _⟩, ⟨rR_ HO_3.out⟩, ⟨bB_⟩⟩)
       | (refine Met.intro ?_; go_step; (repeat apply Exists.intro); refine ⟨?_, ?_⟩; rotate_left; (focus (simp only [c5b0]; try rfl)); exact ⟨_, ((((rd_T63 l0 x4_1).f0) == 3)), (by first | rfl | (rw [bl_gt] <;> rfl) | (simp; done) | (simp [*]; done)), H', ⟨by have := HK1.out; first | omega | exact Nat.le_refl _⟩, ⟨rR_ HO_3.out⟩, ⟨bB_⟩⟩)
      ·rw [if_neg c5] at H
       have c5b0 : (((rd_T63 l0 x4_1).f0) == 3) = false := beq_eq_false_iff_ne.mpr c5
       have c5b1 : (((rd_T63 l0 x4_1).f0) != 3) = true := bne_iff_ne.mpr c5
       (first | rw [c5b0] | (simp only [i64_w, i32_w]; rw [c5b0]) | skip)
       by_cases c6 : ((rd_T63 l0 x4_1).f0) = 4
       ·rw [if_pos c6] at H
        have c6b0 : (((rd_T63 l0 x4_1).f0) == 4) = true := beq_iff_eq.mpr c6
        have c6b1 : (((rd_T63 l0 x4_1).f0) != 4) = false := bne_eq_false_iff_eq.mpr c6
        clear c6
        have H' := Aside0.mk H
        clear H
        go_wp2
        first
        | (go_meet; case rel => exact ⟨_, ((((rd_T63 l0 x4_1).f0) == 4)), (by first | rfl | (rw [bl_gt] <;> rfl) | (simp; done) | (simp [*]; done)), H', ⟨by have := HK1.out; first | omega | exact Nat.le_refl _⟩, ⟨rR_ HO_3.out⟩, ⟨bB_⟩⟩)
        | (refine Met.intro ?_; go_step; (repeat apply Exists.intro); refine ⟨?_, ?_⟩; rotate_left; (focus (simp only [c5b0, c6b0]; try rfl)); exact ⟨_, ((((rd_T63 l0 x4_1).f0) == 4)), (by first | rfl | (rw [bl_gt] <;> rfl) | (simp; done) | (simp [*]; done)), H', ⟨by have := HK1.out; first | omega | exact Nat.le_refl _⟩, ⟨rR_ HO_3.out⟩, ⟨bB_⟩⟩)
       ·rw [if_neg c6] at H
        have c6b0 : (((rd_T63 l0 x4_1).f0) == 4) = false := beq_eq_false_iff_ne.mpr c6
        have c6b1 : (((rd_T63 l0 x4_1).f0) != 4) = true := bne_iff_ne.mpr c6
        have H' := Aside0.mk H
        clear H
        go_wp2
        first
        | (go_meet; case rel => exact ⟨_, ((((rd_T63 l0 x4_1).f0) == 5)), (by first | rfl | (rw [bl_gt] <;> rfl) | (simp; done) | (simp [*]; done)), H', ⟨by have := HK1.out; first | omega | exact Nat.le_refl _⟩, ⟨rR_ HO_3.out⟩, ⟨bB_⟩⟩)
        | (refine Met.intro ?_; go_step; (repeat apply Exists.intro); refine ⟨?_, ?_⟩; rotate_left; (focus (simp only [c5b0, c6b0]; try rfl)); exact ⟨_, ((((rd_T63 l0 x4_1).f0) == 5)), (by first | rfl | (rw [bl_gt] <;> rfl) | (simp; done) | (simp [*]; done)), H', ⟨by have := HK1.out; first | omega | exact Nat.le_refl _⟩, ⟨rR_ HO_3.out⟩, ⟨bB_⟩⟩)
     case rest =>
      clear HC4
      try clear c2
      try clear c2b0
      try clear p2
      try clear c3
      try clear c3b0
      try clear c4
      try clear c5
      try clear c5b0
      try clear c5b1
      try clear c6
      try clear c6b0
      try clear c6b1
      try clear hx862_0
      try clear hx862_1
      try clear hx862_2
      try clear hx862_3
      try clear p862
      try clear q862
      obtain ⟨kq, x16_3, rfl, HA, HJ3, HO_3, HB⟩ := hcut
      cases kq with
      | zero => exact absurd HA.out (by simp [folkmootref08_Writes.j1])
      | succ kj3 =>
       have H := HA.out;clear HA
       simp only [folkmootref08_Writes.j1] at H
       by_cases c7 : x16_3 = true
       ·subst c7
        have H1 : (if 0 ≤ x4_1 then (if x4_1 < (l0.length : Int) then ((folkmootref08_point.f ((rd_T63 l0 x4_1).f1)).bind fun bt864 => (if x3_1.length < 4398046511104 then (folkmootref08_Writes.l0 kj3 l0 (x3_1 ++ [(⟨bt864.1, bt864.2⟩ : S71)]) (wrap64 (x4_1 + 1))) else (none))) else (none)) else (none)) = some r := by rw [if_pos rfl] at H; exact H
        clear H;have H := H1;clear H1
        by_cases c8 : 0 ≤ x4_1
        ·rw [if_pos c8] at H
         have c8b0 : decide (0 ≤ x4_1) = true := decide_eq_true c8
         clear c8
         by_cases c9 : x4_1 < (l0.length : Int)
         ·rw [if_pos c9] at H
          have c9b0 : decide (x4_1 < (l0.length : Int)) = true := decide_eq_true c9
          clear c9
          replace H := Option.bind_eq_some_iff.mp H
          obtain ⟨⟨t864, t865⟩, A100, H⟩ := H
          replace H : (if x3_1.length < 4398046511104 then (folkmootref08_Writes.l0 kj3 l0 (x3_1 ++ [(⟨t864, t865⟩ : S71)]) (wrap64 (x4_1 + 1))) else (none)) = some r := H
          have A10 := Aside0.mk A100
          clear A100
          by_cases c11 : x3_1.length < 4398046511104
          ·rw [if_pos c11] at H
           have LMc11 := Aside0.mk c11
           clear c11
           obtain ⟨y866, hy866⟩ : ∃ y_ : List (S71), y_ = (x3_1 ++ [(⟨t864, t865⟩ : S71)]) := ⟨_, rfl⟩
           replace H : (folkmootref08_Writes.l0 kj3 l0 y866 (wrap64 (x4_1 + 1))) = some r := by first | (rw [hy866]; with_reducible exact H) | (have H2_ := (Option.bind_some _ _).symm.trans H; rw [hy866]; with_reducible exact H2_) | (have H2_ := (Option.bind_some _ _).symm.trans H; with_reducible exact H2_) | with_reducible exact H | (rw [hy866]; exact H) | exact H
           have Ny866 := Aside0.mk hy866
           clear hy866
           have H' := Aside0.mk H
           clear H
           have p863 : 0 ≤ (x4_1 : Int) := of_decide_eq_true (by first | (with_reducible assumption) | assumption)
           have q863 : x4_1 < (l0.length : Int) := of_decide_eq_true (by first | (with_reducible assumption) | assumption)
           obtain ⟨ad863, e863, hx863_0, hx863_1, hx863_2, hx863_3⟩ := at_T63 HR0.out x4_1 p863 q863
           obtain rfl : ad862 = ad863 := (by injection e863)
           replace hx863_0 := (HB.out.cell (World.block_lt_of_cell? w _ hx863_0)).trans hx863_0
           replace hx863_1 := (HB.out.cell (World.block_lt_of_cell? w _ hx863_1)).trans hx863_1
           replace hx863_2 := (HB.out.cell (World.block_lt_of_cell? w _ hx863_2)).trans hx863_2
           replace hx863_3 := (HB.out.cell (World.block_lt_of_cell? w _ hx863_3)).trans hx863_3
           replace p863 := eq_true p863
           replace q863 := eq_true q863
           go_wp2_with (first | ((with_reducible refine gate_callee (f := 89) rfl ?_); refine goesL_ (some 26) rfl rfl Tryz.func89 (by kernel_rfl) rfl #[.string ((rd_T63 l0 x4_1).f1)] rfl (by (try simp only [List.map_toArray, List.map_cons, List.map_nil]); first | done | rfl | (simp only [List.length_drop, List.length_take]; rfl)) ?_; (with_reducible refine (folkmootref08_point.calls ((rd_T63 l0 x4_1).f1) t864 t865 _ A10.out).mono ?_); rintro e w12 ⟨rfl, hb⟩; refine ⟨_, rfl, ?_⟩; have n0_ := Aside0.mk (Kd.R_below (rR_ HO_3.out) hb); have n1_ := Aside0.mk (below_step bB_ hb); clear HO_3; clear HB; have HO_3 := n0_; have HB := n1_; clear n0_ n1_; (try clear hb); (try clear hb2); (try clear hk); (try clear hi)) | ((with_reducible refine gate_builtin (b := .append) (xs := #[.tmp 20, .tmp 27]) rfl ?_); at_builtin; refine Kd.R_append k71 (w0 := w) w.heap.size rfl (.tmp 20) (.tmp 27) 40 71 (.agg #[(.string ⟨#[]⟩), (.string ⟨#[]⟩)]) 32 rfl Tryz.underlying40 info71 rfl (by decide) (by omega) u3 x3_1 (⟨t864, t865⟩ : S71) [.string t864, .string t865] (fun _ => True) (fun _ => False) rfl rfl ?aP (fun _ hk => hk.elim) ?aF ?aO ?aB ?aS ?aL ?_; (case aP => exact k71_mkM _ _ _ (⟨t864, t865⟩ : S71)); (case aB => exact bB_); (case aF => exact (fun _ _ => trivial)); (case aO => exact (rR_ HO_3.out)); (case aS => exact (below_size bB_)); (case aL => have := LMc11.out; omega); intro v867 w13 ho hb hg hat; rw [← Ny866.out] at ho; have n0_ := Aside0.mk (hb); have n1_ := Aside0.mk (ho); clear HB; clear HO_3; have HB := n0_; have HO868 := n1_; clear n0_ n1_; clear ho hb hg hat))
           go_roundg kj3
           case measure => have := HK1.out; have := HJ3.out; omega
           case rel => exact ⟨(y866), (wrap64 (x4_1 + 1)), (by first | rfl | (rw [bl_gt] <;> rfl) | (simp; done) | (simp [*]; done)), H', ⟨by have := HK1.out; have := HJ3.out; omega⟩, ⟨rR_ HO868.out⟩, ⟨bB_⟩⟩
          ·rw [if_neg c11] at H
           exact absurd H (by simp)
         ·rw [if_neg c9] at H
          exact absurd H (by simp)
        ·rw [if_neg c8] at H
         exact absurd H (by simp)
       ·replace c7 := Bool.eq_false_iff.mpr c7
        subst c7
        have H1 : (if ((rd_T63 l0 x4_1).f0) = 6 then (if 0 ≤ x4_1 then (if x4_1 < (l0.length : Int) then ((folkmootref08_point.f ((rd_T63 l0 x4_1).f1)).bind fun bt870 => ((folkmootref08_point.f ((rd_T63 l0 x4_1).f2)).bind fun bt873 => ((some (([(⟨bt870.1, bt870.2⟩ : S71), (⟨bt873.1, bt873.2⟩ : S71)] : List (S71)) : List (S71))).bind fun y875 => (if x3_1.length + y875.length < 4398046511104 then (folkmootref08_Writes.l0 kj3 l0 (x3_1 ++ y875) (wrap64 (x4_1 + 1))) else (none))))) else (none)) else (none)) else (folkmootref08_Writes.l0 kj3 l0 x3_1 (wrap64 (x4_1 + 1)))) = some r := by rw [if_neg (show ¬ (false = true) by decide)] at H; exact H
        clear H;have H := H1;clear H1
        by_cases c14 : ((rd_T63 l0 x4_1).f0) = 6
        ·rw [if_pos c14] at H
         have c14b0 : (((rd_T63 l0 x4_1).f0) == 6) = true := beq_iff_eq.mpr c14
         have c14b1 : (((rd_T63 l0 x4_1).f0) != 6) = false := bne_eq_false_iff_eq.mpr c14
         clear c14
         by_cases c15 : 0 ≤ x4_1
         ·rw [if_pos c15] at H
          have c15b0 : decide (0 ≤ x4_1) = true := decide_eq_true c15
          clear c15
          by_cases c16 : x4_1 < (l0.length : Int)
          ·rw [if_pos c16] at H
           have c16b0 : decide (x4_1 < (l0.length : Int)) = true := decide_eq_true c16
           clear c16
           replace H := Option.bind_eq_some_iff.mp H
           obtain ⟨⟨t870, t871⟩, A170, H⟩ := H
           replace H : ((folkmootref08_point.f ((rd_T63 l0 x4_1).f2)).bind fun bt873 => ((some (([(⟨t870, t871⟩ : S71), (⟨bt873.1, bt873.2⟩ : S71)] : List (S71)) : List (S71))).bind fun y875 => (if x3_1.length + y875.length < 4398046511104 then (folkmootref08_Writes.l0 kj3 l0 (x3_1 ++ y875) (wrap64 (x4_1 + 1))) else (none)))) = some r := H
           have A17 := Aside0.mk A170
           clear A170
           replace H := Option.bind_eq_some_iff.mp H
           obtain ⟨⟨t873, t874⟩, A180, H⟩ := H
           replace H : ((some (([(⟨t870, t871⟩ : S71), (⟨t873, t874⟩ : S71)] : List (S71)) : List (S71))).bind fun y875 => (if x3_1.length + y875.length < 4398046511104 then (folkmootref08_Writes.l0 kj3 l0 (x3_1 ++ y875) (wrap64 (x4_1 + 1))) else (none))) = some r := H
           have A18 := Aside0.mk A180
           clear A180
           obtain ⟨y875, hy875⟩ : ∃ y_ : List (S71), y_ = (([(⟨t870, t871⟩ : S71), (⟨t873, t874⟩ : S71)] : List (S71))) := ⟨_, rfl⟩
           replace H : (if x3_1.length + y875.length < 4398046511104 then (folkmootref08_Writes.l0 kj3 l0 (x3_1 ++ y875) (wrap64 (x4_1 + 1))) else (none)) = some r := by first | (rw [hy875]; with_reducible exact H) | (have H2_ := (Option.bind_some _ _).symm.trans H; rw [hy875]; with_reducible exact H2_) | (have H2_ := (Option.bind_some _ _).symm.trans H; with_reducible exact H2_) | with_reducible exact H | (rw [hy875]; exact H) | exact H
           have Ny875 := Aside0.mk hy875
           clear hy875
           by_cases c19 : x3_1.length + y875.length < 4398046511104
           ·rw [if_pos c19] at H
            have LMc19 := Aside0.mk c19
            clear c19
            obtain ⟨y878, hy878⟩ : ∃ y_ : List (S71), y_ = (x3_1 ++ y875) := ⟨_, rfl⟩
            replace H : (folkmootref08_Writes.l0 kj3 l0 y878 (wrap64 (x4_1 + 1))) = some r := by first | (rw [hy878]; with_reducible exact H) | (have H2_ := (Option.bind_some _ _).symm.trans H; rw [hy878]; with_reducible exact H2_) | (have H2_ := (Option.bind_some _ _).symm.trans H; with_reducible exact H2_) | with_reducible exact H | (rw [hy878]; exact H) | exact H
            have Ny878 := Aside0.mk hy878
            clear hy878
            have H' := Aside0.mk H
            clear H
            try go_wp2
            have n0_ := Aside0.mk (Kd.R_drew HO_3.out)
            have n1_ := Aside0.mk (below_drew1 HB.out)
            clear HO_3 HB;have HO_3 := n0_;have HB := n1_;clear n0_ n1_
            have p869 : 0 ≤ (x4_1 : Int) := of_decide_eq_true (by first | (with_reducible assumption) | assumption)
            have q869 : x4_1 < (l0.length : Int) := of_decide_eq_true (by first | (with_reducible assumption) | assumption)
            obtain ⟨ad869, e869, hx869_0, hx869_1, hx869_2, hx869_3⟩ := at_T63 HR0.out x4_1 p869 q869
            have hw869_3 := hx869_3;have hw869_2 := hx869_2;have hw869_1 := hx869_1;have hw869_0 := hx869_0
            obtain rfl : ad862 = ad869 := (by injection e869)
            replace hx869_0 := (HB.out.cell (World.block_lt_of_cell? w _ hx869_0)).trans hx869_0
            replace hx869_1 := (HB.out.cell (World.block_lt_of_cell? w _ hx869_1)).trans hx869_1
            replace hx869_2 := (HB.out.cell (World.block_lt_of_cell? w _ hx869_2)).trans hx869_2
            replace hx869_3 := (HB.out.cell (World.block_lt_of_cell? w _ hx869_3)).trans hx869_3
            replace p869 := eq_true p869
            replace q869 := eq_true q869
            have p872 : 0 ≤ (x4_1 : Int) := of_decide_eq_true (by first | (with_reducible assumption) | assumption)
            have q872 : x4_1 < (l0.length : Int) := of_decide_eq_true (by first | (with_reducible assumption) | assumption)
            obtain ⟨ad872, e872, hx872_0, hx872_1, hx872_2, hx872_3⟩ := at_T63 HR0.out x4_1 p872 q872
            have hw872_3 := hx872_3;have hw872_2 := hx872_2;have hw872_1 := hx872_1;have hw872_0 := hx872_0
            obtain rfl : ad862 = ad872 := (by injection e872)
            replace hx872_0 := (HB.out.cell (World.block_lt_of_cell? w _ hx872_0)).trans hx872_0
            replace hx872_1 := (HB.out.cell (World.block_lt_of_cell? w _ hx872_1)).trans hx872_1
            replace hx872_2 := (HB.out.cell (World.block_lt_of_cell? w _ hx872_2)).trans hx872_2
            replace hx872_3 := (HB.out.cell (World.block_lt_of_cell? w _ hx872_3)).trans hx872_3
            replace p872 := eq_true p872
            replace q872 := eq_true q872
            refine start_ (n := 16) (S := fun w' => w'.cell? (ad862.add ((x4_1).toNat * 4)) = some (.int .i64 ((rd_T63 l0 x4_1).f0)) ∧ w'.cell? ⟨(ad862.add ((x4_1).toNat * 4)).block, (ad862.add ((x4_1).toNat * 4)).off + 1, none⟩ = some (.string ((rd_T63 l0 x4_1).f1)) ∧ w'.cell? ⟨(ad862.add ((x4_1).toNat * 4)).block, (ad862.add ((x4_1).toNat * 4)).off + 2, none⟩ = some (.string ((rd_T63 l0 x4_1).f2)) ∧ w'.cell? ⟨(ad862.add ((x4_1).toNat * 4)).block, (ad862.add ((x4_1).toNat * 4)).off + 3, none⟩ = some (.int .u64 ((rd_T63 l0 x4_1).f3)) ∧ w'.cell? (ad862.add ((x4_1).toNat * 4)) = some (.int .i64 ((rd_T63 l0 x4_1).f0)) ∧ w'.cell? ⟨(ad862.add ((x4_1).toNat * 4)).block, (ad862.add ((x4_1).toNat * 4)).off + 1, none⟩ = some (.string ((rd_T63 l0 x4_1).f1)) ∧ w'.cell? ⟨(ad862.add ((x4_1).toNat * 4)).block, (ad862.add ((x4_1).toNat * 4)).off + 2, none⟩ = some (.string ((rd_T63 l0 x4_1).f2)) ∧ w'.cell? ⟨(ad862.add ((x4_1).toNat * 4)).block, (ad862.add ((x4_1).toNat * 4)).off + 3, none⟩ = some (.int .u64 ((rd_T63 l0 x4_1).f3))) (ds := []) #[false,false,false,false,false,false,false,false,false,false,false,false,false,false,false,false] (by kernel_rfl) rfl rfl ⟨((HB.out.cell (World.block_lt_of_cell? w _ hw869_0)).trans hw869_0), ((HB.out.cell (World.block_lt_of_cell? w _ hw869_1)).trans hw869_1), ((HB.out.cell (World.block_lt_of_cell? w _ hw869_2)).trans hw869_2), ((HB.out.cell (World.block_lt_of_cell? w _ hw869_3)).trans hw869_3), ((HB.out.cell (World.block_lt_of_cell? w _ hw872_0)).trans hw872_0), ((HB.out.cell (World.block_lt_of_cell? w _ hw872_1)).trans hw872_1), ((HB.out.cell (World.block_lt_of_cell? w _ hw872_2)).trans hw872_2), ((HB.out.cell (World.block_lt_of_cell? w _ hw872_3)).trans hw872_3)⟩ (fun hHeld => ?_); refine with_tabW folkmootref08_Writes.tab11 folkmootref08_Writes.bits11 (fun HT_ HW_ => ?_)
            generalize wc.drew = w20 at HO_3 HB hx869_0 hx869_1 hx869_2 hx869_3 hx872_0 hx872_1 hx872_2 hx872_3 hHeld ⊢
            refine pu_ 0 31 ?_;refine pu_ 1 32 ?_;refine pu_ 2 33 ?_;refine pu_ 3 34 ?_;refine pu_ 4 35 ?_;refine pu_ 7 38 ?_;refine pu_ 8 39 ?_;refine pu_ 9 40 ?_;refine pu_ 10 41 ?_;refine ta_ 5 36 hHeld ?_;refine ta_ 11 42 hHeld ?_;refine one_ (i := 6) (N := some 37) #[true,true,true,true,true,true,true,true,true,true,true,true,false,false,false,false] rfl rfl (one_of HT_.out (by kernel_rfl)) (by decide) (fun K hK => ?_);refine goes_ Tryz.func89 (by kernel_rfl) rfl #[.string ((rd_T63 l0 x4_1).f1)] (by rfl) rfl rfl (by (try simp only [List.map_toArray, List.map_cons, List.map_nil]); first | done | rfl | (simp only [List.length_drop, List.length_take]; rfl)) ?_
            with_reducible refine (folkmootref08_point.calls ((rd_T63 l0 x4_1).f1) t870 t871 _ A17.out).mono ?_
            rintro e w21 ⟨rfl, hb⟩
            refine ⟨_, rfl, ?_⟩
            have n0_ := Aside0.mk (Kd.R_below (rR_ HO_3.out) hb)
            have n1_ := Aside0.mk (below_step bB_ hb)
            clear HO_3 HB;have HO_3 := n0_;have HB := n1_;clear n0_ n1_;(try clear hb);(try clear hb2);(try clear hk);(try clear hi);refine hK.out _ _ ⟨((HB.out.cell (World.block_lt_of_cell? w _ hw869_0)).trans hw869_0), ((HB.out.cell (World.block_lt_of_cell? w _ hw869_1)).trans hw869_1), ((HB.out.cell (World.block_lt_of_cell? w _ hw869_2)).trans hw869_2), ((HB.out.cell (World.block_lt_of_cell? w _ hw869_3)).trans hw869_3), ((HB.out.cell (World.block_lt_of_cell? w _ hw872_0)).trans hw872_0), ((HB.out.cell (World.block_lt_of_cell? w _ hw872_1)).trans hw872_1), ((HB.out.cell (World.block_lt_of_cell? w _ hw872_2)).trans hw872_2), ((HB.out.cell (World.block_lt_of_cell? w _ hw872_3)).trans hw872_3)⟩ (fun hHeld => ?_);clear hK K;refine norm_ (a' := ?_) ?_ ?_;rotate_left
            ·show Act.put _ (some 37) _ = _
             simp only [Act.put, List.setIfInBounds_toArray, List.set_cons_zero, List.set_cons_succ, i64_w, i32_w];rfl
            refine one_ (i := 12) (N := some 43) #[true,true,true,true,true,true,true,true,true,true,true,true,true,false,false,false] rfl rfl (one_of HT_.out (by kernel_rfl)) (by decide) (fun K hK => ?_);refine goes_ Tryz.func89 (by kernel_rfl) rfl #[.string ((rd_T63 l0 x4_1).f2)] (by rfl) rfl rfl (by (try simp only [List.map_toArray, List.map_cons, List.map_nil]); first | done | rfl | (simp only [List.length_drop, List.length_take]; rfl)) ?_
            with_reducible refine (folkmootref08_point.calls ((rd_T63 l0 x4_1).f2) t873 t874 _ A18.out).mono ?_
            rintro e w22 ⟨rfl, hb⟩
            refine ⟨_, rfl, ?_⟩
            have n0_ := Aside0.mk (Kd.R_below (rR_ HO_3.out) hb)
            have n1_ := Aside0.mk (below_step bB_ hb)
            clear HO_3 HB;have HO_3 := n0_;have HB := n1_;clear n0_ n1_;(try clear hb);(try clear hb2);(try clear hk);(try clear hi);refine hK.out _ _ ⟨((HB.out.cell (World.block_lt_of_cell? w _ hw869_0)).trans hw869_0), ((HB.out.cell (World.block_lt_of_cell? w _ hw869_1)).trans hw869_1), ((HB.out.cell (World.block_lt_of_cell? w _ hw869_2)).trans hw869_2), ((HB.out.cell (World.block_lt_of_cell? w _ hw869_3)).trans hw869_3), ((HB.out.cell (World.block_lt_of_cell? w _ hw872_0)).trans hw872_0), ((HB.out.cell (World.block_lt_of_cell? w _ hw872_1)).trans hw872_1), ((HB.out.cell (World.block_lt_of_cell? w _ hw872_2)).trans hw872_2), ((HB.out.cell (World.block_lt_of_cell? w _ hw872_3)).trans hw872_3)⟩ (fun hHeld => ?_);clear hK K;refine norm_ (a' := ?_) ?_ ?_;rotate_left
            ·show Act.put _ (some 43) _ = _
             simp only [Act.put, List.setIfInBounds_toArray, List.set_cons_zero, List.set_cons_succ, i64_w, i32_w];rfl
            refine one_ (i := 13) (N := some 44) #[true,true,true,true,true,true,true,true,true,true,true,true,true,true,false,false] rfl rfl (one_of HT_.out (by kernel_rfl)) (by decide) (fun K hK => ?_);refine Kd.R_lit_step k71 _ 71 ?hg (N := 44) ?hd (xs := ([(⟨t870, t871⟩ : S71), (⟨t873, t874⟩ : S71)] : List (S71))) (inner := [.string t870, .string t871, .string t873, .string t874]) (ok := fun _ => True) (okp := fun _ => True) ?hr ?hp (fun _ hk => hk) trivial (Below.refl _ _) (Nat.le_refl _) (by simp) ?_; (case hd => rfl); (case hg => rfl); (case hr => first | (go_simp; done) | (go_simp; rfl)); (case hp => exact (Reps.c2 (show Kd.M k71 _ _ _ (⟨t870, t871⟩ : S71) [.string t870, .string t871] from (k71_mkM _ _ _ (⟨t870, t871⟩ : S71) )) (Reps.c2 (show Kd.M k71 _ _ _ (⟨t873, t874⟩ : S71) [.string t873, .string t874] from (k71_mkM _ _ _ (⟨t873, t874⟩ : S71) )) (Reps.none _ _))));intro v876 w23 ho24 hb hg_ hnew_;clear hg_ hnew_
            (first | rw [← Ny875.out] at ho24 | (simp only [Int.reduceToNat] at ho24; rw [← Ny875.out] at ho24))
            have n0_ := Aside0.mk (Kd.R_elder' (rR_ HO_3.out) (Kd.R_base ho24) hb)
            have n1_ := Aside0.mk (Kd.R_lower (Kd.R_new' ho24 (Kd.R_lt (rR_ HO_3.out))) (below_size bB_))
            have n2_ := Aside0.mk (below_step bB_ hb)
            clear HO_3 HB;have HO_3 := n0_;have HO877 := n1_;have HB := n2_;clear n0_ n1_ n2_ hb ho24
            obtain ⟨Ao26, co26, eo26⟩ := Kd.R_slice HO877.out
            (first | subst eo26 | (injection eo26 with f1_ f2_ f3_; have f4_ := f1_.symm; have f5_ := f3_.symm; clear f1_ f2_ f3_; subst f4_; subst f5_))
            refine hK.out _ _ ⟨((HB.out.cell (World.block_lt_of_cell? w _ hw869_0)).trans hw869_0), ((HB.out.cell (World.block_lt_of_cell? w _ hw869_1)).trans hw869_1), ((HB.out.cell (World.block_lt_of_cell? w _ hw869_2)).trans hw869_2), ((HB.out.cell (World.block_lt_of_cell? w _ hw869_3)).trans hw869_3), ((HB.out.cell (World.block_lt_of_cell? w _ hw872_0)).trans hw872_0), ((HB.out.cell (World.block_lt_of_cell? w _ hw872_1)).trans hw872_1), ((HB.out.cell (World.block_lt_of_cell? w _ hw872_2)).trans hw872_2), ((HB.out.cell (World.block_lt_of_cell? w _ hw872_3)).trans hw872_3)⟩ (fun hHeld => ?_);clear hK K;refine norm_ (a' := ?_) ?_ ?_;rotate_left
            ·show Act.put _ (some 44) _ = _
             simp only [Act.put, List.setIfInBounds_toArray, List.set_cons_zero, List.set_cons_succ, i64_w, i32_w];rfl
            refine one_ (i := 14) (N := some 45) #[true,true,true,true,true,true,true,true,true,true,true,true,true,true,true,false] rfl rfl (one_of HT_.out (by kernel_rfl)) (by decide) (fun K hK => ?_);refine Kd.R_append_rows_step k71 (w0 := w) w.heap.size (by rfl) (.tmp 31) (.tmp 44) 40 71 (.agg #[(.string ⟨#[]⟩), (.string ⟨#[]⟩)]) 32 rfl Tryz.underlying40 info71 rfl (by decide) (by omega) u3 x3_1 y875 _ _ _ (fun k_ => some k_ ≠ (.slice Ao26 y875.length co26 : Value).ownBlock) (fun _ => False) rfl rfl ?aO ?aR (fun _ _ h => h) (fun _ h => h.elim) ?aF ?aB ?aS ?aL ?_
            (case aR => repeat (first | exact (Kd.R_reads' HO877.out).2.2 | (with_reducible refine Kd.C_alloc ?_ _) | (with_reducible refine Kd.C_drewN ?_ _) | (with_reducible refine Kd.C_drew ?_)))
            (case aB => exact bB_)
            (case aF => exact (fun k_ hk => Kd.fresh' (Kd.R_lt (rR_ HO877.out)) k_ hk))
            (case aO => exact (by (with_reducible repeat (first | apply Kd.R_alloc | apply Kd.R_drewN | apply Kd.R_drew)); exact Kd.R_mono HO_3.out (fun _ hk => hk.2)))
            (case aS => exact (below_size bB_))
            (case aL => have := LMc19.out; omega)
            intro v879 w25 ho hb hg hat
            rw [← Ny878.out] at ho
            have n0_ := Aside0.mk (Kd.R_after (ok := (fun _ => True)) (rR_ HO877.out) hg hat)
            have n1_ := Aside0.mk (hb)
            have n2_ := Aside0.mk (ho)
            clear HO877 HB HO_3;have HO877 := n0_;have HB := n1_;have HO880 := n2_;clear n0_ n1_ n2_ ho hb hg hat;refine hK.out _ _ ⟨((HB.out.cell (World.block_lt_of_cell? w _ hw869_0)).trans hw869_0), ((HB.out.cell (World.block_lt_of_cell? w _ hw869_1)).trans hw869_1), ((HB.out.cell (World.block_lt_of_cell? w _ hw869_2)).trans hw869_2), ((HB.out.cell (World.block_lt_of_cell? w _ hw869_3)).trans hw869_3), ((HB.out.cell (World.block_lt_of_cell? w _ hw872_0)).trans hw872_0), ((HB.out.cell (World.block_lt_of_cell? w _ hw872_1)).trans hw872_1), ((HB.out.cell (World.block_lt_of_cell? w _ hw872_2)).trans hw872_2), ((HB.out.cell (World.block_lt_of_cell? w _ hw872_3)).trans hw872_3)⟩ (fun hHeld => ?_);clear hK K;refine norm_ (a' := ?_) ?_ ?_;rotate_left
            ·show Act.put _ (some 45) _ = _
             simp only [Act.put, List.setIfInBounds_toArray, List.set_cons_zero, List.set_cons_succ, i64_w, i32_w];rfl
            refine pu_ 15 3 ?_;refine done_ (done_of HT_.out (by kernel_rfl)) ?_
            try go_wp2
            go_roundg kj3
            case measure => have := HK1.out; have := HJ3.out; omega
            case rel => exact ⟨(y878), (wrap64 (x4_1 + 1)), (by first | rfl | (rw [bl_gt] <;> rfl) | (simp; done) | (simp [*]; done)), H', ⟨by have := HK1.out; have := HJ3.out; omega⟩, ⟨by (with_reducible repeat (first | apply Kd.R_alloc | apply Kd.R_drewN | apply Kd.R_drew)); exact Kd.R_mono HO880.out (fun _ hk => trivial)⟩, ⟨bB_⟩⟩
           ·rw [if_neg c19] at H
            exact absurd H (by simp)
          ·rw [if_neg c16] at H
           exact absurd H (by simp)
         ·rw [if_neg c15] at H
          exact absurd H (by simp)
        ·rw [if_neg c14] at H
         have c14b0 : (((rd_T63 l0 x4_1).f0) == 6) = false := beq_eq_false_iff_ne.mpr c14
         have c14b1 : (((rd_T63 l0 x4_1).f0) != 6) = true := bne_iff_ne.mpr c14
         have H' := Aside0.mk H
         clear H
         go_wp2
         go_roundg kj3
         case measure => have := HK1.out; have := HJ3.out; omega
         case rel => exact ⟨(x3_1), (wrap64 (x4_1 + 1)), (by first | rfl | (rw [bl_gt] <;> rfl) | (simp; done) | (simp [*]; done)), H', ⟨by have := HK1.out; have := HJ3.out; omega⟩, ⟨rR_ HO_3.out⟩, ⟨bB_⟩⟩
    ·rw [if_neg c3] at H
     exact absurd H (by simp)
   ·rw [if_neg c2] at H
    have c2b0 : decide (x4_1 < (l0.length : Int)) = false := decide_eq_false c2
    clear c2
    replace H := Option.bind_eq_some_iff.mp H
    obtain ⟨t859, A270, H⟩ := H
    replace H : (some t859) = some r := H
    have A27 := Aside0.mk A270
    clear A270;obtain rfl := Option.some.inj H
    obtain ⟨Ao28, co28, eo28⟩ := Kd.R_slice HO_3.out
    subst eo28
    go_wp2_with (first | ((with_reducible refine gate_callee (f := 25) rfl ?_); refine goesL_ (some 47) rfl rfl Tryz.func25 (by kernel_rfl) rfl #[.slice Ao28 x3_1.length co28] rfl (by (try simp only [List.map_toArray, List.map_cons, List.map_nil]); first | done | rfl | (simp only [List.length_drop, List.length_take]; rfl)) ?_; (with_reducible refine (folkmootref03_Union.calls k1 _ _ x3_1 t859 _ ?side1 ?side2 A27.out).mono ?_); (case side1 => repeat (first | exact (Kd.R_reads' HO_3.out).2.2 | (with_reducible refine Kd.C_alloc ?_ _) | (with_reducible refine Kd.C_drewN ?_ _) | (with_reducible refine Kd.C_drew ?_))); (case side2 => exact (Kd.R_reads' HO_3.out).2.1); rintro e w29 ⟨v860, rfl, ho0, hb⟩; refine ⟨_, rfl, ?_⟩; have n0_ := Aside0.mk (Kd.R_elder' (rR_ HO_3.out) (Kd.R_base ho0) hb); have n1_ := Aside0.mk (Kd.R_lower (Kd.R_new' ho0 (Kd.R_lt (rR_ HO_3.out))) (below_size bB_)); have n2_ := Aside0.mk (below_step bB_ hb); clear HO_3; clear HB; have HO_3 := n0_; have HO861 := n1_; have HB := n2_; clear n0_ n1_ n2_; (try clear hb); (try clear hb2); (try clear hk); (try clear hi); (try clear ho0)))
    go_ret
    exact ⟨_, by first | rfl | (rw [bl_gt] <;> rfl) | (simp [errW_none, errW_some] <;> rfl) | (simp [*, errW_none, errW_some] <;> rfl), by (with_reducible repeat (first | apply Kd.R_alloc | apply Kd.R_drewN | apply Kd.R_drew)); exact Kd.R_mono HO861.out (fun _ hk => trivial), bB_⟩
end Go.Proofs.YtgmlenpcchhmbaaGreat.P
end
section
set_option linter.unusedVariables false
set_option linter.unusedSimpArgs false
namespace Go.Proofs.YtgmlenpcchhmbaaGreat.P
open Go.RowKit Go.Proofs.YtgmlenpcchhmbaaGreatW.PrintWords Go.Proofs.YtgmlenpcchhmbaaGreatW.PrintLast Go.Proofs.YtgmlenpcchhmbaaGreatW.PrintMore
attribute [local go_sem] max2_int min2_int max_two min_two max_three min_three max_four min_four   -- for this text's walks alone
def folkmootref08_All.f (k : Nat) (l0 : List (S63)) : Option ((List (S71))) := (folkmootref08_Reads.f k l0).bind fun t881 => ((folkmootref08_Writes.f k l0).bind fun t884 => (if t881.length + t884.length < 4398046511104 then ((folkmootref03_Union.f k (t881 ++ t884)).bind fun t890 => (some t890)) else (none)))
set_option maxHeartbeats 8000000 in
set_option maxRecDepth 100000 in
theorem folkmootref08_All.calls (k : Nat) (A0 : Option Addr) (c0 : Nat) (l0 : List (S63)) (r : List (S71)) (w : World) (hr0 : Kd.C k63 w A0 l0.length l0) (hc0 : l0.length ≤ c0) (h : folkmootref08_All.f k l0 = some r) :
  Calls Tryz.prog 45 #[.slice A0 l0.length c0] w fun e w' => ∃ v0_ : Value, e = .returned (v0_) ∧ Kd.R k71 71 w' w.heap.size (fun _ => True) v0_ r ∧ Below w.heap.size w w' := by
 have HR0 := Aside0.mk hr0
 have HC0 := Aside0.mk hc0
 clear hr0 hc0
 have HB := Aside0.mk (Below.refl w.heap.size w)
 have H : ((folkmootref08_Reads.f k l0).bind fun t881 => ((folkmootref08_Writes.f k l0).bind fun t884 => (if t881.length + t884.length < 4398046511104 then ((folkmootref03_Union.f k (t881 ++ t884)).bind fun t890 => (some t890)) else (none)))) = some r := h
 clear h
 replace H := Option.bind_eq_some_iff.mp H
 obtain ⟨t881, A20, H⟩ := H
 replace H : ((folkmootref08_Writes.f k l0).bind fun t884 => (if t881.length + t884.length < 4398046511104 then ((folkmootref03_Union.f k (t881 ++ t884)).bind fun t890 => (some t890)) else (none))) = some r := H
 have A2 := Aside0.mk A20
 clear A20
 replace H := Option.bind_eq_some_iff.mp H
 obtain ⟨t884, A30, H⟩ := H
 replace H : (if t881.length + t884.length < 4398046511104 then ((folkmootref03_Union.f k (t881 ++ t884)).bind fun t890 => (some t890)) else (none)) = some r := H
 have A3 := Aside0.mk A30
 clear A30
 by_cases c4 : t881.length + t884.length < 4398046511104
 ·rw [if_pos c4] at H
  have LMc4 := Aside0.mk c4
  clear c4
  obtain ⟨y887, hy887⟩ : ∃ y_ : List (S71), y_ = (t881 ++ t884) := ⟨_, rfl⟩
  replace H : ((folkmootref03_Union.f k y887).bind fun t890 => (some t890)) = some r := by first | (rw [hy887]; with_reducible exact H) | (have H2_ := (Option.bind_some _ _).symm.trans H; rw [hy887]; with_reducible exact H2_) | (have H2_ := (Option.bind_some _ _).symm.trans H; with_reducible exact H2_) | with_reducible exact H | (rw [hy887]; exact H) | exact H
  have Ny887 := Aside0.mk hy887
  clear hy887
  replace H := Option.bind_eq_some_iff.mp H
  obtain ⟨t890, A50, H⟩ := H
  replace H : (some t890) = some r := H
  have A5 := Aside0.mk A50
  clear A50;obtain rfl := Option.some.inj H
  go_enter Tryz.func45, Tryz.ntmps45
  go_wp2_with (first | ((with_reducible refine gate_callee (f := 43) rfl ?_); refine goesL_ (some 4) rfl rfl Tryz.func43 (by kernel_rfl) rfl #[.slice A0 l0.length c0] rfl (by (try simp only [List.map_toArray, List.map_cons, List.map_nil]); first | done | rfl | (simp only [List.length_drop, List.length_take]; rfl)) ?_; (with_reducible refine (folkmootref08_Reads.calls k _ _ l0 t881 _ ?side1 ?side2 A2.out).mono ?_); (case side1 => repeat (first | exact HR0.out | (with_reducible refine Kd.C_alloc ?_ _) | (with_reducible refine Kd.C_drewN ?_ _) | (with_reducible refine Kd.C_drew ?_))); (case side2 => exact HC0.out); rintro e w6 ⟨v882, rfl, ho0, hb⟩; refine ⟨_, rfl, ?_⟩; have n0_ := Aside0.mk (Kd.R_lower ho0 (below_size bB_)); have n1_ := Aside0.mk (below_step bB_ hb); clear HB; have HO883 := n0_; have HB := n1_; clear n0_ n1_; (try clear hb); (try clear hb2); (try clear hk); (try clear hi); (try clear ho0)) | ((with_reducible refine gate_callee (f := 44) rfl ?_); refine goesL_ (some 6) rfl rfl Tryz.func44 (by kernel_rfl) rfl #[.slice A0 l0.length c0] rfl (by (try simp only [List.map_toArray, List.map_cons, List.map_nil]); first | done | rfl | (simp only [List.length_drop, List.length_take]; rfl)) ?_; (with_reducible refine (folkmootref08_Writes.calls k _ _ l0 t884 _ ?side1 ?side2 A3.out).mono ?_); (case side1 => repeat (first | exact (Kd.C_below HR0.out HB.out) | (with_reducible refine Kd.C_alloc ?_ _) | (with_reducible refine Kd.C_drewN ?_ _) | (with_reducible refine Kd.C_drew ?_))); (case side2 => exact HC0.out); rintro e w7 ⟨v885, rfl, ho0, hb⟩; refine ⟨_, rfl, ?_⟩; have n0_ := Aside0.mk (Kd.R_elder' (rR_ HO883.out) (Kd.R_base ho0) hb); have n1_ := Aside0.mk (Kd.R_lower (Kd.R_new' ho0 (Kd.R_lt (rR_ HO883.out))) (below_size bB_)); have n2_ := Aside0.mk (below_step bB_ hb); clear HO883; clear HB; have HO883 := n0_; have HO886 := n1_; have HB := n2_; clear n0_ n1_ n2_; (try clear hb); (try clear hb2); (try clear hk); (try clear hi); (try clear ho0); obtain ⟨Ao9, co9, eo9⟩ := Kd.R_slice HO886.out; subst eo9) | ((with_reducible refine gate_builtin (b := .append) (xs := #[.tmp 4, .tmp 6]) rfl ?_); at_builtin; refine Kd.R_append_rows k71 (w0 := w) w.heap.size rfl (.tmp 4) (.tmp 6) 40 71 (.agg #[(.string ⟨#[]⟩), (.string ⟨#[]⟩)]) 32 rfl Tryz.underlying40 info71 rfl (by decide) (by omega) v882 t881 t884 _ _ _ (fun k_ => some k_ ≠ (.slice Ao9 t884.length co9 : Value).ownBlock) (fun _ => False) rfl rfl ?aO ?aR (fun _ _ h => h) (fun _ h => h.elim) ?aF ?aB ?aS ?aL ?_; (case aR => repeat (first | exact (Kd.R_reads' HO886.out).2.2 | (with_reducible refine Kd.C_alloc ?_ _) | (with_reducible refine Kd.C_drewN ?_ _) | (with_reducible refine Kd.C_drew ?_))); (case aB => exact bB_); (case aF => exact (fun k_ hk => Kd.fresh' (Kd.R_lt (rR_ HO886.out)) k_ hk)); (case aO => exact (by (with_reducible repeat (first | apply Kd.R_alloc | apply Kd.R_drewN | apply Kd.R_drew)); exact Kd.R_mono HO883.out (fun _ hk => hk.2))); (case aS => exact (below_size bB_)); (case aL => have := LMc4.out; omega); intro v888 w8 ho hb hg hat; rw [← Ny887.out] at ho; have n0_ := Aside0.mk (Kd.R_after (ok := (fun _ => True)) (rR_ HO886.out) hg hat); have n1_ := Aside0.mk (hb); have n2_ := Aside0.mk (ho); clear HO886; clear HB; clear HO883; have HO886 := n0_; have HB := n1_; have HO889 := n2_; clear n0_ n1_ n2_; clear ho hb hg hat; obtain ⟨Ao10, co10, eo10⟩ := Kd.R_slice HO889.out; subst eo10) | ((with_reducible refine gate_callee (f := 25) rfl ?_); refine goesL_ (some 8) rfl rfl Tryz.func25 (by kernel_rfl) rfl #[.slice Ao10 y887.length co10] rfl (by (try simp only [List.map_toArray, List.map_cons, List.map_nil]); first | done | rfl | (simp only [List.length_drop, List.length_take]; rfl)) ?_; (with_reducible refine (folkmootref03_Union.calls k _ _ y887 t890 _ ?side1 ?side2 A5.out).mono ?_); (case side1 => repeat (first | exact (Kd.R_reads' HO889.out).2.2 | (with_reducible refine Kd.C_alloc ?_ _) | (with_reducible refine Kd.C_drewN ?_ _) | (with_reducible refine Kd.C_drew ?_))); (case side2 => exact (Kd.R_reads' HO889.out).2.1); rintro e w11 ⟨v891, rfl, ho0, hb⟩; refine ⟨_, rfl, ?_⟩; have n0_ := Aside0.mk (Kd.R_elder' (rR_ HO886.out) (Kd.R_base ho0) hb); have n1_ := Aside0.mk (Kd.R_elder' (rR_ HO889.out) (Kd.R_base ho0) hb); have n2_ := Aside0.mk (Kd.R_lower (Kd.R_new' (Kd.R_new' ho0 (Kd.R_lt (rR_ HO886.out))) (Kd.R_lt (rR_ HO889.out))) (below_size bB_)); have n3_ := Aside0.mk (below_step bB_ hb); clear HO886; clear HO889; clear HB; have HO886 := n0_; have HO889 := n1_; have HO892 := n2_; have HB := n3_; clear n0_ n1_ n2_ n3_; (try clear hb); (try clear hb2); (try clear hk); (try clear hi); (try clear ho0)))
  go_ret
  exact ⟨_, by first | rfl | (rw [bl_gt] <;> rfl) | (simp [errW_none, errW_some] <;> rfl) | (simp [*, errW_none, errW_some] <;> rfl), by (with_reducible repeat (first | apply Kd.R_alloc | apply Kd.R_drewN | apply Kd.R_drew)); exact Kd.R_mono HO892.out (fun _ hk => trivial), bB_⟩
 ·rw [if_neg c4] at H
  exact absurd H (by simp)
end Go.Proofs.YtgmlenpcchhmbaaGreat.P
end
section
set_option linter.unusedVariables false
set_option linter.unusedSimpArgs false
namespace Go.Proofs.YtgmlenpcchhmbaaGreat.P
open Go.RowKit Go.Proofs.YtgmlenpcchhmbaaGreatW.PrintWords Go.Proofs.YtgmlenpcchhmbaaGreatW.PrintLast Go.Proofs.YtgmlenpcchhmbaaGreatW.PrintMore
attribute [local go_sem] max2_int min2_int max_two min_two max_three min_three max_four min_four   -- for this text's walks alone
def folkmootref03_Cut.f (k : Nat) (l0 : List (S71)) (l1 : List (S71)) : Option ((List (S71))) := (folkmootref03_set.f k l0 l1 1).bind fun t910 => (some t910)
set_option maxHeartbeats 8000000 in
set_option maxRecDepth 100000 in
theorem folkmootref03_Cut.calls (k : Nat) (A0 : Option Addr) (c0 : Nat) (l0 : List (S71)) (A1 : Option Addr) (c1 : Nat) (l1 : List (S71)) (r : List (S71)) (w : World) (hr0 : Kd.C k71 w A0 l0.length l0) (hc0 : l0.length ≤ c0) (hr1 : Kd.C k71 w A1 l1.length l1) (hc1 : l1.length ≤ c1) (h : folkmootref03_Cut.f k l0 l1 = some r) :
  Calls Tryz.prog 91 #[.slice A0 l0.length c0, .slice A1 l1.length c1] w fun e w' => ∃ v0_ : Value, e = .returned (v0_) ∧ Kd.R k71 71 w' w.heap.size (fun _ => True) v0_ r ∧ Below w.heap.size w w' := by
 have HR0 := Aside0.mk hr0
 have HC0 := Aside0.mk hc0
 clear hr0 hc0
 have HR1 := Aside0.mk hr1
 have HC1 := Aside0.mk hc1
 clear hr1 hc1
 have HB := Aside0.mk (Below.refl w.heap.size w)
 have H : ((folkmootref03_set.f k l0 l1 1).bind fun t910 => (some t910)) = some r := h
 clear h
 replace H := Option.bind_eq_some_iff.mp H
 obtain ⟨t910, A30, H⟩ := H
 replace H : (some t910) = some r := H
 have A3 := Aside0.mk A30
 clear A30;obtain rfl := Option.some.inj H
 go_enter Tryz.func91, Tryz.ntmps91
 go_wp2_with (first | ((with_reducible refine gate_callee (f := 65) rfl ?_); refine goesL_ (some 7) rfl rfl Tryz.func65 (by kernel_rfl) rfl #[.slice A0 l0.length c0, .slice A1 l1.length c1, .int .i64 1] rfl (by (try simp only [List.map_toArray, List.map_cons, List.map_nil]); first | done | rfl | (simp only [List.length_drop, List.length_take]; rfl)) ?_; (with_reducible refine (folkmootref03_set.calls k _ _ l0 _ _ l1 1 t910 _ ?side1 ?side2 ?side3 ?side4 A3.out).mono ?_); (case side1 => repeat (first | exact HR0.out | (with_reducible refine Kd.C_alloc ?_ _) | (with_reducible refine Kd.C_drewN ?_ _) | (with_reducible refine Kd.C_drew ?_))); (case side2 => exact HC0.out); (case side3 => repeat (first | exact HR1.out | (with_reducible refine Kd.C_alloc ?_ _) | (with_reducible refine Kd.C_drewN ?_ _) | (with_reducible refine Kd.C_drew ?_))); (case side4 => exact HC1.out); rintro e w4 ⟨v911, rfl, ho0, hb⟩; refine ⟨_, rfl, ?_⟩; have n0_ := Aside0.mk (Kd.R_lower ho0 (below_size bB_)); have n1_ := Aside0.mk (below_step bB_ hb); clear HB; have HO912 := n0_; have HB := n1_; clear n0_ n1_; (try clear hb); (try clear hb2); (try clear hk); (try clear hi); (try clear ho0)))
 go_ret
 exact ⟨_, by first | rfl | (rw [bl_gt] <;> rfl) | (simp [errW_none, errW_some] <;> rfl) | (simp [*, errW_none, errW_some] <;> rfl), by (with_reducible repeat (first | apply Kd.R_alloc | apply Kd.R_drewN | apply Kd.R_drew)); exact HO912.out, bB_⟩
end Go.Proofs.YtgmlenpcchhmbaaGreat.P
end
section
set_option linter.unusedVariables false
set_option linter.unusedSimpArgs false
namespace Go.Proofs.YtgmlenpcchhmbaaGreat.P
open Go.RowKit Go.Proofs.YtgmlenpcchhmbaaGreatW.PrintWords Go.Proofs.YtgmlenpcchhmbaaGreatW.PrintLast Go.Proofs.YtgmlenpcchhmbaaGreatW.PrintMore
attribute [local go_sem] max2_int min2_int max_two min_two max_three min_three max_four min_four   -- for this text's walks alone
def folkmootref08_Conflict.f (k : Nat) (l0 : List (S63)) (l1 : List (S63)) : Option (Bool) := (folkmootref08_Writes.f k l0).bind fun t913 => ((folkmootref08_All.f k l1).bind fun t916 => ((folkmootref03_Cut.f k t913 t916).bind fun t919 => (if (t919.length : Int) > 0 then (some true) else ((folkmootref08_All.f k l0).bind fun t922 => ((folkmootref08_Writes.f k l1).bind fun t925 => ((folkmootref03_Cut.f k t922 t925).bind fun t928 => (some (decide ((t928.length : Int) > 0)))))))))
set_option maxHeartbeats 8000000 in
set_option maxRecDepth 100000 in
theorem folkmootref08_Conflict.calls (k : Nat) (A0 : Option Addr) (c0 : Nat) (l0 : List (S63)) (A1 : Option Addr) (c1 : Nat) (l1 : List (S63)) (r : Bool) (w : World) (hr0 : Kd.C k63 w A0 l0.length l0) (hc0 : l0.length ≤ c0) (hr1 : Kd.C k63 w A1 l1.length l1) (hc1 : l1.length ≤ c1) (h : folkmootref08_Conflict.f k l0 l1 = some r) :
  Calls Tryz.prog 47 #[.slice A0 l0.length c0, .slice A1 l1.length c1] w fun e w' => e = .returned (.bool r) ∧ Below w.heap.size w w' := by
 have HR0 := Aside0.mk hr0
 have HC0 := Aside0.mk hc0
 clear hr0 hc0
 have HR1 := Aside0.mk hr1
 have HC1 := Aside0.mk hc1
 clear hr1 hc1
 have HB := Aside0.mk (Below.refl w.heap.size w)
 have H : ((folkmootref08_Writes.f k l0).bind fun t913 => ((folkmootref08_All.f k l1).bind fun t916 => ((folkmootref03_Cut.f k t913 t916).bind fun t919 => (if (t919.length : Int) > 0 then (some true) else ((folkmootref08_All.f k l0).bind fun t922 => ((folkmootref08_Writes.f k l1).bind fun t925 => ((folkmootref03_Cut.f k t922 t925).bind fun t928 => (some (decide ((t928.length : Int) > 0)))))))))) = some r := h
 clear h
 replace H := Option.bind_eq_some_iff.mp H
 obtain ⟨t913, A30, H⟩ := H
 replace H : ((folkmootref08_All.f k l1).bind fun t916 => ((folkmootref03_Cut.f k t913 t916).bind fun t919 => (if (t919.length : Int) > 0 then (some true) else ((folkmootref08_All.f k l0).bind fun t922 => ((folkmootref08_Writes.f k l1).bind fun t925 => ((folkmootref03_Cut.f k t922 t925).bind fun t928 => (some (decide ((t928.length : Int) > 0))))))))) = some r := H
 have A3 := Aside0.mk A30
 clear A30
 replace H := Option.bind_eq_some_iff.mp H
 obtain ⟨t916, A40, H⟩ := H
 replace H : ((folkmootref03_Cut.f k t913 t916).bind fun t919 => (if (t919.length : Int) > 0 then (some true) else ((folkmootref08_All.f k l0).bind fun t922 => ((folkmootref08_Writes.f k l1).bind fun t925 => ((folkmootref03_Cut.f k t922 t925).bind fun t928 => (some (decide ((t928.length : Int) > 0)))))))) = some r := H
 have A4 := Aside0.mk A40
 clear A40
 replace H := Option.bind_eq_some_iff.mp H
 obtain ⟨t919, A50, H⟩ := H
 replace H : (if (t919.length : Int) > 0 then (some true) else ((folkmootref08_All.f k l0).bind fun t922 => ((folkmootref08_Writes.f k l1).bind fun t925 => ((folkmootref03_Cut.f k t922 t925).bind fun t928 => (some (decide ((t928.length : Int) > 0))))))) = some r := H
 have A5 := Aside0.mk A50
 clear A50
 by_cases c6 : (t919.length : Int) > 0
 ·rw [if_pos c6] at H
  have c6b0 : decide (0 < (t919.length : Int)) = true := decide_eq_true c6
  have c6b1 : decide (0 < t919.length) = true := decide_eq_true (by omega)
  clear c6;obtain rfl := Option.some.inj H
  go_enter Tryz.func47, Tryz.ntmps47
  go_wp2_with (first | ((with_reducible refine gate_callee (f := 44) rfl ?_); refine goesL_ (some 6) rfl rfl Tryz.func44 (by kernel_rfl) rfl #[.slice A0 l0.length c0] rfl (by (try simp only [List.map_toArray, List.map_cons, List.map_nil]); first | done | rfl | (simp only [List.length_drop, List.length_take]; rfl)) ?_; (with_reducible refine (folkmootref08_Writes.calls k _ _ l0 t913 _ ?side1 ?side2 A3.out).mono ?_); (case side1 => repeat (first | exact HR0.out | (with_reducible refine Kd.C_alloc ?_ _) | (with_reducible refine Kd.C_drewN ?_ _) | (with_reducible refine Kd.C_drew ?_))); (case side2 => exact HC0.out); rintro e w7 ⟨v914, rfl, ho0, hb⟩; refine ⟨_, rfl, ?_⟩; have n0_ := Aside0.mk (Kd.R_lower ho0 (below_size bB_)); have n1_ := Aside0.mk (below_step bB_ hb); clear HB; have HO915 := n0_; have HB := n1_; clear n0_ n1_; (try clear hb); (try clear hb2); (try clear hk); (try clear hi); (try clear ho0)) | ((with_reducible refine gate_callee (f := 45) rfl ?_); refine goesL_ (some 8) rfl rfl Tryz.func45 (by kernel_rfl) rfl #[.slice A1 l1.length c1] rfl (by (try simp only [List.map_toArray, List.map_cons, List.map_nil]); first | done | rfl | (simp only [List.length_drop, List.length_take]; rfl)) ?_; (with_reducible refine (folkmootref08_All.calls k _ _ l1 t916 _ ?side1 ?side2 A4.out).mono ?_); (case side1 => repeat (first | exact (Kd.C_below HR1.out HB.out) | (with_reducible refine Kd.C_alloc ?_ _) | (with_reducible refine Kd.C_drewN ?_ _) | (with_reducible refine Kd.C_drew ?_))); (case side2 => exact HC1.out); rintro e w8 ⟨v917, rfl, ho0, hb⟩; refine ⟨_, rfl, ?_⟩; have n0_ := Aside0.mk (Kd.R_elder' (rR_ HO915.out) (Kd.R_base ho0) hb); have n1_ := Aside0.mk (Kd.R_lower (Kd.R_new' ho0 (Kd.R_lt (rR_ HO915.out))) (below_size bB_)); have n2_ := Aside0.mk (below_step bB_ hb); clear HO915; clear HB; have HO915 := n0_; have HO918 := n1_; have HB := n2_; clear n0_ n1_ n2_; (try clear hb); (try clear hb2); (try clear hk); (try clear hi); (try clear ho0); obtain ⟨Ao9, co9, eo9⟩ := Kd.R_slice HO915.out; subst eo9; obtain ⟨Ao10, co10, eo10⟩ := Kd.R_slice HO918.out; subst eo10) | ((with_reducible refine gate_callee (f := 91) rfl ?_); refine goesL_ (some 9) rfl rfl Tryz.func91 (by kernel_rfl) rfl #[.slice Ao9 t913.length co9, .slice Ao10 t916.length co10] rfl (by (try simp only [List.map_toArray, List.map_cons, List.map_nil]); first | done | rfl | (simp only [List.length_drop, List.length_take]; rfl)) ?_; (with_reducible refine (folkmootref03_Cut.calls k _ _ t913 _ _ t916 t919 _ ?side1 ?side2 ?side3 ?side4 A5.out).mono ?_); (case side1 => repeat (first | exact (Kd.R_reads' HO915.out).2.2 | (with_reducible refine Kd.C_alloc ?_ _) | (with_reducible refine Kd.C_drewN ?_ _) | (with_reducible refine Kd.C_drew ?_))); (case side2 => exact (Kd.R_reads' HO915.out).2.1); (case side3 => repeat (first | exact (Kd.R_reads' HO918.out).2.2 | (with_reducible refine Kd.C_alloc ?_ _) | (with_reducible refine Kd.C_drewN ?_ _) | (with_reducible refine Kd.C_drew ?_))); (case side4 => exact (Kd.R_reads' HO918.out).2.1); rintro e w11 ⟨v920, rfl, ho0, hb⟩; refine ⟨_, rfl, ?_⟩; have n0_ := Aside0.mk (Kd.R_elder' (rR_ HO915.out) (Kd.R_base ho0) hb); have n1_ := Aside0.mk (Kd.R_elder' (rR_ HO918.out) (Kd.R_base ho0) hb); have n2_ := Aside0.mk (Kd.R_lower (Kd.R_new' (Kd.R_new' ho0 (Kd.R_lt (rR_ HO915.out))) (Kd.R_lt (rR_ HO918.out))) (below_size bB_)); have n3_ := Aside0.mk (below_step bB_ hb); clear HO915; clear HO918; clear HB; have HO915 := n0_; have HO918 := n1_; have HO921 := n2_; have HB := n3_; clear n0_ n1_ n2_ n3_; (try clear hb); (try clear hb2); (try clear hk); (try clear hi); (try clear ho0); obtain ⟨Ao12, co12, eo12⟩ := Kd.R_slice HO921.out; subst eo12))
  go_ret
  exact ⟨by first | rfl | (rw [bl_gt] <;> rfl) | (simp [errW_none, errW_some] <;> rfl) | (simp [*, errW_none, errW_some] <;> rfl), bB_⟩
 ·rw [if_neg c6] at H
  have c6b0 : decide (0 < (t919.length : Int)) = false := decide_eq_false c6
  have c6b1 : decide (0 < t919.length) = false := decide_eq_false (by omega)
  clear c6
  replace H := Option.bind_eq_some_iff.mp H
  obtain ⟨t922, A130, H⟩ := H
  replace H : ((folkmootref08_Writes.f k l1).bind fun t925 => ((folkmootref03_Cut.f k t922 t925).bind fun t928 => (some (decide ((t928.length : Int) > 0))))) = some r := H
  have A13 := Aside0.mk A130
  clear A130
  replace H := Option.bind_eq_some_iff.mp H
  obtain ⟨t925, A140, H⟩ := H
  replace H : ((folkmootref03_Cut.f k t922 t925).bind fun t928 => (some (decide ((t928.length : Int) > 0)))) = some r := H
  have A14 := Aside0.mk A140
  clear A140
  replace H := Option.bind_eq_some_iff.mp H
  obtain ⟨t928, A150, H⟩ := H
  replace H : (some (decide ((t928.length : Int) > 0))) = some r := H
  have A15 := Aside0.mk A150
  clear A150;obtain rfl := Option.some.inj H
  go_enter Tryz.func47, Tryz.ntmps47
  go_wp2_with (first | ((with_reducible refine gate_callee (f := 44) rfl ?_); refine goesL_ (some 6) rfl rfl Tryz.func44 (by kernel_rfl) rfl #[.slice A0 l0.length c0] rfl (by (try simp only [List.map_toArray, List.map_cons, List.map_nil]); first | done | rfl | (simp only [List.length_drop, List.length_take]; rfl)) ?_; (with_reducible refine (folkmootref08_Writes.calls k _ _ l0 t913 _ ?side1 ?side2 A3.out).mono ?_); (case side1 => repeat (first | exact HR0.out | (with_reducible refine Kd.C_alloc ?_ _) | (with_reducible refine Kd.C_drewN ?_ _) | (with_reducible refine Kd.C_drew ?_))); (case side2 => exact HC0.out); rintro e w16 ⟨v914, rfl, ho0, hb⟩; refine ⟨_, rfl, ?_⟩; have n0_ := Aside0.mk (Kd.R_lower ho0 (below_size bB_)); have n1_ := Aside0.mk (below_step bB_ hb); clear HB; have HO915 := n0_; have HB := n1_; clear n0_ n1_; (try clear hb); (try clear hb2); (try clear hk); (try clear hi); (try clear ho0)) | ((with_reducible refine gate_callee (f := 45) rfl ?_); refine goesL_ (some 8) rfl rfl Tryz.func45 (by kernel_rfl) rfl #[.slice A1 l1.length c1] rfl (by (try simp only [List.map_toArray, List.map_cons, List.map_nil]); first | done | rfl | (simp only [List.length_drop, List.length_take]; rfl)) ?_; (with_reducible refine (folkmootref08_All.calls k _ _ l1 t916 _ ?side1 ?side2 A4.out).mono ?_); (case side1 => repeat (first | exact (Kd.C_below HR1.out HB.out) | (with_reducible refine Kd.C_alloc ?_ _) | (with_reducible refine Kd.C_drewN ?_ _) | (with_reducible refine Kd.C_drew ?_))); (case side2 => exact HC1.out); rintro e w17 ⟨v917, rfl, ho0, hb⟩; refine ⟨_, rfl, ?_⟩; have n0_ := Aside0.mk (Kd.R_elder' (rR_ HO915.out) (Kd.R_base ho0) hb); have n1_ := Aside0.mk (Kd.R_lower (Kd.R_new' ho0 (Kd.R_lt (rR_ HO915.out))) (below_size bB_)); have n2_ := Aside0.mk (below_step bB_ hb); clear HO915; clear HB; have HO915 := n0_; have HO918 := n1_; have HB := n2_; clear n0_ n1_ n2_; (try clear hb); (try clear hb2); (try clear hk); (try clear hi); (try clear ho0); obtain ⟨Ao18, co18, eo18⟩ := Kd.R_slice HO915.out; subst eo18; obtain ⟨Ao19, co19, eo19⟩ := Kd.R_slice HO918.out; subst eo19) | ((with_reducible refine gate_callee (f := 91) rfl ?_); refine goesL_ (some 9) rfl rfl Tryz.func91 (by kernel_rfl) rfl #[.slice Ao18 t913.length co18, .slice Ao19 t916.length co19] rfl (by (try simp only [List.map_toArray, List.map_cons, List.map_nil]); first | done | rfl | (simp only [List.length_drop, List.length_take]; rfl)) ?_; (with_reducible refine (folkmootref03_Cut.calls k _ _ t913 _ _ t916 t919 _ ?side1 ?side2 ?side3 ?side4 A5.out).mono ?_); (case side1 => repeat (first | exact (Kd.R_reads' HO915.out).2.2 | (with_reducible refine Kd.C_alloc ?_ _) | (with_reducible refine Kd.C_drewN ?_ _) | (with_reducible refine Kd.C_drew ?_))); (case side2 => exact (Kd.R_reads' HO915.out).2.1); (case side3 => repeat (first | exact (Kd.R_reads' HO918.out).2.2 | (with_reducible refine Kd.C_alloc ?_ _) | (with_reducible refine Kd.C_drewN ?_ _) | (with_reducible refine Kd.C_drew ?_))); (case side4 => exact (Kd.R_reads' HO918.out).2.1); rintro e w20 ⟨v920, rfl, ho0, hb⟩; refine ⟨_, rfl, ?_⟩; have n0_ := Aside0.mk (Kd.R_elder' (rR_ HO915.out) (Kd.R_base ho0) hb); have n1_ := Aside0.mk (Kd.R_elder' (rR_ HO918.out) (Kd.R_base ho0) hb); have n2_ := Aside0.mk (Kd.R_lower (Kd.R_new' (Kd.R_new' ho0 (Kd.R_lt (rR_ HO915.out))) (Kd.R_lt (rR_ HO918.out))) (below_size bB_)); have n3_ := Aside0.mk (below_step bB_ hb); clear HO915; clear HO918; clear HB; have HO915 := n0_; have HO918 := n1_; have HO921 := n2_; have HB := n3_; clear n0_ n1_ n2_ n3_; (try clear hb); (try clear hb2); (try clear hk); (try clear hi); (try clear ho0); obtain ⟨Ao21, co21, eo21⟩ := Kd.R_slice HO921.out; subst eo21) | (go_at_call 45; (with_reducible refine (folkmootref08_All.calls k _ _ l0 t922 _ ?side1 ?side2 A13.out).mono ?_); (case side1 => repeat (first | exact (Kd.C_below HR0.out HB.out) | (with_reducible refine Kd.C_alloc ?_ _) | (with_reducible refine Kd.C_drewN ?_ _) | (with_reducible refine Kd.C_drew ?_))); (case side2 => exact HC0.out); rintro e w22 ⟨v923, rfl, ho0, hb⟩; have n0_ := Aside0.mk (Kd.R_elder' (rR_ HO915.out) (Kd.R_base ho0) hb); have n1_ := Aside0.mk (Kd.R_elder' (rR_ HO918.out) (Kd.R_base ho0) hb); have n2_ := Aside0.mk (Kd.R_elder' (rR_ HO921.out) (Kd.R_base ho0) hb); have n3_ := Aside0.mk (Kd.R_lower (Kd.R_new' (Kd.R_new' (Kd.R_new' ho0 (Kd.R_lt (rR_ HO915.out))) (Kd.R_lt (rR_ HO918.out))) (Kd.R_lt (rR_ HO921.out))) (below_size bB_)); have n4_ := Aside0.mk (below_step bB_ hb); clear HO915; clear HO918; clear HO921; clear HB; have HO915 := n0_; have HO918 := n1_; have HO921 := n2_; have HO924 := n3_; have HB := n4_; clear n0_ n1_ n2_ n3_ n4_; (try clear hb); (try clear hb2); (try clear hk); (try clear hi); (try clear ho0)) | (go_at_call 44; (with_reducible refine (folkmootref08_Writes.calls k _ _ l1 t925 _ ?side1 ?side2 A14.out).mono ?_); (case side1 => repeat (first | exact (Kd.C_below HR1.out HB.out) | (with_reducible refine Kd.C_alloc ?_ _) | (with_reducible refine Kd.C_drewN ?_ _) | (with_reducible refine Kd.C_drew ?_))); (case side2 => exact HC1.out); rintro e w23 ⟨v926, rfl, ho0, hb⟩; have n0_ := Aside0.mk (Kd.R_elder' (rR_ HO915.out) (Kd.R_base ho0) hb); have n1_ := Aside0.mk (Kd.R_elder' (rR_ HO918.out) (Kd.R_base ho0) hb); have n2_ := Aside0.mk (Kd.R_elder' (rR_ HO921.out) (Kd.R_base ho0) hb); have n3_ := Aside0.mk (Kd.R_elder' (rR_ HO924.out) (Kd.R_base ho0) hb); have n4_ := Aside0.mk (Kd.R_lower (Kd.R_new' (Kd.R_new' (Kd.R_new' (Kd.R_new' ho0 (Kd.R_lt (rR_ HO915.out))) (Kd.R_lt (rR_ HO918.out))) (Kd.R_lt (rR_ HO921.out))) (Kd.R_lt (rR_ HO924.out))) (below_size bB_)); have n5_ := Aside0.mk (below_step bB_ hb); clear HO915; clear HO918; clear HO921; clear HO924; clear HB; have HO915 := n0_; have HO918 := n1_; have HO921 := n2_; have HO924 := n3_; have HO927 := n4_; have HB := n5_; clear n0_ n1_ n2_ n3_ n4_ n5_; (try clear hb); (try clear hb2); (try clear hk); (try clear hi); (try clear ho0); obtain ⟨Ao24, co24, eo24⟩ := Kd.R_slice HO924.out; subst eo24; obtain ⟨Ao25, co25, eo25⟩ := Kd.R_slice HO927.out; subst eo25) | (go_at_call 91; (with_reducible refine (folkmootref03_Cut.calls k _ _ t922 _ _ t925 t928 _ ?side1 ?side2 ?side3 ?side4 A15.out).mono ?_); (case side1 => repeat (first | exact (Kd.R_reads' HO924.out).2.2 | (with_reducible refine Kd.C_alloc ?_ _) | (with_reducible refine Kd.C_drewN ?_ _) | (with_reducible refine Kd.C_drew ?_))); (case side2 => exact (Kd.R_reads' HO924.out).2.1); (case side3 => repeat (first | exact (Kd.R_reads' HO927.out).2.2 | (with_reducible refine Kd.C_alloc ?_ _) | (with_reducible refine Kd.C_drewN ?_ _) | (with_reducible refine Kd.C_drew ?_))); (case side4 => exact (Kd.R_reads' HO927.out).2.1); rintro e w26 ⟨v929, rfl, ho0, hb⟩; have n0_ := Aside0.mk (Kd.R_elder' (rR_ HO915.out) (Kd.R_base ho0) hb); have n1_ := Aside0.mk (Kd.R_elder' (rR_ HO918.out) (Kd.R_base ho0) hb); have n2_ := Aside0.mk (Kd.R_elder' (rR_ HO921.out) (Kd.R_base ho0) hb); have n3_ := Aside0.mk (Kd.R_elder' (rR_ HO924.out) (Kd.R_base ho0) hb); have n4_ := Aside0.mk (Kd.R_elder' (rR_ HO927.out) (Kd.R_base ho0) hb); have n5_ := Aside0.mk (Kd.R_lower (Kd.R_new' (Kd.R_new' (Kd.R_new' (Kd.R_new' (Kd.R_new' ho0 (Kd.R_lt (rR_ HO915.out))) (Kd.R_lt (rR_ HO918.out))) (Kd.R_lt (rR_ HO921.out))) (Kd.R_lt (rR_ HO924.out))) (Kd.R_lt (rR_ HO927.out))) (below_size bB_)); have n6_ := Aside0.mk (below_step bB_ hb); clear HO915; clear HO918; clear HO921; clear HO924; clear HO927; clear HB; have HO915 := n0_; have HO918 := n1_; have HO921 := n2_; have HO924 := n3_; have HO927 := n4_; have HO930 := n5_; have HB := n6_; clear n0_ n1_ n2_ n3_ n4_ n5_ n6_; (try clear hb); (try clear hb2); (try clear hk); (try clear hi); (try clear ho0); obtain ⟨Ao27, co27, eo27⟩ := Kd.R_slice HO930.out; subst eo27))
  go_ret
  exact ⟨by first | rfl | (rw [bl_gt] <;> rfl) | (simp [errW_none, errW_some] <;> rfl) | (simp [*, errW_none, errW_some] <;> rfl), bB_⟩
end Go.Proofs.YtgmlenpcchhmbaaGreat.P
end
