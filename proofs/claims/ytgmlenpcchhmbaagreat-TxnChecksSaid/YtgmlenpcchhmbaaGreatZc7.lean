/- what the claim's row stands on, part 7. -/
import Derived.Test.YtgmlenpcchhmbaaGreatZc6
import Derived.Test.YtgmlenpcchhmbaaGreatZc3
import Derived.Test.YtgmlenpcchhmbaaGreatZc4
import Derived.Test.YtgmlenpcchhmbaaGreatZc5
import Derived.Test.YtgmlenpcchhmbaaGreatZc1
import Derived.Test.YtgmlenpcchhmbaaGreatZc2
section
set_option linter.unusedVariables false
set_option linter.unusedSimpArgs false
namespace Go.Proofs.YtgmlenpcchhmbaaGreat.P
open Go.RowKit Go.Sort Go.Shelf Go.Proofs.YtgmlenpcchhmbaaGreatW.PrintWords Go.Proofs.YtgmlenpcchhmbaaGreatW.PrintLast Go.Proofs.YtgmlenpcchhmbaaGreatW.PrintMore
set_option linter.unnecessarySimpa false
theorem C_blk {α : Type} (d : Kd α) {W : World} {g : Nat} {t : TypeId} {cs : Array Value} {xs : List α} (h : Blk W g t cs) (hl : xs.length ≤ 9223372036854775807)
    (hr : ∀ j p, xs[j]? = some p → ∃ c, c.length = d.sz ∧ d.K W p c ∧ ∀ i u, c[i]? = some u → cs[j * d.sz + i]? = some u) : Kd.C d W (some ⟨g, 0, none⟩) xs.length xs := by
  refine ⟨rfl, hl, fun _ => ⟨_, rfl, fun j p hj => ?_⟩⟩
  obtain ⟨c, h1, h2, h3⟩ := hr j p hj
  refine ⟨c, h1, h2, fun i u hu => ?_⟩
  rw [add_plain, h.cell]
  exact h3 i u hu
def sa : ByteArray := ⟨#[97]⟩
def sb : ByteArray := ⟨#[98]⟩
def se : ByteArray := ⟨#[]⟩
def lOps : List S63 := [⟨4, sa, se, rOfN 5⟩, ⟨6, sa, sb, rOfN 3⟩, ⟨1, sb, se, 0⟩]
def lWs : List S69 := [⟨sa, rOfN 2, false⟩, ⟨sb, rOfN 3, false⟩]
def lAs : List S65 := [⟨false, rOfN 5, []⟩, ⟨true, 0, []⟩, ⟨true, rOfN 3, []⟩]
theorem C_lOps (W : World) (g : Nat) (h : Blk W g 63 #[.int .i64 4, .string sa, .string se, .int .u64 (rOfN 5), .int .i64 6, .string sa, .string sb, .int .u64 (rOfN 3), .int .i64 1, .string sb, .string se, .int .u64 0]) : Kd.C k63 W (some ⟨g, 0, none⟩) lOps.length lOps := by
  refine C_blk k63 h (by decide) fun j p hj => ⟨_, rfl, k63_mk W p, fun i u hu => ?_⟩
  rcases j with _ | _ | _ | j <;> simp [lOps] at hj <;> subst hj <;> rcases i with _ | _ | _ | _ | i <;> simpa [show k63.sz = 4 from rfl] using hu
theorem C_lWs (W : World) (g : Nat) (h : Blk W g 69 #[.string sa, .int .u64 (rOfN 2), .bool false, .string sb, .int .u64 (rOfN 3), .bool false]) : Kd.C k69 W (some ⟨g, 0, none⟩) lWs.length lWs := by
  refine C_blk k69 h (by decide) fun j p hj => ⟨_, rfl, k69_mk W p, fun i u hu => ?_⟩
  rcases j with _ | _ | j <;> simp [lWs] at hj <;> subst hj <;> rcases i with _ | _ | _ | i <;> simpa [show k69.sz = 3 from rfl] using hu
theorem C_lAs (W : World) (g : Nat) (h : Blk W g 65 #[.bool false, .int .u64 (rOfN 5), .slice none 0 0, .bool true, .int .u64 0, .slice none 0 0, .bool true, .int .u64 (rOfN 3), .slice none 0 0]) : Kd.C k65 W (some ⟨g, 0, none⟩) lAs.length lAs := by
  refine C_blk k65 h (by decide) fun j p hj => ?_
  rcases j with _ | _ | _ | j <;> simp [lAs] at hj <;> subst hj
  · exact ⟨_, rfl, k65_mk W ⟨false, rOfN 5, []⟩ (c2 := 0) (by simp) (Kd.C_nil _ _), fun i u hu => by rcases i with _ | _ | _ | i <;> simpa [show k65.sz = 3 from rfl] using hu⟩
  · exact ⟨_, rfl, k65_mk W ⟨true, 0, []⟩ (c2 := 0) (by simp) (Kd.C_nil _ _), fun i u hu => by rcases i with _ | _ | _ | i <;> simpa [show k65.sz = 3 from rfl] using hu⟩
  · exact ⟨_, rfl, k65_mk W ⟨true, rOfN 3, []⟩ (c2 := 0) (by simp) (Kd.C_nil _ _), fun i u hu => by rcases i with _ | _ | _ | i <;> simpa [show k65.sz = 3 from rfl] using hu⟩
theorem live_eval : evalOk lOps [] := by decide +kernel
theorem live_ws : folkmootref08_WritesSame.f 9 (writesT (runS lOps (startT []))) lWs = some true := by decide +kernel
theorem live_as : folkmootref08_Answers.f 9 (runA lOps (startT [])) lAs = some true := by decide +kernel
theorem live_put : txn_Put.f lOps = some (laidOps lOps) := by decide +kernel
theorem live_parse : txn_Parse.f (laidOps lOps) = some (lOps, 0) := by kernel_rfl
theorem live_ops : folkmootref08_Ops.f 9 lOps lOps = some true := by decide +kernel
theorem live_chk : txn_Check.f lOps = some 0 := by decide +kernel
theorem live_nil : txn_Check.f ([] : List S63) = some 80 := by decide +kernel
def bL : List Int := laidOps lOps
def vW : List S69 := writesT (runS lOps (startT []))
def vA : List S65 := runA lOps (startT [])
theorem evC (W : World) : Calls Tryz.prog 26 #[.slice (some ⟨W.heap.size, 0, none⟩) 3 3, .slice none 0 0] (W.alloc (.cells #[.int .i64 4, .string ⟨#[97]⟩, .string ⟨#[]⟩, .int .u64 (rOfN 5), .int .i64 6, .string ⟨#[97]⟩, .string ⟨#[98]⟩, .int .u64 (rOfN 3), .int .i64 1, .string ⟨#[98]⟩, .string ⟨#[]⟩, .int .u64 0] 63)) fun e w' =>
    ∃ A1 c1 A2 c2, e = .returned (.tuple #[.slice A1 vW.length c1, .slice A2 vA.length c2]) ∧ (vW.length ≤ c1 ∧ Kd.C k69 w' A1 vW.length vW ∧ vA.length ≤ c2 ∧ Kd.C k65 w' A2 vA.length vA ∧ Kd.C k63 w' (some ⟨W.heap.size, 0, none⟩) 3 lOps) ∧ Below W.heap.size W w' := by
  have hL := C_lOps (W.alloc (.cells #[.int .i64 4, .string sa, .string se, .int .u64 (rOfN 5), .int .i64 6, .string sa, .string sb, .int .u64 (rOfN 3), .int .i64 1, .string sb, .string se, .int .u64 0] 63)) W.heap.size (Blk.new W 63 _)
  refine (txn_Eval.calls _ 3 lOps none 0 [] vW vA _ hL (by decide) (Kd.C_nil _ _) (by simp) (by unfold txn_Eval.f; rw [if_pos live_eval]; rfl)).mono ?_
  rintro e w' ⟨v1, v2, rfl, h1, h2, hb⟩
  obtain ⟨A1, c1, rfl⟩ := Kd.R_slice h1
  obtain ⟨A2, c2, rfl⟩ := Kd.S_slice h2
  obtain ⟨_, l1, C1⟩ := Kd.R_reads' h1
  obtain ⟨_, l2, C2⟩ := Kd.S_reads' h2
  exact ⟨A1, c1, A2, c2, rfl, ⟨l1, C1, l2, C2, Kd.C_below hL hb⟩, ((Below.refl _ _).alloc (Nat.le_refl _) _).trans (hb.mono (by simp))⟩
theorem putC (g : Nat) (W : World) (hr : Kd.C k63 W (some ⟨g, 0, none⟩) 3 lOps) : Calls Tryz.prog 22 #[.slice (some ⟨g, 0, none⟩) 3 3] W fun e w' => ∃ A c, e = .returned (.slice A bL.length c) ∧ (bL.length ≤ c ∧ Kd.C (Kd.int .u8) w' A bL.length bL) ∧ Below W.heap.size W w' := by
  refine (txn_Put.calls _ 3 lOps _ _ hr (by decide) live_put).mono ?_
  rintro e w' ⟨v1, rfl, h1, hb⟩
  obtain ⟨A1, c1, rfl, l1, C1⟩ := Kd.R_reads h1
  exact ⟨A1, c1, rfl, ⟨l1, C1⟩, hb⟩
theorem parseC (A : Option Addr) (c : Nat) (W : World) (hc : bL.length ≤ c) (hr : Kd.C (Kd.int .u8) W A bL.length bL) : Calls Tryz.prog 15 #[.slice A bL.length c] W fun e w' => ∃ A' c', e = .returned (.tuple #[.slice A' 3 c', .int .i64 0]) ∧ (3 ≤ c' ∧ Kd.C k63 w' A' 3 lOps) ∧ Below W.heap.size W w' := by
  refine (txn_Parse.calls A c bL lOps 0 _ hr hc live_parse).mono ?_
  rintro e w' ⟨v1, rfl, h1, hb⟩
  obtain ⟨A1, c1, rfl, l1, C1⟩ := Kd.R_reads h1
  exact ⟨A1, c1, rfl, ⟨l1, C1⟩, hb⟩
theorem chkC (g : Nat) (W : World) (hr : Kd.C k63 W (some ⟨g, 0, none⟩) 3 lOps) : Calls Tryz.prog 18 #[.slice (some ⟨g, 0, none⟩) 3 3] W fun e w' => e = .returned (.int .i64 0) ∧ Below W.heap.size W w' :=
  txn_Check.calls _ 3 lOps _ _ hr (by decide) live_chk
theorem chkN (W : World) : Calls Tryz.prog 18 #[.slice none 0 0] W fun e w' => e = .returned (.int .i64 80) ∧ Below W.heap.size W w' :=
  txn_Check.calls none 0 [] _ _ (Kd.C_nil _ _) (by decide) live_nil
theorem wsC (A : Option Addr) (c : Nat) (W : World) (hc : vW.length ≤ c) (hr : Kd.C k69 W A vW.length vW) : Calls Tryz.prog 29 #[.slice A vW.length c, .slice (some ⟨W.heap.size, 0, none⟩) 2 2] (W.alloc (.cells #[.string ⟨#[97]⟩, .int .u64 (rOfN 2), .bool false, .string ⟨#[98]⟩, .int .u64 (rOfN 3), .bool false] 69)) fun e w' => e = .returned (.bool true) ∧ Below W.heap.size W w' := by
  have hL := C_lWs (W.alloc (.cells #[.string sa, .int .u64 (rOfN 2), .bool false, .string sb, .int .u64 (rOfN 3), .bool false] 69)) W.heap.size (Blk.new W 69 _)
  exact (folkmootref08_WritesSame.calls 9 A c vW _ 2 lWs true _ (Kd.C_alloc hr _) hc hL (by decide) live_ws).mono fun e w' ⟨he, hd⟩ => ⟨he, ((Below.refl _ _).alloc (Nat.le_refl _) _).trans (hd.below.mono (by simp))⟩
theorem ansC (A : Option Addr) (c : Nat) (W : World) (hc : vA.length ≤ c) (hr : Kd.C k65 W A vA.length vA) : Calls Tryz.prog 30 #[.slice A vA.length c, .slice (some ⟨W.heap.size, 0, none⟩) 3 3] (W.alloc (.cells #[.bool false, .int .u64 (rOfN 5), .slice none 0 0, .bool true, .int .u64 0, .slice none 0 0, .bool true, .int .u64 (rOfN 3), .slice none 0 0] 65)) fun e w' => e = .returned (.bool true) ∧ Below W.heap.size W w' := by
  have hL := C_lAs (W.alloc (.cells #[.bool false, .int .u64 (rOfN 5), .slice none 0 0, .bool true, .int .u64 0, .slice none 0 0, .bool true, .int .u64 (rOfN 3), .slice none 0 0] 65)) W.heap.size (Blk.new W 65 _)
  exact (folkmootref08_Answers.calls 9 A c vA _ 3 lAs true _ (Kd.C_alloc hr _) hc hL (by decide) live_as).mono fun e w' ⟨he, hd⟩ => ⟨he, ((Below.refl _ _).alloc (Nat.le_refl _) _).trans (hd.mono (by simp))⟩
theorem opsC (A : Option Addr) (c g : Nat) (W : World) (hc : 3 ≤ c) (hr : Kd.C k63 W A 3 lOps) (hr' : Kd.C k63 W (some ⟨g, 0, none⟩) 3 lOps) : Calls Tryz.prog 21 #[.slice A 3 c, .slice (some ⟨g, 0, none⟩) 3 3] W fun e w' => e = .returned (.bool true) ∧ Below W.heap.size W w' :=
  (folkmootref08_Ops.calls 9 A c lOps _ 3 lOps true _ hr hc hr' (by decide) live_ops).mono fun e w' ⟨he, hd⟩ => ⟨he, hd.below⟩
def folkmootlaw08_live.f : Option Bool := some true
set_option maxHeartbeats 8000000 in
set_option maxRecDepth 100000 in
theorem folkmootlaw08_live.calls (r : Bool) (w : World) (h : folkmootlaw08_live.f = some r) : Calls Tryz.prog 14 #[] w fun e w' => e = .returned (.bool r) ∧ Below w.heap.size w w' := by
  injection h with h
  subst h
  have HO := Lib.hid (fun (a : Int) (W : World) => folkmootref07_Of.calls a _ W rfl)
  have HN := Lib.hid (fun (a : Int) (W : World) => folkmootlaw08_num.calls a _ W rfl)
  have H0 := Lib.hid (Below.refl w.heap.size w)
  go_enter Tryz.func14, Tryz.ntmps14
  go_wp2_with fail
  refine (HO.out 5 _).mono ?_
  rintro e w1 ⟨rfl, hb⟩
  have H1 := Lib.hid (hb.below); clear hb
  go_wp2_with fail
  refine (HO.out 3 _).mono ?_
  rintro e w2 ⟨rfl, hb⟩
  have H2 := Lib.hid (hb.below); clear hb
  go_wp2_with fail
  refine (evC _).mono ?_
  rintro e w3 ⟨A1, c1, A2, c2, rfl, he_, hb⟩
  have H3 := Lib.hid (hb); clear hb
  have HE := Lib.hid he_; clear he_
  go_wp2_with fail
  refine (putC _ _ (HE.out.2.2.2.2)).mono ?_
  rintro e w4 ⟨A3, c3, rfl, hp_, hb⟩
  have H4 := Lib.hid (hb); clear hb
  have HP := Lib.hid hp_; clear hp_
  go_wp2_with fail
  refine (parseC A3 c3 _ HP.out.1 HP.out.2).mono ?_
  rintro e w5 ⟨A4, c4, rfl, hq_, hb⟩
  have H5 := Lib.hid (hb); clear hb
  have HQ := Lib.hid hq_; clear hq_
  go_wp2_with fail
  refine (chkC _ _ (Kd.C_below (Kd.C_below (HE.out.2.2.2.2) H4.out) H5.out)).mono ?_
  rintro e w6 ⟨rfl, hb⟩
  have H6 := Lib.hid (hb); clear hb
  go_wp2_with fail
  refine (HN.out 0 _).mono ?_
  rintro e w7 ⟨rfl, hb⟩
  have H7 := Lib.hid (hb.below); clear hb
  go_wp2_with fail
  refine (HO.out 2 _).mono ?_
  rintro e w8 ⟨rfl, hb⟩
  have H8 := Lib.hid (hb.below); clear hb
  go_wp2_with fail
  refine (HO.out 3 _).mono ?_
  rintro e w9 ⟨rfl, hb⟩
  have H9 := Lib.hid (hb.below); clear hb
  go_wp2_with fail
  refine (wsC A1 c1 _ HE.out.1 (Kd.C_below (Kd.C_below (Kd.C_below (Kd.C_below (Kd.C_below (Kd.C_below (HE.out.2.1) H4.out) H5.out) H6.out) H7.out) H8.out) H9.out)).mono ?_
  rintro e w10 ⟨rfl, hb⟩
  have H10 := Lib.hid (hb); clear hb
  go_wp2_with fail
  refine (HO.out 5 _).mono ?_
  rintro e w11 ⟨rfl, hb⟩
  have H11 := Lib.hid (hb.below); clear hb
  go_wp2_with fail
  refine (HO.out 3 _).mono ?_
  rintro e w12 ⟨rfl, hb⟩
  have H12 := Lib.hid (hb.below); clear hb
  go_wp2_with fail
  refine (ansC A2 c2 _ HE.out.2.2.1 (Kd.C_below (Kd.C_below (Kd.C_below (Kd.C_below (Kd.C_below (Kd.C_below (Kd.C_below (Kd.C_below (Kd.C_below (HE.out.2.2.2.1) H4.out) H5.out) H6.out) H7.out) H8.out) H9.out) H10.out) H11.out) H12.out)).mono ?_
  rintro e w13 ⟨rfl, hb⟩
  have H13 := Lib.hid (hb); clear hb
  go_wp2_with fail
  refine (HN.out 0 _).mono ?_
  rintro e w14 ⟨rfl, hb⟩
  have H14 := Lib.hid (hb.below); clear hb
  go_wp2_with fail
  refine (opsC A4 c4 _ _ HQ.out.1 (Kd.C_below (Kd.C_below (Kd.C_below (Kd.C_below (Kd.C_below (Kd.C_below (Kd.C_below (Kd.C_below (Kd.C_below (HQ.out.2) H6.out) H7.out) H8.out) H9.out) H10.out) H11.out) H12.out) H13.out) H14.out) (Kd.C_below (Kd.C_below (Kd.C_below (Kd.C_below (Kd.C_below (Kd.C_below (Kd.C_below (Kd.C_below (Kd.C_below (Kd.C_below (Kd.C_below (HE.out.2.2.2.2) H4.out) H5.out) H6.out) H7.out) H8.out) H9.out) H10.out) H11.out) H12.out) H13.out) H14.out)).mono ?_
  rintro e w15 ⟨rfl, hb⟩
  have H15 := Lib.hid (hb); clear hb
  go_wp2_with fail
  refine (chkN _).mono ?_
  rintro e w16 ⟨rfl, hb⟩
  have H16 := Lib.hid (hb); clear hb
  go_wp2_with fail
  refine (HN.out 80 _).mono ?_
  rintro e w17 ⟨rfl, hb⟩
  have H17 := Lib.hid (hb.below); clear hb
  go_wp2_with fail
  go_ret
  have X0 := H0.out
  have X1 := X0.trans (H1.out.mono X0.size)
  have X2 := X1.trans (H2.out.mono X1.size)
  have X3 := X2.trans (H3.out.mono X2.size)
  have X4 := X3.trans (H4.out.mono X3.size)
  have X5 := X4.trans (H5.out.mono X4.size)
  have X6 := X5.trans (H6.out.mono X5.size)
  have X7 := X6.trans (H7.out.mono X6.size)
  have X8 := X7.trans (H8.out.mono X7.size)
  have X9 := X8.trans (H9.out.mono X8.size)
  have X10 := X9.trans (H10.out.mono X9.size)
  have X11 := X10.trans (H11.out.mono X10.size)
  have X12 := X11.trans (H12.out.mono X11.size)
  have X13 := X12.trans (H13.out.mono X12.size)
  have X14 := X13.trans (H14.out.mono X13.size)
  have X15 := X14.trans (H15.out.mono X14.size)
  have X16 := X15.trans (H16.out.mono X15.size)
  have X17 := X16.trans (H17.out.mono X16.size)
  exact ⟨rfl, X17⟩
end Go.Proofs.YtgmlenpcchhmbaaGreat.P
end
section
set_option linter.unusedVariables false
set_option linter.unusedSimpArgs false
namespace Go.Proofs.YtgmlenpcchhmbaaGreat.P
open Go.RowKit Go.Proofs.YtgmlenpcchhmbaaGreatW.PrintWords Go.Proofs.YtgmlenpcchhmbaaGreatW.PrintLast Go.Proofs.YtgmlenpcchhmbaaGreatW.PrintMore
instance {V : Type} (l : List (ByteArray × V)) : Decidable (SortK l) := inferInstanceAs (Decidable (List.Pairwise _ _))
end Go.Proofs.YtgmlenpcchhmbaaGreat.P
end
section
set_option linter.unusedVariables false
set_option linter.unusedSimpArgs false
namespace Go.Proofs.YtgmlenpcchhmbaaGreat.P
open Go.RowKit Go.Proofs.YtgmlenpcchhmbaaGreatW.PrintWords Go.Proofs.YtgmlenpcchhmbaaGreatW.PrintLast
theorem ev_live : Ev (fun _ => (folkmootlaw08_live.f).bind fun t => (some t)) true := Ev.some _
structure TxIn (l : List S63) (d : List S61) : Prop where
  len : l.length ≤ 8
  ops : ∀ o ∈ l, isT o = true
  dl : d.length ≤ 60
  dt : dataT d
theorem isT_key {o : S63} (h : isT o = true) : o.f1.size ≤ 16 ∧ o.f2.size ≤ 16 := by
  have hk : ∀ {k : ByteArray}, keyT k = true → k.size ≤ 16 := fun h => by
    unfold keyT at h
    simp only [Bool.and_eq_true, decide_eq_true_eq] at h
    exact h.2
  have he : emptyB.size ≤ 16 := by decide
  unfold isT at h
  simp only [Bool.and_eq_true] at h
  refine ⟨hk h.1.1, ?_⟩
  have h2 := h.2
  split at h2
  · simp only [Bool.and_eq_true, decide_eq_true_eq] at h2; rw [h2.1]; exact he
  · split at h2
    · simp only [decide_eq_true_eq] at h2; rw [h2]; exact he
    · split at h2
      · simp only [Bool.and_eq_true, Bool.or_eq_true, decide_eq_true_eq] at h2
        rcases h2.2 with e | e
        · rw [e]; exact he
        · exact hk e.1
      · split at h2
        · simp only [Bool.and_eq_true] at h2; exact hk h2.1
        · cases h2
theorem chk_of {l : List S63} (h : checkT l = 0) : l.length ≤ 8 ∧ ∀ o ∈ l, isT o = true := by
  unfold checkT at h
  split at h
  · omega
  · rename_i h1
    split at h
    · omega
    · rename_i h2
      refine ⟨by omega, fun o ho => ?_⟩
      by_cases h3 : isT o = true
      · exact h3
      · exact absurd (.inr (List.any_eq_true.2 ⟨o, ho, by simpa using h3⟩)) h2
end Go.Proofs.YtgmlenpcchhmbaaGreat.P
end
section
set_option linter.unusedVariables false
set_option linter.unusedSimpArgs false
namespace Go.Proofs.YtgmlenpcchhmbaaGreat.P
open Go.RowKit Go.Proofs.YtgmlenpcchhmbaaGreatW.PrintWords Go.Proofs.YtgmlenpcchhmbaaGreatW.PrintLast Go.Proofs.YtgmlenpcchhmbaaGreatW.PrintMore
attribute [local go_sem] max2_int min2_int max_two min_two max_three min_three max_four min_four   -- for this text's walks alone
mutual
def folkmootlaw08_TxnChecks.j0 : Nat → List (S63) → List Int → Bool → Option (Bool)
 | 0, _, _, _ => none
 | k + 1, x0, x1, x19 => if x19 = true then ((folkmootlaw08_live.f).bind fun t299 => (some t299)) else ((some (([] : List Int) : List Int)).bind fun y300 => (if y300.length + x1.length < 140737488355328 then ((txn_Parse.f (y300 ++ x1)).bind fun bt306 => ((folkmootref08_Parse.f x1).bind fun bt310 => ((folkmootlaw08_ops.f x0).bind fun t314 => ((txn_Check.f t314).bind fun t317 => ((folkmootlaw08_num.f t317).bind fun t318 => ((folkmootref08_Check.f k x0).bind fun t319 => (if t318 = t319 then ((folkmootref08_Ops.f k bt306.1 bt310.1).bind fun t320 => (if t320 = true then ((folkmootlaw08_num.f bt306.2).bind fun t321 => (folkmootlaw08_TxnChecks.j1 k x0 (t321 != bt310.2))) else (folkmootlaw08_TxnChecks.j1 k x0 true))) else (folkmootlaw08_TxnChecks.j1 k x0 true)))))))) else (none)))
def folkmootlaw08_TxnChecks.j1 : Nat → List (S63) → Bool → Option (Bool)
 | 0, _, _ => none
 | k + 1, x0, x51 => if x51 = true then (some false) else ((folkmootref08_Check.f k x0).bind fun t322 => (if t322 = 0 then ((folkmootlaw08_ops.f x0).bind fun t324 => ((txn_Put.f t324).bind fun t327 => ((txn_Parse.f t327).bind fun bt330 => ((folkmootref08_Lay.f ([] : List Int) x0).bind fun t334 => (if (strOfNums t327).toList = (strOfNums t334).toList then ((folkmootlaw08_num.f bt330.2).bind fun t337 => (if t337 = 0 then ((folkmootref08_Ops.f k bt330.1 x0).bind fun t338 => (if t338 = true then ((folkmootlaw08_live.f).bind fun t339 => (some t339)) else (some false))) else (some false))) else (some false)))))) else ((folkmootlaw08_live.f).bind fun t323 => (some t323))))
end
def folkmootlaw08_TxnChecks.f (k : Nat) (l0 : List (S63)) (l1 : List Int) : Option (Bool) := (folkmootlaw08_small.f k l0 ([] : List (S61))).bind fun t298 => (if t298 = true then (folkmootlaw08_TxnChecks.j0 k l0 l1 (decide ((l1.length : Int) > 6000))) else (folkmootlaw08_TxnChecks.j0 k l0 l1 true))
def folkmootlaw08_TxnChecks.T11 : Bool × List (List Nat × List Nat) := (true, [([], []), ([0], [0]), ([], []), ([2], [2]), ([3], [3]), ([1, 4], [1, 4]), ([5, 3], [5]), ([6], [6]), ([7, 6, 6], [6, 7]), ([8, 6], [6, 8]), ([6, 9], [6, 9]), ([10, 8], [10]), ([11], [11]), ([11], [11]), ([12, 13, 11, 11], [11, 12, 13]), ([11, 14], [11, 14]), ([15, 14], [15]), ([16, 16], [16]), ([16, 17], [16, 17]), ([18, 17, 0, 1, 2, 3, 4, 5, 6, 7, 8, 9, 10, 11, 12, 13, 14, 15, 16, 17, 18], [18])])
def folkmootlaw08_TxnChecks.B11 : List Nat := [0, 1, 0, 4, 12, 31, 63, 127, 255, 511, 1023, 2047, 4095, 4095, 16383, 32767, 65535, 131071, 262143, 524287]
theorem folkmootlaw08_TxnChecks.tab11 : rtab .any (opsOf Tryz.f3 11) = folkmootlaw08_TxnChecks.T11 := by kernel_rfl
theorem folkmootlaw08_TxnChecks.bits11 : waitsOk folkmootlaw08_TxnChecks.T11.2 folkmootlaw08_TxnChecks.B11 = true := by kernel_rfl
set_option maxHeartbeats 8000000 in
set_option maxRecDepth 100000 in
theorem folkmootlaw08_TxnChecks.calls (k : Nat) (A0 : Option Addr) (c0 : Nat) (l0 : List (S63)) (A1 : Option Addr) (c1 : Nat) (l1 : List Int) (r : Bool) (w : World) (hr0 : Kd.C k63 w A0 l0.length l0) (hc0 : l0.length ≤ c0) (hr1 : Kd.C (Kd.int .u8) w A1 l1.length l1) (hc1 : l1.length ≤ c1) (h : folkmootlaw08_TxnChecks.f k l0 l1 = some r) :
  Calls Tryz.prog 3 #[.slice A0 l0.length c0, .slice A1 l1.length c1] w fun e w' => e = .returned (.bool r) ∧ Below w.heap.size w w' := by
 have HR0 := Aside0.mk hr0
 have HC0 := Aside0.mk hc0
 clear hr0 hc0
 have HR1 := Aside0.mk hr1
 have HC1 := Aside0.mk hc1
 clear hr1 hc1
 have HB := Aside0.mk (Below.refl w.heap.size w)
 have H : ((folkmootlaw08_small.f k l0 ([] : List (S61))).bind fun t298 => (if t298 = true then (folkmootlaw08_TxnChecks.j0 k l0 l1 (decide ((l1.length : Int) > 6000))) else (folkmootlaw08_TxnChecks.j0 k l0 l1 true))) = some r := h
 clear h
 have HC3 := Aside0.mk H
 clear H
 go_enter Tryz.func3, Tryz.ntmps3
 go_upto_region 1 with (fail)
 go_cut [19] (fun v19 wc => ∃ (kq : Nat) (x19_2 : Bool), v19 = .bool x19_2 ∧ Aside0 (folkmootlaw08_TxnChecks.j0 kq l0 l1 x19_2 = some r) ∧ Aside0 (kq ≤ k) ∧ Aside0 (Below w.heap.size w wc))
 case first =>
  have H := HC3.out
  clear HC3
  replace H := Option.bind_eq_some_iff.mp H
  obtain ⟨t298, A40, H⟩ := H
  replace H : (if t298 = true then (folkmootlaw08_TxnChecks.j0 k l0 l1 (decide ((l1.length : Int) > 6000))) else (folkmootlaw08_TxnChecks.j0 k l0 l1 true)) = some r := H
  have A4 := Aside0.mk A40
  clear A40
  by_cases c5 : t298 = true
  ·subst c5
   have H1 : (folkmootlaw08_TxnChecks.j0 k l0 l1 (decide ((l1.length : Int) > 6000))) = some r := by rw [if_pos rfl] at H; exact H
   clear H
   have H := H1
   clear H1
   have H' := Aside0.mk H
   clear H
   go_wp2_with (first | ((with_reducible refine gate_callee (f := 13) rfl ?_); refine goesL_ (some 13) rfl rfl Tryz.func13 (by kernel_rfl) rfl #[.slice A0 l0.length c0, .slice none 0 0] rfl (by (try simp only [List.map_toArray, List.map_cons, List.map_nil]); first | done | rfl | (simp only [List.length_drop, List.length_take]; rfl)) ?_; (refine (folkmootlaw08_small.calls k _ _ l0 _ _ ([] : List (S61)) true _ ?side1 ?side2 ?side3 ?side4 A4.out).mono ?_); (case side1 => repeat (first | exact (Kd.C_below HR0.out HB.out) | (with_reducible refine Kd.C_alloc ?_ _) | (with_reducible refine Kd.C_drewN ?_ _) | (with_reducible refine Kd.C_drew ?_))); (case side2 => exact HC0.out); (case side3 => exact Kd.C_nil _ _); (case side4 => exact Nat.le_refl _); rintro e w' ⟨rfl, ⟨nd, rfl⟩⟩; refine ⟨_, rfl, ?_⟩))
   go_meet
   case rel => exact ⟨_, (decide ((l1.length : Int) > 6000)), (by first | rfl | (rw [bl_gt] <;> rfl) | (simp; done) | (simp [*]; done)), H', ⟨by first | omega | exact Nat.le_refl _⟩, ⟨bB_⟩⟩
  ·replace c5 := Bool.eq_false_iff.mpr c5
   subst c5
   have H1 : (folkmootlaw08_TxnChecks.j0 k l0 l1 true) = some r := by rw [if_neg (show ¬ (false = true) by decide)] at H; exact H
   clear H
   have H := H1
   clear H1
   have H' := Aside0.mk H
   clear H
   go_wp2_with (first | ((with_reducible refine gate_callee (f := 13) rfl ?_); refine goesL_ (some 13) rfl rfl Tryz.func13 (by kernel_rfl) rfl #[.slice A0 l0.length c0, .slice none 0 0] rfl (by (try simp only [List.map_toArray, List.map_cons, List.map_nil]); first | done | rfl | (simp only [List.length_drop, List.length_take]; rfl)) ?_; (refine (folkmootlaw08_small.calls k _ _ l0 _ _ ([] : List (S61)) false _ ?side1 ?side2 ?side3 ?side4 A4.out).mono ?_); (case side1 => repeat (first | exact (Kd.C_below HR0.out HB.out) | (with_reducible refine Kd.C_alloc ?_ _) | (with_reducible refine Kd.C_drewN ?_ _) | (with_reducible refine Kd.C_drew ?_))); (case side2 => exact HC0.out); (case side3 => exact Kd.C_nil _ _); (case side4 => exact Nat.le_refl _); rintro e w' ⟨rfl, ⟨nd, rfl⟩⟩; refine ⟨_, rfl, ?_⟩))
   go_meet
   case rel => exact ⟨_, (true), (by first | rfl | (rw [bl_gt] <;> rfl) | (simp; done) | (simp [*]; done)), H', ⟨by first | omega | exact Nat.le_refl _⟩, ⟨bB_⟩⟩
 case rest =>
  clear HC3
  try clear c1
  try clear p2
  try clear c3
  try clear c5
  obtain ⟨kq, x19_2, rfl, HA, HJ2, HB⟩ := hcut
  cases kq with
  | zero => exact absurd HA.out (by simp [folkmootlaw08_TxnChecks.j0])
  | succ kj2 =>
   have H := HA.out
   clear HA
   simp only [folkmootlaw08_TxnChecks.j0] at H
   by_cases c6 : x19_2 = true
   ·subst c6
    have H1 : ((folkmootlaw08_live.f).bind fun t299 => (some t299)) = some r := by rw [if_pos rfl] at H; exact H
    clear H
    have H := H1
    clear H1
    replace H := Option.bind_eq_some_iff.mp H
    obtain ⟨t299, A70, H⟩ := H
    replace H : (some t299) = some r := H
    have A7 := Aside0.mk A70
    clear A70
    obtain rfl := Option.some.inj H
    go_wp2_with (first | ((with_reducible refine gate_callee (f := 14) rfl ?_); refine goesL_ (some 20) rfl rfl Tryz.func14 (by kernel_rfl) rfl #[] rfl (by (try simp only [List.map_toArray, List.map_cons, List.map_nil]); first | done | rfl | (simp only [List.length_drop, List.length_take]; rfl)) ?_; (with_reducible refine (folkmootlaw08_live.calls  t299 _ A7.out).mono ?_); rintro e w8 ⟨rfl, hb⟩; refine ⟨_, rfl, ?_⟩; have n0_ := Aside0.mk (below_step bB_ hb); clear HB; have HB := n0_; clear n0_; (try clear hb); (try clear hb2); (try clear hk); (try clear hi)))
    go_ret
    exact ⟨by first | rfl | (rw [bl_gt] <;> rfl) | (simp [errW_none, errW_some] <;> rfl) | (simp [*, errW_none, errW_some] <;> rfl), bB_⟩
   ·replace c6 := Bool.eq_false_iff.mpr c6
    subst c6
    have H1 : ((some (([] : List Int) : List Int)).bind fun y300 => (if y300.length + l1.length < 140737488355328 then ((txn_Parse.f (y300 ++ l1)).bind fun bt306 => ((folkmootref08_Parse.f l1).bind fun bt310 => ((folkmootlaw08_ops.f l0).bind fun t314 => ((txn_Check.f t314).bind fun t317 => ((folkmootlaw08_num.f t317).bind fun t318 => ((folkmootref08_Check.f kj2 l0).bind fun t319 => (if t318 = t319 then ((folkmootref08_Ops.f kj2 bt306.1 bt310.1).bind fun t320 => (if t320 = true then ((folkmootlaw08_num.f bt306.2).bind fun t321 => (folkmootlaw08_TxnChecks.j1 kj2 l0 (t321 != bt310.2))) else (folkmootlaw08_TxnChecks.j1 kj2 l0 true))) else (folkmootlaw08_TxnChecks.j1 kj2 l0 true)))))))) else (none))) = some r := by rw [if_neg (show ¬ (false = true) by decide)] at H; exact H
    clear H
    have H := H1
    clear H1
    obtain ⟨y300, hy300⟩ : ∃ y_ : List Int, y_ = (([] : List Int)) := ⟨_, rfl⟩
    replace H : (if y300.length + l1.length < 140737488355328 then ((txn_Parse.f (y300 ++ l1)).bind fun bt306 => ((folkmootref08_Parse.f l1).bind fun bt310 => ((folkmootlaw08_ops.f l0).bind fun t314 => ((txn_Check.f t314).bind fun t317 => ((folkmootlaw08_num.f t317).bind fun t318 => ((folkmootref08_Check.f kj2 l0).bind fun t319 => (if t318 = t319 then ((folkmootref08_Ops.f kj2 bt306.1 bt310.1).bind fun t320 => (if t320 = true then ((folkmootlaw08_num.f bt306.2).bind fun t321 => (folkmootlaw08_TxnChecks.j1 kj2 l0 (t321 != bt310.2))) else (folkmootlaw08_TxnChecks.j1 kj2 l0 true))) else (folkmootlaw08_TxnChecks.j1 kj2 l0 true)))))))) else (none)) = some r := by first | (rw [hy300]; with_reducible exact H) | (have H2_ := (Option.bind_some _ _).symm.trans H; rw [hy300]; with_reducible exact H2_) | (have H2_ := (Option.bind_some _ _).symm.trans H; with_reducible exact H2_) | with_reducible exact H | (rw [hy300]; exact H) | exact H
    have Ny300 := Aside0.mk hy300
    clear hy300
    by_cases c9 : y300.length + l1.length < 140737488355328
    ·rw [if_pos c9] at H
     have LMc9 := Aside0.mk c9
     clear c9
     obtain ⟨y303, hy303⟩ : ∃ y_ : List Int, y_ = (y300 ++ l1) := ⟨_, rfl⟩
     replace H : ((txn_Parse.f y303).bind fun bt306 => ((folkmootref08_Parse.f l1).bind fun bt310 => ((folkmootlaw08_ops.f l0).bind fun t314 => ((txn_Check.f t314).bind fun t317 => ((folkmootlaw08_num.f t317).bind fun t318 => ((folkmootref08_Check.f kj2 l0).bind fun t319 => (if t318 = t319 then ((folkmootref08_Ops.f kj2 bt306.1 bt310.1).bind fun t320 => (if t320 = true then ((folkmootlaw08_num.f bt306.2).bind fun t321 => (folkmootlaw08_TxnChecks.j1 kj2 l0 (t321 != bt310.2))) else (folkmootlaw08_TxnChecks.j1 kj2 l0 true))) else (folkmootlaw08_TxnChecks.j1 kj2 l0 true)))))))) = some r := by first | (rw [hy303]; with_reducible exact H) | (have H2_ := (Option.bind_some _ _).symm.trans H; rw [hy303]; with_reducible exact H2_) | (have H2_ := (Option.bind_some _ _).symm.trans H; with_reducible exact H2_) | with_reducible exact H | (rw [hy303]; exact H) | exact H
     have Ny303 := Aside0.mk hy303
     clear hy303
     replace H := Option.bind_eq_some_iff.mp H
     obtain ⟨⟨t306, t307⟩, A100, H⟩ := H
     replace H : ((folkmootref08_Parse.f l1).bind fun bt310 => ((folkmootlaw08_ops.f l0).bind fun t314 => ((txn_Check.f t314).bind fun t317 => ((folkmootlaw08_num.f t317).bind fun t318 => ((folkmootref08_Check.f kj2 l0).bind fun t319 => (if t318 = t319 then ((folkmootref08_Ops.f kj2 t306 bt310.1).bind fun t320 => (if t320 = true then ((folkmootlaw08_num.f t307).bind fun t321 => (folkmootlaw08_TxnChecks.j1 kj2 l0 (t321 != bt310.2))) else (folkmootlaw08_TxnChecks.j1 kj2 l0 true))) else (folkmootlaw08_TxnChecks.j1 kj2 l0 true))))))) = some r := H
     have A10 := Aside0.mk A100
     clear A100
     replace H := Option.bind_eq_some_iff.mp H
     obtain ⟨⟨t310, t311⟩, A110, H⟩ := H
     replace H : ((folkmootlaw08_ops.f l0).bind fun t314 => ((txn_Check.f t314).bind fun t317 => ((folkmootlaw08_num.f t317).bind fun t318 => ((folkmootref08_Check.f kj2 l0).bind fun t319 => (if t318 = t319 then ((folkmootref08_Ops.f kj2 t306 t310).bind fun t320 => (if t320 = true then ((folkmootlaw08_num.f t307).bind fun t321 => (folkmootlaw08_TxnChecks.j1 kj2 l0 (t321 != t311))) else (folkmootlaw08_TxnChecks.j1 kj2 l0 true))) else (folkmootlaw08_TxnChecks.j1 kj2 l0 true)))))) = some r := H
     have A11 := Aside0.mk A110
     clear A110
     have HC12 := Aside0.mk H
     clear H
     go_upto_region 5 with (first | ((with_reducible refine gate_dst (N := 22) rfl ?_); (try (refine gate_guard (by rfl) ?_; dsimp only)); refine Kd.R_lit (Kd.int .u8) _ 5 ?hg (N := 22) ?hd (xs := ([] : List Int)) (inner := []) (ok := fun _ => True) (okp := fun _ => True) ?hr ?hp (fun _ hk => hk) trivial (Below.refl _ _) (Nat.le_refl _) (by simp) ?_; (case hd => rfl); (case hg => rfl); (case hr => first | (go_simp; done) | (go_simp; rfl)); (case hp => exact (Reps.none _ _)); intro v301 w13 ho14 hb hg_ hnew_; clear hg_ hnew_; (first | rw [← Ny300.out] at ho14 | (simp only [Int.reduceToNat] at ho14; rw [← Ny300.out] at ho14)); have n0_ := Aside0.mk (Kd.R_lower ho14 (below_size bB_)); have n1_ := Aside0.mk (below_step bB_ hb); clear HB; have HO302 := n0_; have HB := n1_; clear n0_ n1_; clear hb ho14) | ((with_reducible refine gate_builtin (b := .append) (xs := #[.tmp 22, .tmp 23]) rfl ?_); (try (refine gate_guard (by rfl) ?_; dsimp only)); at_builtin; refine Kd.R_append_rows (Kd.int .u8) (w0 := w) w.heap.size rfl (.tmp 22) (.tmp 23) 23 5 (.int .u8 0) 1 rfl Tryz.underlying23 info5 rfl (by decide) (by omega) v301 y300 l1 _ _ _ (fun _ => True) (fun _ => False) rfl rfl ?aO ?aR (fun _ _ h => h) (fun _ h => h.elim) ?aF ?aB ?aS ?aL ?_; (case aR => repeat (first | exact (Kd.C_below HR1.out HB.out) | (with_reducible refine Kd.C_alloc ?_ _) | (with_reducible refine Kd.C_drewN ?_ _) | (with_reducible refine Kd.C_drew ?_))); (case aB => exact bB_); (case aF => exact (fun _ _ => trivial)); (case aO => exact (rR_ HO302.out)); (case aS => exact (below_size bB_)); (case aL => have := LMc9.out; omega); intro v304 w15 ho hb hg hat; rw [← Ny303.out] at ho; have n0_ := Aside0.mk (hb); have n1_ := Aside0.mk (ho); clear HB; clear HO302; have HB := n0_; have HO305 := n1_; clear n0_ n1_; clear ho hb hg hat; obtain ⟨Ao16, co16, eo16⟩ := Kd.R_slice HO305.out; subst eo16) | ((with_reducible refine gate_callee (f := 15) rfl ?_); refine goesL_ (some 25) rfl rfl Tryz.func15 (by kernel_rfl) rfl #[.slice Ao16 y303.length co16] rfl (by (try simp only [List.map_toArray, List.map_cons, List.map_nil]); first | done | rfl | (simp only [List.length_drop, List.length_take]; rfl)) ?_; (with_reducible refine (txn_Parse.calls _ _ y303 t306 t307 _ ?side1 ?side2 A10.out).mono ?_); (case side1 => repeat (first | exact (Kd.R_reads' HO305.out).2.2 | (with_reducible refine Kd.C_alloc ?_ _) | (with_reducible refine Kd.C_drewN ?_ _) | (with_reducible refine Kd.C_drew ?_))); (case side2 => exact (Kd.R_reads' HO305.out).2.1); rintro e w17 ⟨v308, rfl, ho0, hb⟩; refine ⟨_, rfl, ?_⟩; have n0_ := Aside0.mk (Kd.R_below (rR_ HO305.out) hb); have n1_ := Aside0.mk (Kd.R_lower ho0 (below_size bB_)); have n2_ := Aside0.mk (below_step bB_ hb); clear HO305; clear HB; have HO305 := n0_; have HO309 := n1_; have HB := n2_; clear n0_ n1_ n2_; (try clear hb); (try clear hb2); (try clear hk); (try clear hi); (try clear ho0)) | ((with_reducible refine gate_callee (f := 16) rfl ?_); refine goesL_ (some 30) rfl rfl Tryz.func16 (by kernel_rfl) rfl #[.slice A1 l1.length c1] rfl (by (try simp only [List.map_toArray, List.map_cons, List.map_nil]); first | done | rfl | (simp only [List.length_drop, List.length_take]; rfl)) ?_; (with_reducible refine (folkmootref08_Parse.calls _ _ l1 t310 t311 _ ?side1 ?side2 A11.out).mono ?_); (case side1 => repeat (first | exact (Kd.C_below HR1.out HB.out) | (with_reducible refine Kd.C_alloc ?_ _) | (with_reducible refine Kd.C_drewN ?_ _) | (with_reducible refine Kd.C_drew ?_))); (case side2 => exact HC1.out); rintro e w18 ⟨v312, rfl, ho0, hb⟩; refine ⟨_, rfl, ?_⟩; have n0_ := Aside0.mk (Kd.R_below (rR_ HO305.out) hb); have n1_ := Aside0.mk (Kd.R_elder' (rR_ HO309.out) (Kd.R_base ho0) hb); have n2_ := Aside0.mk (Kd.R_lower (Kd.R_new' ho0 (Kd.R_lt (rR_ HO309.out))) (below_size bB_)); have n3_ := Aside0.mk (below_step bB_ hb); clear HO305; clear HO309; clear HB; have HO305 := n0_; have HO309 := n1_; have HO313 := n2_; have HB := n3_; clear n0_ n1_ n2_ n3_; (try clear hb); (try clear hb2); (try clear hk); (try clear hi); (try clear ho0)))
     (try simp only [Act.put, List.setIfInBounds_toArray, List.set_cons_zero, List.set_cons_succ])
     go_cut [51] (fun v51 wc => ∃ (kq : Nat) (x51_11 : Bool), v51 = .bool x51_11 ∧ Aside0 (folkmootlaw08_TxnChecks.j1 kq l0 x51_11 = some r) ∧ Aside0 (kq ≤ kj2) ∧ Aside0 (Below w.heap.size w wc))
     case first =>
      have H := HC12.out
      clear HC12
      replace H := Option.bind_eq_some_iff.mp H
      obtain ⟨t314, A190, H⟩ := H
      replace H : ((txn_Check.f t314).bind fun t317 => ((folkmootlaw08_num.f t317).bind fun t318 => ((folkmootref08_Check.f kj2 l0).bind fun t319 => (if t318 = t319 then ((folkmootref08_Ops.f kj2 t306 t310).bind fun t320 => (if t320 = true then ((folkmootlaw08_num.f t307).bind fun t321 => (folkmootlaw08_TxnChecks.j1 kj2 l0 (t321 != t311))) else (folkmootlaw08_TxnChecks.j1 kj2 l0 true))) else (folkmootlaw08_TxnChecks.j1 kj2 l0 true))))) = some r := H
      have A19 := Aside0.mk A190
      clear A190
      replace H := Option.bind_eq_some_iff.mp H
      obtain ⟨t317, A200, H⟩ := H
      replace H : ((folkmootlaw08_num.f t317).bind fun t318 => ((folkmootref08_Check.f kj2 l0).bind fun t319 => (if t318 = t319 then ((folkmootref08_Ops.f kj2 t306 t310).bind fun t320 => (if t320 = true then ((folkmootlaw08_num.f t307).bind fun t321 => (folkmootlaw08_TxnChecks.j1 kj2 l0 (t321 != t311))) else (folkmootlaw08_TxnChecks.j1 kj2 l0 true))) else (folkmootlaw08_TxnChecks.j1 kj2 l0 true)))) = some r := H
      have A20 := Aside0.mk A200
      clear A200
      replace H := Option.bind_eq_some_iff.mp H
      obtain ⟨t318, A210, H⟩ := H
      replace H : ((folkmootref08_Check.f kj2 l0).bind fun t319 => (if t318 = t319 then ((folkmootref08_Ops.f kj2 t306 t310).bind fun t320 => (if t320 = true then ((folkmootlaw08_num.f t307).bind fun t321 => (folkmootlaw08_TxnChecks.j1 kj2 l0 (t321 != t311))) else (folkmootlaw08_TxnChecks.j1 kj2 l0 true))) else (folkmootlaw08_TxnChecks.j1 kj2 l0 true))) = some r := H
      have A21 := Aside0.mk A210
      clear A210
      replace H := Option.bind_eq_some_iff.mp H
      obtain ⟨t319, A220, H⟩ := H
      replace H : (if t318 = t319 then ((folkmootref08_Ops.f kj2 t306 t310).bind fun t320 => (if t320 = true then ((folkmootlaw08_num.f t307).bind fun t321 => (folkmootlaw08_TxnChecks.j1 kj2 l0 (t321 != t311))) else (folkmootlaw08_TxnChecks.j1 kj2 l0 true))) else (folkmootlaw08_TxnChecks.j1 kj2 l0 true)) = some r := H
      have A22 := Aside0.mk A220
      clear A220
      by_cases c23 : t318 = t319
      ·rw [if_pos c23] at H
       have c23b0 : (t318 == t319) = true := beq_iff_eq.mpr c23
       have c23b1 : (t318 != t319) = false := bne_eq_false_iff_eq.mpr c23
       clear c23
       (first | rw [c23b0] | (simp only [i64_w, i32_w]; rw [c23b0]) | skip)
       replace H := Option.bind_eq_some_iff.mp H
       obtain ⟨t320, A240, H⟩ := H
       replace H : (if t320 = true then ((folkmootlaw08_num.f t307).bind fun t321 => (folkmootlaw08_TxnChecks.j1 kj2 l0 (t321 != t311))) else (folkmootlaw08_TxnChecks.j1 kj2 l0 true)) = some r := H
       have A24 := Aside0.mk A240
       clear A240
       by_cases c25 : t320 = true
       ·subst c25
        have H1 : ((folkmootlaw08_num.f t307).bind fun t321 => (folkmootlaw08_TxnChecks.j1 kj2 l0 (t321 != t311))) = some r := by rw [if_pos rfl] at H; exact H
        clear H
        have H := H1
        clear H1
        replace H := Option.bind_eq_some_iff.mp H
        obtain ⟨t321, A260, H⟩ := H
        replace H : (folkmootlaw08_TxnChecks.j1 kj2 l0 (t321 != t311)) = some r := H
        have A26 := Aside0.mk A260
        clear A260
        have H' := Aside0.mk H
        clear H
        go_wp2_with (first | ((with_reducible refine gate_callee (f := 19) rfl ?_); refine goesL_ (some 34) rfl rfl Tryz.func19 (by kernel_rfl) rfl #[.slice A0 l0.length c0] rfl (by (try simp only [List.map_toArray, List.map_cons, List.map_nil]); first | done | rfl | (simp only [List.length_drop, List.length_take]; rfl)) ?_; (with_reducible refine (folkmootlaw08_ops.calls _ _ l0 t314 _ ?side1 ?side2 A19.out).mono ?_); (case side1 => repeat (first | exact (Kd.C_below HR0.out HB.out) | (with_reducible refine Kd.C_alloc ?_ _) | (with_reducible refine Kd.C_drewN ?_ _) | (with_reducible refine Kd.C_drew ?_))); (case side2 => exact HC0.out); rintro e w27 ⟨v315, rfl, ho0, hb⟩; refine ⟨_, rfl, ?_⟩; have n0_ := Aside0.mk (Kd.R_below (rR_ HO305.out) hb); have n1_ := Aside0.mk (Kd.R_elder' (rR_ HO309.out) (Kd.R_base ho0) hb); have n2_ := Aside0.mk (Kd.R_elder' (rR_ HO313.out) (Kd.R_base ho0) hb); have n3_ := Aside0.mk (Kd.R_lower (Kd.R_new' (Kd.R_new' ho0 (Kd.R_lt (rR_ HO309.out))) (Kd.R_lt (rR_ HO313.out))) (below_size bB_)); have n4_ := Aside0.mk (below_step bB_ hb); clear HO305; clear HO309; clear HO313; clear HB; have HO305 := n0_; have HO309 := n1_; have HO313 := n2_; have HO316 := n3_; have HB := n4_; clear n0_ n1_ n2_ n3_ n4_; (try clear hb); (try clear hb2); (try clear hk); (try clear hi); (try clear ho0); obtain ⟨Ao28, co28, eo28⟩ := Kd.R_slice HO316.out; subst eo28) | ((with_reducible refine gate_callee (f := 18) rfl ?_); refine goesL_ (some 35) rfl rfl Tryz.func18 (by kernel_rfl) rfl #[.slice Ao28 t314.length co28] rfl (by (try simp only [List.map_toArray, List.map_cons, List.map_nil]); first | done | rfl | (simp only [List.length_drop, List.length_take]; rfl)) ?_; (with_reducible refine (txn_Check.calls _ _ t314 t317 _ ?side1 ?side2 A20.out).mono ?_); (case side1 => repeat (first | exact (Kd.R_reads' HO316.out).2.2 | (with_reducible refine Kd.C_alloc ?_ _) | (with_reducible refine Kd.C_drewN ?_ _) | (with_reducible refine Kd.C_drew ?_))); (case side2 => exact (Kd.R_reads' HO316.out).2.1); rintro e w29 ⟨rfl, hb⟩; refine ⟨_, rfl, ?_⟩; have n0_ := Aside0.mk (Kd.R_below (rR_ HO305.out) hb); have n1_ := Aside0.mk (Kd.R_below (rR_ HO309.out) hb); have n2_ := Aside0.mk (Kd.R_below (rR_ HO313.out) hb); have n3_ := Aside0.mk (Kd.R_below (rR_ HO316.out) hb); have n4_ := Aside0.mk (below_step bB_ hb); clear HO305; clear HO309; clear HO313; clear HO316; clear HB; have HO305 := n0_; have HO309 := n1_; have HO313 := n2_; have HO316 := n3_; have HB := n4_; clear n0_ n1_ n2_ n3_ n4_; (try clear hb); (try clear hb2); (try clear hk); (try clear hi)) | ((with_reducible refine gate_callee (f := 17) rfl ?_); refine goesL_ (some 36) rfl rfl Tryz.func17 (by kernel_rfl) rfl #[.int .i64 t317] rfl (by (try simp only [List.map_toArray, List.map_cons, List.map_nil]); first | done | rfl | (simp only [List.length_drop, List.length_take]; rfl)) ?_; (with_reducible refine (folkmootlaw08_num.calls t317 t318 _ A21.out).mono ?_); rintro e w' ⟨rfl, ⟨nd, rfl⟩⟩; refine ⟨_, rfl, ?_⟩) | ((with_reducible refine gate_callee (f := 20) rfl ?_); refine goesL_ (some 38) rfl rfl Tryz.func20 (by kernel_rfl) rfl #[.slice A0 l0.length c0] rfl (by (try simp only [List.map_toArray, List.map_cons, List.map_nil]); first | done | rfl | (simp only [List.length_drop, List.length_take]; rfl)) ?_; (with_reducible refine (folkmootref08_Check.calls kj2 _ _ l0 t319 _ ?side1 ?side2 A22.out).mono ?_); (case side1 => repeat (first | exact (Kd.C_below HR0.out bB_) | (with_reducible refine Kd.C_alloc ?_ _) | (with_reducible refine Kd.C_drewN ?_ _) | (with_reducible refine Kd.C_drew ?_))); (case side2 => exact HC0.out); rintro e w30 ⟨rfl, hb⟩; refine ⟨_, rfl, ?_⟩; have n0_ := Aside0.mk (Kd.R_below (rR_ HO305.out) hb); have n1_ := Aside0.mk (Kd.R_below (rR_ HO309.out) hb); have n2_ := Aside0.mk (Kd.R_below (rR_ HO313.out) hb); have n3_ := Aside0.mk (Kd.R_below (rR_ HO316.out) hb); have n4_ := Aside0.mk (below_step bB_ hb); clear HO305; clear HO309; clear HO313; clear HO316; clear HB; have HO305 := n0_; have HO309 := n1_; have HO313 := n2_; have HO316 := n3_; have HB := n4_; clear n0_ n1_ n2_ n3_ n4_; (try clear hb); (try clear hb2); (try clear hk); (try clear hi); obtain ⟨Ao31, co31, eo31⟩ := Kd.R_slice HO309.out; subst eo31; obtain ⟨Ao32, co32, eo32⟩ := Kd.R_slice HO313.out; subst eo32) | (go_at_call 21; (with_reducible refine (folkmootref08_Ops.calls kj2 _ _ t306 _ _ t310 true _ ?side1 ?side2 ?side3 ?side4 A24.out).mono ?_); (case side1 => repeat (first | exact (Kd.R_reads' HO309.out).2.2 | (with_reducible refine Kd.C_alloc ?_ _) | (with_reducible refine Kd.C_drewN ?_ _) | (with_reducible refine Kd.C_drew ?_))); (case side2 => exact (Kd.R_reads' HO309.out).2.1); (case side3 => repeat (first | exact (Kd.R_reads' HO313.out).2.2 | (with_reducible refine Kd.C_alloc ?_ _) | (with_reducible refine Kd.C_drewN ?_ _) | (with_reducible refine Kd.C_drew ?_))); (case side4 => exact (Kd.R_reads' HO313.out).2.1); rintro e w' ⟨rfl, ⟨nd, rfl⟩⟩) | (go_at_call 17; (with_reducible refine (folkmootlaw08_num.calls t307 t321 _ A26.out).mono ?_); rintro e w' ⟨rfl, ⟨nd, rfl⟩⟩))
        first
        | (go_meet; case rel => exact ⟨_, ((t321 != t311)), (by first | rfl | (rw [bl_gt] <;> rfl) | (simp; done) | (simp [*]; done)), H', ⟨by have := HJ2.out; first | omega | exact Nat.le_refl _⟩, ⟨bB_⟩⟩)
        | (refine Met.intro ?_; go_step; (repeat apply Exists.intro); refine ⟨?_, ?_⟩; rotate_left; (focus (simp only [c23b0]; try rfl)); exact ⟨_, ((t321 != t311)), (by first | rfl | (rw [bl_gt] <;> rfl) | (simp; done) | (simp [*]; done)), H', ⟨by have := HJ2.out; first | omega | exact Nat.le_refl _⟩, ⟨bB_⟩⟩)
       ·replace c25 := Bool.eq_false_iff.mpr c25
        subst c25
        have H1 : (folkmootlaw08_TxnChecks.j1 kj2 l0 true) = some r := by rw [if_neg (show ¬ (false = true) by decide)] at H; exact H
        clear H
        have H := H1
        clear H1
        have H' := Aside0.mk H
        clear H
        go_wp2_with (first | ((with_reducible refine gate_callee (f := 19) rfl ?_); refine goesL_ (some 34) rfl rfl Tryz.func19 (by kernel_rfl) rfl #[.slice A0 l0.length c0] rfl (by (try simp only [List.map_toArray, List.map_cons, List.map_nil]); first | done | rfl | (simp only [List.length_drop, List.length_take]; rfl)) ?_; (with_reducible refine (folkmootlaw08_ops.calls _ _ l0 t314 _ ?side1 ?side2 A19.out).mono ?_); (case side1 => repeat (first | exact (Kd.C_below HR0.out HB.out) | (with_reducible refine Kd.C_alloc ?_ _) | (with_reducible refine Kd.C_drewN ?_ _) | (with_reducible refine Kd.C_drew ?_))); (case side2 => exact HC0.out); rintro e w33 ⟨v315, rfl, ho0, hb⟩; refine ⟨_, rfl, ?_⟩; have n0_ := Aside0.mk (Kd.R_below (rR_ HO305.out) hb); have n1_ := Aside0.mk (Kd.R_elder' (rR_ HO309.out) (Kd.R_base ho0) hb); have n2_ := Aside0.mk (Kd.R_elder' (rR_ HO313.out) (Kd.R_base ho0) hb); have n3_ := Aside0.mk (Kd.R_lower (Kd.R_new' (Kd.R_new' ho0 (Kd.R_lt (rR_ HO309.out))) (Kd.R_lt (rR_ HO313.out))) (below_size bB_)); have n4_ := Aside0.mk (below_step bB_ hb); clear HO305; clear HO309; clear HO313; clear HB; have HO305 := n0_; have HO309 := n1_; have HO313 := n2_; have HO316 := n3_; have HB := n4_; clear n0_ n1_ n2_ n3_ n4_; (try clear hb); (try clear hb2); (try clear hk); (try clear hi); (try clear ho0); obtain ⟨Ao34, co34, eo34⟩ := Kd.R_slice HO316.out; subst eo34) | ((with_reducible refine gate_callee (f := 18) rfl ?_); refine goesL_ (some 35) rfl rfl Tryz.func18 (by kernel_rfl) rfl #[.slice Ao34 t314.length co34] rfl (by (try simp only [List.map_toArray, List.map_cons, List.map_nil]); first | done | rfl | (simp only [List.length_drop, List.length_take]; rfl)) ?_; (with_reducible refine (txn_Check.calls _ _ t314 t317 _ ?side1 ?side2 A20.out).mono ?_); (case side1 => repeat (first | exact (Kd.R_reads' HO316.out).2.2 | (with_reducible refine Kd.C_alloc ?_ _) | (with_reducible refine Kd.C_drewN ?_ _) | (with_reducible refine Kd.C_drew ?_))); (case side2 => exact (Kd.R_reads' HO316.out).2.1); rintro e w35 ⟨rfl, hb⟩; refine ⟨_, rfl, ?_⟩; have n0_ := Aside0.mk (Kd.R_below (rR_ HO305.out) hb); have n1_ := Aside0.mk (Kd.R_below (rR_ HO309.out) hb); have n2_ := Aside0.mk (Kd.R_below (rR_ HO313.out) hb); have n3_ := Aside0.mk (Kd.R_below (rR_ HO316.out) hb); have n4_ := Aside0.mk (below_step bB_ hb); clear HO305; clear HO309; clear HO313; clear HO316; clear HB; have HO305 := n0_; have HO309 := n1_; have HO313 := n2_; have HO316 := n3_; have HB := n4_; clear n0_ n1_ n2_ n3_ n4_; (try clear hb); (try clear hb2); (try clear hk); (try clear hi)) | ((with_reducible refine gate_callee (f := 17) rfl ?_); refine goesL_ (some 36) rfl rfl Tryz.func17 (by kernel_rfl) rfl #[.int .i64 t317] rfl (by (try simp only [List.map_toArray, List.map_cons, List.map_nil]); first | done | rfl | (simp only [List.length_drop, List.length_take]; rfl)) ?_; (with_reducible refine (folkmootlaw08_num.calls t317 t318 _ A21.out).mono ?_); rintro e w' ⟨rfl, ⟨nd, rfl⟩⟩; refine ⟨_, rfl, ?_⟩) | ((with_reducible refine gate_callee (f := 20) rfl ?_); refine goesL_ (some 38) rfl rfl Tryz.func20 (by kernel_rfl) rfl #[.slice A0 l0.length c0] rfl (by (try simp only [List.map_toArray, List.map_cons, List.map_nil]); first | done | rfl | (simp only [List.length_drop, List.length_take]; rfl)) ?_; (with_reducible refine (folkmootref08_Check.calls kj2 _ _ l0 t319 _ ?side1 ?side2 A22.out).mono ?_); (case side1 => repeat (first | exact (Kd.C_below HR0.out bB_) | (with_reducible refine Kd.C_alloc ?_ _) | (with_reducible refine Kd.C_drewN ?_ _) | (with_reducible refine Kd.C_drew ?_))); (case side2 => exact HC0.out); rintro e w36 ⟨rfl, hb⟩; refine ⟨_, rfl, ?_⟩; have n0_ := Aside0.mk (Kd.R_below (rR_ HO305.out) hb); have n1_ := Aside0.mk (Kd.R_below (rR_ HO309.out) hb); have n2_ := Aside0.mk (Kd.R_below (rR_ HO313.out) hb); have n3_ := Aside0.mk (Kd.R_below (rR_ HO316.out) hb); have n4_ := Aside0.mk (below_step bB_ hb); clear HO305; clear HO309; clear HO313; clear HO316; clear HB; have HO305 := n0_; have HO309 := n1_; have HO313 := n2_; have HO316 := n3_; have HB := n4_; clear n0_ n1_ n2_ n3_ n4_; (try clear hb); (try clear hb2); (try clear hk); (try clear hi); obtain ⟨Ao37, co37, eo37⟩ := Kd.R_slice HO309.out; subst eo37; obtain ⟨Ao38, co38, eo38⟩ := Kd.R_slice HO313.out; subst eo38) | (go_at_call 21; (with_reducible refine (folkmootref08_Ops.calls kj2 _ _ t306 _ _ t310 false _ ?side1 ?side2 ?side3 ?side4 A24.out).mono ?_); (case side1 => repeat (first | exact (Kd.R_reads' HO309.out).2.2 | (with_reducible refine Kd.C_alloc ?_ _) | (with_reducible refine Kd.C_drewN ?_ _) | (with_reducible refine Kd.C_drew ?_))); (case side2 => exact (Kd.R_reads' HO309.out).2.1); (case side3 => repeat (first | exact (Kd.R_reads' HO313.out).2.2 | (with_reducible refine Kd.C_alloc ?_ _) | (with_reducible refine Kd.C_drewN ?_ _) | (with_reducible refine Kd.C_drew ?_))); (case side4 => exact (Kd.R_reads' HO313.out).2.1); rintro e w' ⟨rfl, ⟨nd, rfl⟩⟩))
        first
        | (go_meet; case rel => exact ⟨_, (true), (by first | rfl | (rw [bl_gt] <;> rfl) | (simp; done) | (simp [*]; done)), H', ⟨by have := HJ2.out; first | omega | exact Nat.le_refl _⟩, ⟨bB_⟩⟩)
        | (refine Met.intro ?_; go_step; (repeat apply Exists.intro); refine ⟨?_, ?_⟩; rotate_left; (focus (simp only [c23b0]; try rfl)); exact ⟨_, (true), (by first | rfl | (rw [bl_gt] <;> rfl) | (simp; done) | (simp [*]; done)), H', ⟨by have := HJ2.out; first | omega | exact Nat.le_refl _⟩, ⟨bB_⟩⟩)
      ·rw [if_neg c23] at H
       have c23b0 : (t318 == t319) = false := beq_eq_false_iff_ne.mpr c23
       have c23b1 : (t318 != t319) = true := bne_iff_ne.mpr c23
       (first | rw [c23b0] | (simp only [i64_w, i32_w]; rw [c23b0]) | skip)
       have H' := Aside0.mk H
       clear H
       go_wp2_with (first | ((with_reducible refine gate_callee (f := 19) rfl ?_); refine goesL_ (some 34) rfl rfl Tryz.func19 (by kernel_rfl) rfl #[.slice A0 l0.length c0] rfl (by (try simp only [List.map_toArray, List.map_cons, List.map_nil]); first | done | rfl | (simp only [List.length_drop, List.length_take]; rfl)) ?_; (with_reducible refine (folkmootlaw08_ops.calls _ _ l0 t314 _ ?side1 ?side2 A19.out).mono ?_); (case side1 => repeat (first | exact (Kd.C_below HR0.out HB.out) | (with_reducible refine Kd.C_alloc ?_ _) | (with_reducible refine Kd.C_drewN ?_ _) | (with_reducible refine Kd.C_drew ?_))); (case side2 => exact HC0.out); rintro e w39 ⟨v315, rfl, ho0, hb⟩; refine ⟨_, rfl, ?_⟩; have n0_ := Aside0.mk (Kd.R_below (rR_ HO305.out) hb); have n1_ := Aside0.mk (Kd.R_elder' (rR_ HO309.out) (Kd.R_base ho0) hb); have n2_ := Aside0.mk (Kd.R_elder' (rR_ HO313.out) (Kd.R_base ho0) hb); have n3_ := Aside0.mk (Kd.R_lower (Kd.R_new' (Kd.R_new' ho0 (Kd.R_lt (rR_ HO309.out))) (Kd.R_lt (rR_ HO313.out))) (below_size bB_)); have n4_ := Aside0.mk (below_step bB_ hb); clear HO305; clear HO309; clear HO313; clear HB; have HO305 := n0_; have HO309 := n1_; have HO313 := n2_; have HO316 := n3_; have HB := n4_; clear n0_ n1_ n2_ n3_ n4_; (try clear hb); (try clear hb2); (try clear hk); (try clear hi); (try clear ho0); obtain ⟨Ao40, co40, eo40⟩ := Kd.R_slice HO316.out; subst eo40) | ((with_reducible refine gate_callee (f := 18) rfl ?_); refine goesL_ (some 35) rfl rfl Tryz.func18 (by kernel_rfl) rfl #[.slice Ao40 t314.length co40] rfl (by (try simp only [List.map_toArray, List.map_cons, List.map_nil]); first | done | rfl | (simp only [List.length_drop, List.length_take]; rfl)) ?_; (with_reducible refine (txn_Check.calls _ _ t314 t317 _ ?side1 ?side2 A20.out).mono ?_); (case side1 => repeat (first | exact (Kd.R_reads' HO316.out).2.2 | (with_reducible refine Kd.C_alloc ?_ _) | (with_reducible refine Kd.C_drewN ?_ _) | (with_reducible refine Kd.C_drew ?_))); (case side2 => exact (Kd.R_reads' HO316.out).2.1); rintro e w41 ⟨rfl, hb⟩; refine ⟨_, rfl, ?_⟩; have n0_ := Aside0.mk (Kd.R_below (rR_ HO305.out) hb); have n1_ := Aside0.mk (Kd.R_below (rR_ HO309.out) hb); have n2_ := Aside0.mk (Kd.R_below (rR_ HO313.out) hb); have n3_ := Aside0.mk (Kd.R_below (rR_ HO316.out) hb); have n4_ := Aside0.mk (below_step bB_ hb); clear HO305; clear HO309; clear HO313; clear HO316; clear HB; have HO305 := n0_; have HO309 := n1_; have HO313 := n2_; have HO316 := n3_; have HB := n4_; clear n0_ n1_ n2_ n3_ n4_; (try clear hb); (try clear hb2); (try clear hk); (try clear hi)) | ((with_reducible refine gate_callee (f := 17) rfl ?_); refine goesL_ (some 36) rfl rfl Tryz.func17 (by kernel_rfl) rfl #[.int .i64 t317] rfl (by (try simp only [List.map_toArray, List.map_cons, List.map_nil]); first | done | rfl | (simp only [List.length_drop, List.length_take]; rfl)) ?_; (with_reducible refine (folkmootlaw08_num.calls t317 t318 _ A21.out).mono ?_); rintro e w' ⟨rfl, ⟨nd, rfl⟩⟩; refine ⟨_, rfl, ?_⟩) | ((with_reducible refine gate_callee (f := 20) rfl ?_); refine goesL_ (some 38) rfl rfl Tryz.func20 (by kernel_rfl) rfl #[.slice A0 l0.length c0] rfl (by (try simp only [List.map_toArray, List.map_cons, List.map_nil]); first | done | rfl | (simp only [List.length_drop, List.length_take]; rfl)) ?_; (with_reducible refine (folkmootref08_Check.calls kj2 _ _ l0 t319 _ ?side1 ?side2 A22.out).mono ?_); (case side1 => repeat (first | exact (Kd.C_below HR0.out bB_) | (with_reducible refine Kd.C_alloc ?_ _) | (with_reducible refine Kd.C_drewN ?_ _) | (with_reducible refine Kd.C_drew ?_))); (case side2 => exact HC0.out); rintro e w42 ⟨rfl, hb⟩; refine ⟨_, rfl, ?_⟩; have n0_ := Aside0.mk (Kd.R_below (rR_ HO305.out) hb); have n1_ := Aside0.mk (Kd.R_below (rR_ HO309.out) hb); have n2_ := Aside0.mk (Kd.R_below (rR_ HO313.out) hb); have n3_ := Aside0.mk (Kd.R_below (rR_ HO316.out) hb); have n4_ := Aside0.mk (below_step bB_ hb); clear HO305; clear HO309; clear HO313; clear HO316; clear HB; have HO305 := n0_; have HO309 := n1_; have HO313 := n2_; have HO316 := n3_; have HB := n4_; clear n0_ n1_ n2_ n3_ n4_; (try clear hb); (try clear hb2); (try clear hk); (try clear hi)))
       first
       | (go_meet; case rel => exact ⟨_, (true), (by first | rfl | (rw [bl_gt] <;> rfl) | (simp; done) | (simp [*]; done)), H', ⟨by have := HJ2.out; first | omega | exact Nat.le_refl _⟩, ⟨bB_⟩⟩)
       | (refine Met.intro ?_; go_step; (repeat apply Exists.intro); refine ⟨?_, ?_⟩; rotate_left; (focus (simp only [c23b0]; try rfl)); exact ⟨_, (true), (by first | rfl | (rw [bl_gt] <;> rfl) | (simp; done) | (simp [*]; done)), H', ⟨by have := HJ2.out; first | omega | exact Nat.le_refl _⟩, ⟨bB_⟩⟩)
     case rest =>
      clear HC12
      try clear c1
      try clear c2
      try clear p2
      try clear c3
      try clear c5
      try clear c6
      try clear c9
      try clear c13
      try clear c14
      try clear c15
      try clear c16
      try clear c17
      try clear c18
      try clear c19
      try clear c20
      try clear c23
      try clear c23b0
      try clear c23b1
      try clear c25
      try clear p2
      obtain ⟨kq, x51_11, rfl, HA, HJ11, HB⟩ := hcut
      cases kq with
      | zero => exact absurd HA.out (by simp [folkmootlaw08_TxnChecks.j1])
      | succ kj11 =>
       have H := HA.out
       clear HA
       simp only [folkmootlaw08_TxnChecks.j1] at H
       by_cases c43 : x51_11 = true
       ·subst c43
        have H1 : (some false) = some r := by rw [if_pos rfl] at H; exact H
        clear H
        have H := H1
        clear H1
        obtain rfl := Option.some.inj H
        go_wp2
        go_ret
        exact ⟨by first | rfl | (rw [bl_gt] <;> rfl) | (simp [errW_none, errW_some] <;> rfl) | (simp [*, errW_none, errW_some] <;> rfl), bB_⟩
       ·replace c43 := Bool.eq_false_iff.mpr c43
        subst c43
        have H1 : ((folkmootref08_Check.f kj11 l0).bind fun t322 => (if t322 = 0 then ((folkmootlaw08_ops.f l0).bind fun t324 => ((txn_Put.f t324).bind fun t327 => ((txn_Parse.f t327).bind fun bt330 => ((folkmootref08_Lay.f ([] : List Int) l0).bind fun t334 => (if (strOfNums t327).toList = (strOfNums t334).toList then ((folkmootlaw08_num.f bt330.2).bind fun t337 => (if t337 = 0 then ((folkmootref08_Ops.f kj11 bt330.1 l0).bind fun t338 => (if t338 = true then ((folkmootlaw08_live.f).bind fun t339 => (some t339)) else (some false))) else (some false))) else (some false)))))) else ((folkmootlaw08_live.f).bind fun t323 => (some t323)))) = some r := by rw [if_neg (show ¬ (false = true) by decide)] at H; exact H
        clear H
        have H := H1
        clear H1
        replace H := Option.bind_eq_some_iff.mp H
        obtain ⟨t322, A440, H⟩ := H
        replace H : (if t322 = 0 then ((folkmootlaw08_ops.f l0).bind fun t324 => ((txn_Put.f t324).bind fun t327 => ((txn_Parse.f t327).bind fun bt330 => ((folkmootref08_Lay.f ([] : List Int) l0).bind fun t334 => (if (strOfNums t327).toList = (strOfNums t334).toList then ((folkmootlaw08_num.f bt330.2).bind fun t337 => (if t337 = 0 then ((folkmootref08_Ops.f kj11 bt330.1 l0).bind fun t338 => (if t338 = true then ((folkmootlaw08_live.f).bind fun t339 => (some t339)) else (some false))) else (some false))) else (some false)))))) else ((folkmootlaw08_live.f).bind fun t323 => (some t323))) = some r := H
        have A44 := Aside0.mk A440
        clear A440
        by_cases c45 : t322 = 0
        ·rw [if_pos c45] at H
         have c45b0 : (t322 == 0) = true := beq_iff_eq.mpr c45
         have c45b1 : (t322 != 0) = false := bne_eq_false_iff_eq.mpr c45
         clear c45
         replace H := Option.bind_eq_some_iff.mp H
         obtain ⟨t324, A460, H⟩ := H
         replace H : ((txn_Put.f t324).bind fun t327 => ((txn_Parse.f t327).bind fun bt330 => ((folkmootref08_Lay.f ([] : List Int) l0).bind fun t334 => (if (strOfNums t327).toList = (strOfNums t334).toList then ((folkmootlaw08_num.f bt330.2).bind fun t337 => (if t337 = 0 then ((folkmootref08_Ops.f kj11 bt330.1 l0).bind fun t338 => (if t338 = true then ((folkmootlaw08_live.f).bind fun t339 => (some t339)) else (some false))) else (some false))) else (some false))))) = some r := H
         have A46 := Aside0.mk A460
         clear A460
         replace H := Option.bind_eq_some_iff.mp H
         obtain ⟨t327, A470, H⟩ := H
         replace H : ((txn_Parse.f t327).bind fun bt330 => ((folkmootref08_Lay.f ([] : List Int) l0).bind fun t334 => (if (strOfNums t327).toList = (strOfNums t334).toList then ((folkmootlaw08_num.f bt330.2).bind fun t337 => (if t337 = 0 then ((folkmootref08_Ops.f kj11 bt330.1 l0).bind fun t338 => (if t338 = true then ((folkmootlaw08_live.f).bind fun t339 => (some t339)) else (some false))) else (some false))) else (some false)))) = some r := H
         have A47 := Aside0.mk A470
         clear A470
         replace H := Option.bind_eq_some_iff.mp H
         obtain ⟨⟨t330, t331⟩, A480, H⟩ := H
         replace H : ((folkmootref08_Lay.f ([] : List Int) l0).bind fun t334 => (if (strOfNums t327).toList = (strOfNums t334).toList then ((folkmootlaw08_num.f t331).bind fun t337 => (if t337 = 0 then ((folkmootref08_Ops.f kj11 t330 l0).bind fun t338 => (if t338 = true then ((folkmootlaw08_live.f).bind fun t339 => (some t339)) else (some false))) else (some false))) else (some false))) = some r := H
         have A48 := Aside0.mk A480
         clear A480
         replace H := Option.bind_eq_some_iff.mp H
         obtain ⟨t334, A490, H⟩ := H
         replace H : (if (strOfNums t327).toList = (strOfNums t334).toList then ((folkmootlaw08_num.f t331).bind fun t337 => (if t337 = 0 then ((folkmootref08_Ops.f kj11 t330 l0).bind fun t338 => (if t338 = true then ((folkmootlaw08_live.f).bind fun t339 => (some t339)) else (some false))) else (some false))) else (some false)) = some r := H
         have A49 := Aside0.mk A490
         clear A490
         by_cases c50 : (strOfNums t327).toList = (strOfNums t334).toList
         ·rw [if_pos c50] at H
          have c50b0 : ((strOfNums t327).toList == (strOfNums t334).toList) = true := beq_iff_eq.mpr c50
          have c50b1 : ((strOfNums t327).toList != (strOfNums t334).toList) = false := bne_eq_false_iff_eq.mpr c50
          clear c50
          replace H := Option.bind_eq_some_iff.mp H
          obtain ⟨t337, A510, H⟩ := H
          replace H : (if t337 = 0 then ((folkmootref08_Ops.f kj11 t330 l0).bind fun t338 => (if t338 = true then ((folkmootlaw08_live.f).bind fun t339 => (some t339)) else (some false))) else (some false)) = some r := H
          have A51 := Aside0.mk A510
          clear A510
          by_cases c52 : t337 = 0
          ·rw [if_pos c52] at H
           have c52b0 : (t337 == 0) = true := beq_iff_eq.mpr c52
           have c52b1 : (t337 != 0) = false := bne_eq_false_iff_eq.mpr c52
           clear c52
           replace H := Option.bind_eq_some_iff.mp H
           obtain ⟨t338, A530, H⟩ := H
           replace H : (if t338 = true then ((folkmootlaw08_live.f).bind fun t339 => (some t339)) else (some false)) = some r := H
           have A53 := Aside0.mk A530
           clear A530
           by_cases c54 : t338 = true
           ·subst c54
            have H1 : ((folkmootlaw08_live.f).bind fun t339 => (some t339)) = some r := by rw [if_pos rfl] at H; exact H
            clear H
            have H := H1
            clear H1
            replace H := Option.bind_eq_some_iff.mp H
            obtain ⟨t339, A550, H⟩ := H
            replace H : (some t339) = some r := H
            have A55 := Aside0.mk A550
            clear A550
            obtain rfl := Option.some.inj H
            try go_wp2_with (first | ((with_reducible refine gate_callee (f := 20) rfl ?_); refine goesL_ (some 53) rfl rfl Tryz.func20 (by kernel_rfl) rfl #[.slice A0 l0.length c0] rfl (by (try simp only [List.map_toArray, List.map_cons, List.map_nil]); first | done | rfl | (simp only [List.length_drop, List.length_take]; rfl)) ?_; (with_reducible refine (folkmootref08_Check.calls kj11 _ _ l0 t322 _ ?side1 ?side2 A44.out).mono ?_); (case side1 => repeat (first | exact (Kd.C_below HR0.out HB.out) | (with_reducible refine Kd.C_alloc ?_ _) | (with_reducible refine Kd.C_drewN ?_ _) | (with_reducible refine Kd.C_drew ?_))); (case side2 => exact HC0.out); rintro e w56 ⟨rfl, hb⟩; refine ⟨_, rfl, ?_⟩; have n0_ := Aside0.mk (below_step bB_ hb); clear HB; have HB := n0_; clear n0_; (try clear hb); (try clear hb2); (try clear hk); (try clear hi)) | ((with_reducible refine gate_callee (f := 19) rfl ?_); refine goesL_ (some 57) rfl rfl Tryz.func19 (by kernel_rfl) rfl #[.slice A0 l0.length c0] rfl (by (try simp only [List.map_toArray, List.map_cons, List.map_nil]); first | done | rfl | (simp only [List.length_drop, List.length_take]; rfl)) ?_; (with_reducible refine (folkmootlaw08_ops.calls _ _ l0 t324 _ ?side1 ?side2 A46.out).mono ?_); (case side1 => repeat (first | exact (Kd.C_below HR0.out HB.out) | (with_reducible refine Kd.C_alloc ?_ _) | (with_reducible refine Kd.C_drewN ?_ _) | (with_reducible refine Kd.C_drew ?_))); (case side2 => exact HC0.out); rintro e w57 ⟨v325, rfl, ho0, hb⟩; refine ⟨_, rfl, ?_⟩; have n0_ := Aside0.mk (Kd.R_lower ho0 (below_size bB_)); have n1_ := Aside0.mk (below_step bB_ hb); clear HB; have HO326 := n0_; have HB := n1_; clear n0_ n1_; (try clear hb); (try clear hb2); (try clear hk); (try clear hi); (try clear ho0); obtain ⟨Ao58, co58, eo58⟩ := Kd.R_slice HO326.out; subst eo58) | ((with_reducible refine gate_callee (f := 22) rfl ?_); refine goesL_ (some 58) rfl rfl Tryz.func22 (by kernel_rfl) rfl #[.slice Ao58 t324.length co58] rfl (by (try simp only [List.map_toArray, List.map_cons, List.map_nil]); first | done | rfl | (simp only [List.length_drop, List.length_take]; rfl)) ?_; (with_reducible refine (txn_Put.calls _ _ t324 t327 _ ?side1 ?side2 A47.out).mono ?_); (case side1 => repeat (first | exact (Kd.R_reads' HO326.out).2.2 | (with_reducible refine Kd.C_alloc ?_ _) | (with_reducible refine Kd.C_drewN ?_ _) | (with_reducible refine Kd.C_drew ?_))); (case side2 => exact (Kd.R_reads' HO326.out).2.1); rintro e w59 ⟨v328, rfl, ho0, hb⟩; refine ⟨_, rfl, ?_⟩; have n0_ := Aside0.mk (Kd.R_below (rR_ HO326.out) hb); have n1_ := Aside0.mk (Kd.R_lower ho0 (below_size bB_)); have n2_ := Aside0.mk (below_step bB_ hb); clear HO326; clear HB; have HO326 := n0_; have HO329 := n1_; have HB := n2_; clear n0_ n1_ n2_; (try clear hb); (try clear hb2); (try clear hk); (try clear hi); (try clear ho0); obtain ⟨Ao60, co60, eo60⟩ := Kd.R_slice HO329.out; subst eo60) | ((with_reducible refine gate_callee (f := 15) rfl ?_); refine goesL_ (some 61) rfl rfl Tryz.func15 (by kernel_rfl) rfl #[.slice Ao60 t327.length co60] rfl (by (try simp only [List.map_toArray, List.map_cons, List.map_nil]); first | done | rfl | (simp only [List.length_drop, List.length_take]; rfl)) ?_; (with_reducible refine (txn_Parse.calls _ _ t327 t330 t331 _ ?side1 ?side2 A48.out).mono ?_); (case side1 => repeat (first | exact (Kd.R_reads' HO329.out).2.2 | (with_reducible refine Kd.C_alloc ?_ _) | (with_reducible refine Kd.C_drewN ?_ _) | (with_reducible refine Kd.C_drew ?_))); (case side2 => exact (Kd.R_reads' HO329.out).2.1); rintro e w61 ⟨v332, rfl, ho0, hb⟩; refine ⟨_, rfl, ?_⟩; have n0_ := Aside0.mk (Kd.R_elder' (rR_ HO326.out) (Kd.R_base ho0) hb); have n1_ := Aside0.mk (Kd.R_below (rR_ HO329.out) hb); have n2_ := Aside0.mk (Kd.R_lower (Kd.R_new' ho0 (Kd.R_lt (rR_ HO326.out))) (below_size bB_)); have n3_ := Aside0.mk (below_step bB_ hb); clear HO326; clear HO329; clear HB; have HO326 := n0_; have HO329 := n1_; have HO333 := n2_; have HB := n3_; clear n0_ n1_ n2_ n3_; (try clear hb); (try clear hb2); (try clear hk); (try clear hi); (try clear ho0); obtain ⟨Ao62, co62, eo62⟩ := Kd.R_slice HO333.out; subst eo62))
            have n0_ := Aside0.mk (Kd.R_drew HO326.out)
            have n1_ := Aside0.mk (Kd.R_drew HO329.out)
            have n2_ := Aside0.mk (Kd.R_drew HO333.out)
            have n3_ := Aside0.mk (below_drew1 HB.out)
            clear HO326
            clear HO329
            clear HO333
            clear HB
            have HO326 := n0_
            have HO329 := n1_
            have HO333 := n2_
            have HB := n3_
            clear n0_ n1_ n2_ n3_
            have hcv64 := own_string (P := Tryz.prog) Tryz.underlying23 Tryz.underlying5 Tryz.underlying9 (Kd.own_of_R HO329.out)
            refine start_ (n := 20) (S := (fun w' => Kd.C (Kd.int .u8) w' Ao60 t327.length t327)) (ds := []) #[false,false,false,false,false,false,false,false,false,false,false,false,false,false,false,false,false,false,false,false] (by kernel_rfl) rfl rfl (by first | exact (Kd.R_reads' HO329.out).2.2 | exact Kd.C_drew (Kd.R_reads' HO329.out).2.2) (fun hHeld => ?_); refine with_tabW folkmootlaw08_TxnChecks.tab11 folkmootlaw08_TxnChecks.bits11 (fun HT_ HW_ => ?_)
            generalize w61.drew = w63 at HO326 HO329 HO333 HB hHeld ⊢
            refine pu_ 0 64 ?_
            refine take_ (i := 1) (N := some 65) (v := ?_) (a' := ?_) #[true,true,false,false,false,false,false,false,false,false,false,false,false,false,false,false,false,false,false,false] rfl rfl (take_ofW HT_.out HW_.out (by kernel_rfl)) (fun _ _ _ h => h) (Or.inl ⟨by rfl, ?_⟩) hHeld ?_ ?_
            rotate_left
            ·intro w' hSw
             have hcvS := Kd.C_string (P := Tryz.prog) (A := Ao60) (c := co60) Tryz.underlying23 Tryz.underlying5 Tryz.underlying9 hSw
             go_simp
             with_reducible rfl
            rotate_left
            ·simp only [Act.put, List.setIfInBounds_toArray, List.set_cons_zero, List.set_cons_succ, i64_w, i32_w]
             rfl
            refine pu_ 2 66 ?_
            refine one_ (i := 3) (N := some 67) #[true,true,true,true,false,false,false,false,false,false,false,false,false,false,false,false,false,false,false,false] rfl rfl (one_of HT_.out (by kernel_rfl)) (by decide) (fun K hK => ?_)
            refine goes_ Tryz.func23 (by kernel_rfl) rfl #[.slice none 0 0, .slice A0 l0.length c0] (by rfl) rfl rfl (by (try simp only [List.map_toArray, List.map_cons, List.map_nil]); first | done | rfl | (simp only [List.length_drop, List.length_take]; rfl)) ?_
            refine (folkmootref08_Lay.calls none 0 ([] : List Int) _ _ l0 t334 _ ?side1 ?side2 ?side3 ?side4 A49.out).mono ?_
            (case side1 => exact Kd.C_nil _ _)
            (case side2 => exact Nat.le_refl _)
            (case side3 => repeat (first | exact (Kd.C_below HR0.out HB.out) | (with_reducible refine Kd.C_alloc ?_ _) | (with_reducible refine Kd.C_drewN ?_ _) | (with_reducible refine Kd.C_drew ?_)))
            (case side4 => exact HC0.out)
            rintro e w65 ⟨v335, rfl, ho0, hb⟩
            refine ⟨_, rfl, ?_⟩
            have n0_ := Aside0.mk (Kd.R_below (rR_ HO326.out) hb)
            have n1_ := Aside0.mk (Kd.R_elder' (rR_ HO329.out) (Kd.R_base ho0) hb)
            have n2_ := Aside0.mk (Kd.R_below (rR_ HO333.out) hb)
            have n3_ := Aside0.mk (Kd.R_lower (Kd.R_new' ho0 (Kd.R_lt (rR_ HO329.out))) (below_size bB_))
            have n4_ := Aside0.mk (below_step bB_ hb)
            clear HO326
            clear HO329
            clear HO333
            clear HB
            have HO326 := n0_
            have HO329 := n1_
            have HO333 := n2_
            have HO336 := n3_
            have HB := n4_
            clear n0_ n1_ n2_ n3_ n4_
            (try clear hb)
            (try clear hb2)
            (try clear hk)
            (try clear hi)
            (try clear ho0)
            refine hK.out _ _ (Kd.R_reads' HO329.out).2.2 (fun hHeld => ?_)
            clear hK K
            refine norm_ (a' := ?_) ?_ ?_
            rotate_left
            ·show Act.put _ (some 67) _ = _
             simp only [Act.put, List.setIfInBounds_toArray, List.set_cons_zero, List.set_cons_succ, i64_w, i32_w]
             rfl
            refine one_ (i := 4) (N := some 68) #[true,true,true,true,true,false,false,false,false,false,false,false,false,false,false,false,false,false,false,false] rfl rfl (one_of HT_.out (by kernel_rfl)) (by decide) (fun K hK => ?_)
            have hcv66 := own_string (P := Tryz.prog) Tryz.underlying23 Tryz.underlying5 Tryz.underlying9 (Kd.own_of_R HO336.out)
            refine value_ (w1 := ?_) (v := ?_) (by rfl) rfl ?_ ?_
            rotate_left 2
            ·go_simp
             constructor
             ·rfl
             ·rfl
            clear hcv66
            refine hK.out _ _ (Kd.R_reads' HO329.out).2.2 (fun hHeld => ?_)
            clear hK K
            refine norm_ (a' := ?_) ?_ ?_
            rotate_left
            ·show Act.put _ (some 68) _ = _
             simp only [Act.put, List.setIfInBounds_toArray, List.set_cons_zero, List.set_cons_succ, i64_w, i32_w]
             rfl
            refine pu_ 5 69 ?_
            refine pu_ 6 70 ?_
            refine pu_ 7 71 ?_
            refine one_ (i := 8) (N := some 72) #[true,true,true,true,true,true,true,true,true,false,false,false,false,false,false,false,false,false,false,false] rfl rfl (one_of HT_.out (by kernel_rfl)) (by decide) (fun K hK => ?_)
            refine goes_ Tryz.func17 (by kernel_rfl) rfl #[.int .i64 t331] (by rfl) rfl rfl (by (try simp only [List.map_toArray, List.map_cons, List.map_nil]); first | done | rfl | (simp only [List.length_drop, List.length_take]; rfl)) ?_
            with_reducible refine (folkmootlaw08_num.calls t331 t337 _ A51.out).mono ?_
            rintro e w' ⟨rfl, ⟨nd, rfl⟩⟩
            refine ⟨_, rfl, ?_⟩
            refine hK.out _ _ (Kd.R_reads' HO329.out).2.2 (fun hHeld => ?_)
            clear hK K
            refine norm_ (a' := ?_) ?_ ?_
            rotate_left
            ·show Act.put _ (some 72) _ = _
             simp only [Act.put, List.setIfInBounds_toArray, List.set_cons_zero, List.set_cons_succ, i64_w, i32_w]
             rfl
            refine pu_ 9 73 ?_
            refine pu_ 10 74 ?_
            refine pu_ 11 75 ?_
            refine pu_ 12 76 ?_
            refine pu_ 13 77 ?_
            refine one_ (i := 14) (N := some 78) #[true,true,true,true,true,true,true,true,true,true,true,true,true,true,true,false,false,false,false,false] rfl rfl (one_of HT_.out (by kernel_rfl)) (by decide) (fun K hK => ?_)
            refine goes_ Tryz.func21 (by kernel_rfl) rfl #[.slice Ao62 t330.length co62, .slice A0 l0.length c0] (by rfl) rfl rfl (by (try simp only [List.map_toArray, List.map_cons, List.map_nil]); first | done | rfl | (simp only [List.length_drop, List.length_take]; rfl)) ?_
            with_reducible refine (folkmootref08_Ops.calls kj11 _ _ t330 _ _ l0 true _ ?side1 ?side2 ?side3 ?side4 A53.out).mono ?_
            (case side1 => repeat (first | exact (Kd.R_reads' HO333.out).2.2 | (with_reducible refine Kd.C_alloc ?_ _) | (with_reducible refine Kd.C_drewN ?_ _) | (with_reducible refine Kd.C_drew ?_)))
            (case side2 => exact (Kd.R_reads' HO333.out).2.1)
            (case side3 => repeat (first | exact (Kd.C_below HR0.out bB_) | (with_reducible refine Kd.C_alloc ?_ _) | (with_reducible refine Kd.C_drewN ?_ _) | (with_reducible refine Kd.C_drew ?_)))
            (case side4 => exact HC0.out)
            rintro e w' ⟨rfl, ⟨nd, rfl⟩⟩
            refine ⟨_, rfl, ?_⟩
            refine hK.out _ _ (Kd.R_reads' HO329.out).2.2 (fun hHeld => ?_)
            clear hK K
            refine norm_ (a' := ?_) ?_ ?_
            rotate_left
            ·show Act.put _ (some 78) _ = _
             simp only [Act.put, List.setIfInBounds_toArray, List.set_cons_zero, List.set_cons_succ, i64_w, i32_w]
             rfl
            refine pu_ 15 79 ?_
            refine pu_ 16 80 ?_
            refine one_ (i := 17) (N := some 81) #[true,true,true,true,true,true,true,true,true,true,true,true,true,true,true,true,true,true,false,false] rfl rfl (one_of HT_.out (by kernel_rfl)) (by decide) (fun K hK => ?_)
            refine goes_ Tryz.func14 (by kernel_rfl) rfl #[] (by rfl) rfl rfl (by (try simp only [List.map_toArray, List.map_cons, List.map_nil]); first | done | rfl | (simp only [List.length_drop, List.length_take]; rfl)) ?_
            with_reducible refine (folkmootlaw08_live.calls  t339 _ A55.out).mono ?_
            rintro e w68 ⟨rfl, hb⟩
            refine ⟨_, rfl, ?_⟩
            have n0_ := Aside0.mk (Kd.R_below (rR_ HO326.out) hb)
            have n1_ := Aside0.mk (Kd.R_below (rR_ HO329.out) hb)
            have n2_ := Aside0.mk (Kd.R_below (rR_ HO333.out) hb)
            have n3_ := Aside0.mk (Kd.R_below (rR_ HO336.out) hb)
            have n4_ := Aside0.mk (below_step bB_ hb)
            clear HO326
            clear HO329
            clear HO333
            clear HO336
            clear HB
            have HO326 := n0_
            have HO329 := n1_
            have HO333 := n2_
            have HO336 := n3_
            have HB := n4_
            clear n0_ n1_ n2_ n3_ n4_
            (try clear hb)
            (try clear hb2)
            (try clear hk)
            (try clear hi)
            refine hK.out _ _ (Kd.R_reads' HO329.out).2.2 (fun hHeld => ?_)
            clear hK K
            refine norm_ (a' := ?_) ?_ ?_
            rotate_left
            ·show Act.put _ (some 81) _ = _
             simp only [Act.put, List.setIfInBounds_toArray, List.set_cons_zero, List.set_cons_succ, i64_w, i32_w]
             rfl
            refine pu_ 18 82 ?_
            refine pu_ 19 4 ?_
            refine done_ (done_of HT_.out (by kernel_rfl)) ?_
            try go_wp2
            go_ret
            exact ⟨by first | rfl | (rw [bl_gt] <;> rfl) | (simp [errW_none, errW_some] <;> rfl) | (simp [*, errW_none, errW_some] <;> rfl), bB_⟩
           ·replace c54 := Bool.eq_false_iff.mpr c54
            subst c54
            have H1 : (some false) = some r := by rw [if_neg (show ¬ (false = true) by decide)] at H; exact H
            clear H
            have H := H1
            clear H1
            obtain rfl := Option.some.inj H
            try go_wp2_with (first | ((with_reducible refine gate_callee (f := 20) rfl ?_); refine goesL_ (some 53) rfl rfl Tryz.func20 (by kernel_rfl) rfl #[.slice A0 l0.length c0] rfl (by (try simp only [List.map_toArray, List.map_cons, List.map_nil]); first | done | rfl | (simp only [List.length_drop, List.length_take]; rfl)) ?_; (with_reducible refine (folkmootref08_Check.calls kj11 _ _ l0 t322 _ ?side1 ?side2 A44.out).mono ?_); (case side1 => repeat (first | exact (Kd.C_below HR0.out HB.out) | (with_reducible refine Kd.C_alloc ?_ _) | (with_reducible refine Kd.C_drewN ?_ _) | (with_reducible refine Kd.C_drew ?_))); (case side2 => exact HC0.out); rintro e w69 ⟨rfl, hb⟩; refine ⟨_, rfl, ?_⟩; have n0_ := Aside0.mk (below_step bB_ hb); clear HB; have HB := n0_; clear n0_; (try clear hb); (try clear hb2); (try clear hk); (try clear hi)) | ((with_reducible refine gate_callee (f := 19) rfl ?_); refine goesL_ (some 57) rfl rfl Tryz.func19 (by kernel_rfl) rfl #[.slice A0 l0.length c0] rfl (by (try simp only [List.map_toArray, List.map_cons, List.map_nil]); first | done | rfl | (simp only [List.length_drop, List.length_take]; rfl)) ?_; (with_reducible refine (folkmootlaw08_ops.calls _ _ l0 t324 _ ?side1 ?side2 A46.out).mono ?_); (case side1 => repeat (first | exact (Kd.C_below HR0.out HB.out) | (with_reducible refine Kd.C_alloc ?_ _) | (with_reducible refine Kd.C_drewN ?_ _) | (with_reducible refine Kd.C_drew ?_))); (case side2 => exact HC0.out); rintro e w70 ⟨v325, rfl, ho0, hb⟩; refine ⟨_, rfl, ?_⟩; have n0_ := Aside0.mk (Kd.R_lower ho0 (below_size bB_)); have n1_ := Aside0.mk (below_step bB_ hb); clear HB; have HO326 := n0_; have HB := n1_; clear n0_ n1_; (try clear hb); (try clear hb2); (try clear hk); (try clear hi); (try clear ho0); obtain ⟨Ao71, co71, eo71⟩ := Kd.R_slice HO326.out; subst eo71) | ((with_reducible refine gate_callee (f := 22) rfl ?_); refine goesL_ (some 58) rfl rfl Tryz.func22 (by kernel_rfl) rfl #[.slice Ao71 t324.length co71] rfl (by (try simp only [List.map_toArray, List.map_cons, List.map_nil]); first | done | rfl | (simp only [List.length_drop, List.length_take]; rfl)) ?_; (with_reducible refine (txn_Put.calls _ _ t324 t327 _ ?side1 ?side2 A47.out).mono ?_); (case side1 => repeat (first | exact (Kd.R_reads' HO326.out).2.2 | (with_reducible refine Kd.C_alloc ?_ _) | (with_reducible refine Kd.C_drewN ?_ _) | (with_reducible refine Kd.C_drew ?_))); (case side2 => exact (Kd.R_reads' HO326.out).2.1); rintro e w72 ⟨v328, rfl, ho0, hb⟩; refine ⟨_, rfl, ?_⟩; have n0_ := Aside0.mk (Kd.R_below (rR_ HO326.out) hb); have n1_ := Aside0.mk (Kd.R_lower ho0 (below_size bB_)); have n2_ := Aside0.mk (below_step bB_ hb); clear HO326; clear HB; have HO326 := n0_; have HO329 := n1_; have HB := n2_; clear n0_ n1_ n2_; (try clear hb); (try clear hb2); (try clear hk); (try clear hi); (try clear ho0); obtain ⟨Ao73, co73, eo73⟩ := Kd.R_slice HO329.out; subst eo73) | ((with_reducible refine gate_callee (f := 15) rfl ?_); refine goesL_ (some 61) rfl rfl Tryz.func15 (by kernel_rfl) rfl #[.slice Ao73 t327.length co73] rfl (by (try simp only [List.map_toArray, List.map_cons, List.map_nil]); first | done | rfl | (simp only [List.length_drop, List.length_take]; rfl)) ?_; (with_reducible refine (txn_Parse.calls _ _ t327 t330 t331 _ ?side1 ?side2 A48.out).mono ?_); (case side1 => repeat (first | exact (Kd.R_reads' HO329.out).2.2 | (with_reducible refine Kd.C_alloc ?_ _) | (with_reducible refine Kd.C_drewN ?_ _) | (with_reducible refine Kd.C_drew ?_))); (case side2 => exact (Kd.R_reads' HO329.out).2.1); rintro e w74 ⟨v332, rfl, ho0, hb⟩; refine ⟨_, rfl, ?_⟩; have n0_ := Aside0.mk (Kd.R_elder' (rR_ HO326.out) (Kd.R_base ho0) hb); have n1_ := Aside0.mk (Kd.R_below (rR_ HO329.out) hb); have n2_ := Aside0.mk (Kd.R_lower (Kd.R_new' ho0 (Kd.R_lt (rR_ HO326.out))) (below_size bB_)); have n3_ := Aside0.mk (below_step bB_ hb); clear HO326; clear HO329; clear HB; have HO326 := n0_; have HO329 := n1_; have HO333 := n2_; have HB := n3_; clear n0_ n1_ n2_ n3_; (try clear hb); (try clear hb2); (try clear hk); (try clear hi); (try clear ho0); obtain ⟨Ao75, co75, eo75⟩ := Kd.R_slice HO333.out; subst eo75))
            have n0_ := Aside0.mk (Kd.R_drew HO326.out)
            have n1_ := Aside0.mk (Kd.R_drew HO329.out)
            have n2_ := Aside0.mk (Kd.R_drew HO333.out)
            have n3_ := Aside0.mk (below_drew1 HB.out)
            clear HO326
            clear HO329
            clear HO333
            clear HB
            have HO326 := n0_
            have HO329 := n1_
            have HO333 := n2_
            have HB := n3_
            clear n0_ n1_ n2_ n3_
            have hcv77 := own_string (P := Tryz.prog) Tryz.underlying23 Tryz.underlying5 Tryz.underlying9 (Kd.own_of_R HO329.out)
            refine start_ (n := 20) (S := (fun w' => Kd.C (Kd.int .u8) w' Ao73 t327.length t327)) (ds := []) #[false,false,false,false,false,false,false,false,false,false,false,false,false,false,false,false,false,false,false,false] (by kernel_rfl) rfl rfl (by first | exact (Kd.R_reads' HO329.out).2.2 | exact Kd.C_drew (Kd.R_reads' HO329.out).2.2) (fun hHeld => ?_); refine with_tabW folkmootlaw08_TxnChecks.tab11 folkmootlaw08_TxnChecks.bits11 (fun HT_ HW_ => ?_)
            generalize w74.drew = w76 at HO326 HO329 HO333 HB hHeld ⊢
            refine pu_ 0 64 ?_
            refine take_ (i := 1) (N := some 65) (v := ?_) (a' := ?_) #[true,true,false,false,false,false,false,false,false,false,false,false,false,false,false,false,false,false,false,false] rfl rfl (take_ofW HT_.out HW_.out (by kernel_rfl)) (fun _ _ _ h => h) (Or.inl ⟨by rfl, ?_⟩) hHeld ?_ ?_
            rotate_left
            ·intro w' hSw
             have hcvS := Kd.C_string (P := Tryz.prog) (A := Ao73) (c := co73) Tryz.underlying23 Tryz.underlying5 Tryz.underlying9 hSw
             go_simp
             with_reducible rfl
            rotate_left
            ·simp only [Act.put, List.setIfInBounds_toArray, List.set_cons_zero, List.set_cons_succ, i64_w, i32_w]
             rfl
            refine pu_ 2 66 ?_
            refine one_ (i := 3) (N := some 67) #[true,true,true,true,false,false,false,false,false,false,false,false,false,false,false,false,false,false,false,false] rfl rfl (one_of HT_.out (by kernel_rfl)) (by decide) (fun K hK => ?_)
            refine goes_ Tryz.func23 (by kernel_rfl) rfl #[.slice none 0 0, .slice A0 l0.length c0] (by rfl) rfl rfl (by (try simp only [List.map_toArray, List.map_cons, List.map_nil]); first | done | rfl | (simp only [List.length_drop, List.length_take]; rfl)) ?_
            refine (folkmootref08_Lay.calls none 0 ([] : List Int) _ _ l0 t334 _ ?side1 ?side2 ?side3 ?side4 A49.out).mono ?_
            (case side1 => exact Kd.C_nil _ _)
            (case side2 => exact Nat.le_refl _)
            (case side3 => repeat (first | exact (Kd.C_below HR0.out HB.out) | (with_reducible refine Kd.C_alloc ?_ _) | (with_reducible refine Kd.C_drewN ?_ _) | (with_reducible refine Kd.C_drew ?_)))
            (case side4 => exact HC0.out)
            rintro e w78 ⟨v335, rfl, ho0, hb⟩
            refine ⟨_, rfl, ?_⟩
            have n0_ := Aside0.mk (Kd.R_below (rR_ HO326.out) hb)
            have n1_ := Aside0.mk (Kd.R_elder' (rR_ HO329.out) (Kd.R_base ho0) hb)
            have n2_ := Aside0.mk (Kd.R_below (rR_ HO333.out) hb)
            have n3_ := Aside0.mk (Kd.R_lower (Kd.R_new' ho0 (Kd.R_lt (rR_ HO329.out))) (below_size bB_))
            have n4_ := Aside0.mk (below_step bB_ hb)
            clear HO326
            clear HO329
            clear HO333
            clear HB
            have HO326 := n0_
            have HO329 := n1_
            have HO333 := n2_
            have HO336 := n3_
            have HB := n4_
            clear n0_ n1_ n2_ n3_ n4_
            (try clear hb)
            (try clear hb2)
            (try clear hk)
            (try clear hi)
            (try clear ho0)
            refine hK.out _ _ (Kd.R_reads' HO329.out).2.2 (fun hHeld => ?_)
            clear hK K
            refine norm_ (a' := ?_) ?_ ?_
            rotate_left
            ·show Act.put _ (some 67) _ = _
             simp only [Act.put, List.setIfInBounds_toArray, List.set_cons_zero, List.set_cons_succ, i64_w, i32_w]
             rfl
            refine one_ (i := 4) (N := some 68) #[true,true,true,true,true,false,false,false,false,false,false,false,false,false,false,false,false,false,false,false] rfl rfl (one_of HT_.out (by kernel_rfl)) (by decide) (fun K hK => ?_)
            have hcv79 := own_string (P := Tryz.prog) Tryz.underlying23 Tryz.underlying5 Tryz.underlying9 (Kd.own_of_R HO336.out)
            refine value_ (w1 := ?_) (v := ?_) (by rfl) rfl ?_ ?_
            rotate_left 2
            ·go_simp
             constructor
             ·rfl
             ·rfl
            clear hcv79
            refine hK.out _ _ (Kd.R_reads' HO329.out).2.2 (fun hHeld => ?_)
            clear hK K
            refine norm_ (a' := ?_) ?_ ?_
            rotate_left
            ·show Act.put _ (some 68) _ = _
             simp only [Act.put, List.setIfInBounds_toArray, List.set_cons_zero, List.set_cons_succ, i64_w, i32_w]
             rfl
            refine pu_ 5 69 ?_
            refine pu_ 6 70 ?_
            refine pu_ 7 71 ?_
            refine one_ (i := 8) (N := some 72) #[true,true,true,true,true,true,true,true,true,false,false,false,false,false,false,false,false,false,false,false] rfl rfl (one_of HT_.out (by kernel_rfl)) (by decide) (fun K hK => ?_)
            refine goes_ Tryz.func17 (by kernel_rfl) rfl #[.int .i64 t331] (by rfl) rfl rfl (by (try simp only [List.map_toArray, List.map_cons, List.map_nil]); first | done | rfl | (simp only [List.length_drop, List.length_take]; rfl)) ?_
            with_reducible refine (folkmootlaw08_num.calls t331 t337 _ A51.out).mono ?_
            rintro e w' ⟨rfl, ⟨nd, rfl⟩⟩
            refine ⟨_, rfl, ?_⟩
            refine hK.out _ _ (Kd.R_reads' HO329.out).2.2 (fun hHeld => ?_)
            clear hK K
            refine norm_ (a' := ?_) ?_ ?_
            rotate_left
            ·show Act.put _ (some 72) _ = _
             simp only [Act.put, List.setIfInBounds_toArray, List.set_cons_zero, List.set_cons_succ, i64_w, i32_w]
             rfl
            refine pu_ 9 73 ?_
            refine pu_ 10 74 ?_
            refine pu_ 11 75 ?_
            refine pu_ 12 76 ?_
            refine pu_ 13 77 ?_
            refine one_ (i := 14) (N := some 78) #[true,true,true,true,true,true,true,true,true,true,true,true,true,true,true,false,false,false,false,false] rfl rfl (one_of HT_.out (by kernel_rfl)) (by decide) (fun K hK => ?_)
            refine goes_ Tryz.func21 (by kernel_rfl) rfl #[.slice Ao75 t330.length co75, .slice A0 l0.length c0] (by rfl) rfl rfl (by (try simp only [List.map_toArray, List.map_cons, List.map_nil]); first | done | rfl | (simp only [List.length_drop, List.length_take]; rfl)) ?_
            with_reducible refine (folkmootref08_Ops.calls kj11 _ _ t330 _ _ l0 false _ ?side1 ?side2 ?side3 ?side4 A53.out).mono ?_
            (case side1 => repeat (first | exact (Kd.R_reads' HO333.out).2.2 | (with_reducible refine Kd.C_alloc ?_ _) | (with_reducible refine Kd.C_drewN ?_ _) | (with_reducible refine Kd.C_drew ?_)))
            (case side2 => exact (Kd.R_reads' HO333.out).2.1)
            (case side3 => repeat (first | exact (Kd.C_below HR0.out bB_) | (with_reducible refine Kd.C_alloc ?_ _) | (with_reducible refine Kd.C_drewN ?_ _) | (with_reducible refine Kd.C_drew ?_)))
            (case side4 => exact HC0.out)
            rintro e w' ⟨rfl, ⟨nd, rfl⟩⟩
            refine ⟨_, rfl, ?_⟩
            refine hK.out _ _ (Kd.R_reads' HO329.out).2.2 (fun hHeld => ?_)
            clear hK K
            refine norm_ (a' := ?_) ?_ ?_
            rotate_left
            ·show Act.put _ (some 78) _ = _
             simp only [Act.put, List.setIfInBounds_toArray, List.set_cons_zero, List.set_cons_succ, i64_w, i32_w]
             rfl
            refine pu_ 15 79 ?_
            refine pu_ 16 80 ?_
            refine pure_ (i := 17) (N := some 81) (v := undef) (a' := ?_) #[true,true,true,true,true,true,true,true,true,true,true,true,true,true,true,true,true,true,false,false] rfl rfl (any_of HT_.out (by kernel_rfl)) (fun _ _ _ h => h) (Or.inr ⟨by rfl, rfl⟩) ?_ ?_
            rotate_left
            ·simp only [Act.put, List.setIfInBounds_toArray, List.set_cons_zero, List.set_cons_succ, i64_w, i32_w]
             rfl
            refine pu_ 18 82 ?_
            refine pu_ 19 4 ?_
            refine done_ (done_of HT_.out (by kernel_rfl)) ?_
            try go_wp2
            go_ret
            exact ⟨by first | rfl | (rw [bl_gt] <;> rfl) | (simp [errW_none, errW_some] <;> rfl) | (simp [*, errW_none, errW_some] <;> rfl), bB_⟩
          ·rw [if_neg c52] at H
           have c52b0 : (t337 == 0) = false := beq_eq_false_iff_ne.mpr c52
           have c52b1 : (t337 != 0) = true := bne_iff_ne.mpr c52
           obtain rfl := Option.some.inj H
           try go_wp2_with (first | ((with_reducible refine gate_callee (f := 20) rfl ?_); refine goesL_ (some 53) rfl rfl Tryz.func20 (by kernel_rfl) rfl #[.slice A0 l0.length c0] rfl (by (try simp only [List.map_toArray, List.map_cons, List.map_nil]); first | done | rfl | (simp only [List.length_drop, List.length_take]; rfl)) ?_; (with_reducible refine (folkmootref08_Check.calls kj11 _ _ l0 t322 _ ?side1 ?side2 A44.out).mono ?_); (case side1 => repeat (first | exact (Kd.C_below HR0.out HB.out) | (with_reducible refine Kd.C_alloc ?_ _) | (with_reducible refine Kd.C_drewN ?_ _) | (with_reducible refine Kd.C_drew ?_))); (case side2 => exact HC0.out); rintro e w81 ⟨rfl, hb⟩; refine ⟨_, rfl, ?_⟩; have n0_ := Aside0.mk (below_step bB_ hb); clear HB; have HB := n0_; clear n0_; (try clear hb); (try clear hb2); (try clear hk); (try clear hi)) | ((with_reducible refine gate_callee (f := 19) rfl ?_); refine goesL_ (some 57) rfl rfl Tryz.func19 (by kernel_rfl) rfl #[.slice A0 l0.length c0] rfl (by (try simp only [List.map_toArray, List.map_cons, List.map_nil]); first | done | rfl | (simp only [List.length_drop, List.length_take]; rfl)) ?_; (with_reducible refine (folkmootlaw08_ops.calls _ _ l0 t324 _ ?side1 ?side2 A46.out).mono ?_); (case side1 => repeat (first | exact (Kd.C_below HR0.out HB.out) | (with_reducible refine Kd.C_alloc ?_ _) | (with_reducible refine Kd.C_drewN ?_ _) | (with_reducible refine Kd.C_drew ?_))); (case side2 => exact HC0.out); rintro e w82 ⟨v325, rfl, ho0, hb⟩; refine ⟨_, rfl, ?_⟩; have n0_ := Aside0.mk (Kd.R_lower ho0 (below_size bB_)); have n1_ := Aside0.mk (below_step bB_ hb); clear HB; have HO326 := n0_; have HB := n1_; clear n0_ n1_; (try clear hb); (try clear hb2); (try clear hk); (try clear hi); (try clear ho0); obtain ⟨Ao83, co83, eo83⟩ := Kd.R_slice HO326.out; subst eo83) | ((with_reducible refine gate_callee (f := 22) rfl ?_); refine goesL_ (some 58) rfl rfl Tryz.func22 (by kernel_rfl) rfl #[.slice Ao83 t324.length co83] rfl (by (try simp only [List.map_toArray, List.map_cons, List.map_nil]); first | done | rfl | (simp only [List.length_drop, List.length_take]; rfl)) ?_; (with_reducible refine (txn_Put.calls _ _ t324 t327 _ ?side1 ?side2 A47.out).mono ?_); (case side1 => repeat (first | exact (Kd.R_reads' HO326.out).2.2 | (with_reducible refine Kd.C_alloc ?_ _) | (with_reducible refine Kd.C_drewN ?_ _) | (with_reducible refine Kd.C_drew ?_))); (case side2 => exact (Kd.R_reads' HO326.out).2.1); rintro e w84 ⟨v328, rfl, ho0, hb⟩; refine ⟨_, rfl, ?_⟩; have n0_ := Aside0.mk (Kd.R_below (rR_ HO326.out) hb); have n1_ := Aside0.mk (Kd.R_lower ho0 (below_size bB_)); have n2_ := Aside0.mk (below_step bB_ hb); clear HO326; clear HB; have HO326 := n0_; have HO329 := n1_; have HB := n2_; clear n0_ n1_ n2_; (try clear hb); (try clear hb2); (try clear hk); (try clear hi); (try clear ho0); obtain ⟨Ao85, co85, eo85⟩ := Kd.R_slice HO329.out; subst eo85) | ((with_reducible refine gate_callee (f := 15) rfl ?_); refine goesL_ (some 61) rfl rfl Tryz.func15 (by kernel_rfl) rfl #[.slice Ao85 t327.length co85] rfl (by (try simp only [List.map_toArray, List.map_cons, List.map_nil]); first | done | rfl | (simp only [List.length_drop, List.length_take]; rfl)) ?_; (with_reducible refine (txn_Parse.calls _ _ t327 t330 t331 _ ?side1 ?side2 A48.out).mono ?_); (case side1 => repeat (first | exact (Kd.R_reads' HO329.out).2.2 | (with_reducible refine Kd.C_alloc ?_ _) | (with_reducible refine Kd.C_drewN ?_ _) | (with_reducible refine Kd.C_drew ?_))); (case side2 => exact (Kd.R_reads' HO329.out).2.1); rintro e w86 ⟨v332, rfl, ho0, hb⟩; refine ⟨_, rfl, ?_⟩; have n0_ := Aside0.mk (Kd.R_elder' (rR_ HO326.out) (Kd.R_base ho0) hb); have n1_ := Aside0.mk (Kd.R_below (rR_ HO329.out) hb); have n2_ := Aside0.mk (Kd.R_lower (Kd.R_new' ho0 (Kd.R_lt (rR_ HO326.out))) (below_size bB_)); have n3_ := Aside0.mk (below_step bB_ hb); clear HO326; clear HO329; clear HB; have HO326 := n0_; have HO329 := n1_; have HO333 := n2_; have HB := n3_; clear n0_ n1_ n2_ n3_; (try clear hb); (try clear hb2); (try clear hk); (try clear hi); (try clear ho0)))
           have n0_ := Aside0.mk (Kd.R_drew HO326.out)
           have n1_ := Aside0.mk (Kd.R_drew HO329.out)
           have n2_ := Aside0.mk (Kd.R_drew HO333.out)
           have n3_ := Aside0.mk (below_drew1 HB.out)
           clear HO326
           clear HO329
           clear HO333
           clear HB
           have HO326 := n0_
           have HO329 := n1_
           have HO333 := n2_
           have HB := n3_
           clear n0_ n1_ n2_ n3_
           have hcv88 := own_string (P := Tryz.prog) Tryz.underlying23 Tryz.underlying5 Tryz.underlying9 (Kd.own_of_R HO329.out)
           refine start_ (n := 20) (S := (fun w' => Kd.C (Kd.int .u8) w' Ao85 t327.length t327)) (ds := []) #[false,false,false,false,false,false,false,false,false,false,false,false,false,false,false,false,false,false,false,false] (by kernel_rfl) rfl rfl (by first | exact (Kd.R_reads' HO329.out).2.2 | exact Kd.C_drew (Kd.R_reads' HO329.out).2.2) (fun hHeld => ?_); refine with_tabW folkmootlaw08_TxnChecks.tab11 folkmootlaw08_TxnChecks.bits11 (fun HT_ HW_ => ?_)
           generalize w86.drew = w87 at HO326 HO329 HO333 HB hHeld ⊢
           refine pu_ 0 64 ?_
           refine take_ (i := 1) (N := some 65) (v := ?_) (a' := ?_) #[true,true,false,false,false,false,false,false,false,false,false,false,false,false,false,false,false,false,false,false] rfl rfl (take_ofW HT_.out HW_.out (by kernel_rfl)) (fun _ _ _ h => h) (Or.inl ⟨by rfl, ?_⟩) hHeld ?_ ?_
           rotate_left
           ·intro w' hSw
            have hcvS := Kd.C_string (P := Tryz.prog) (A := Ao85) (c := co85) Tryz.underlying23 Tryz.underlying5 Tryz.underlying9 hSw
            go_simp
            with_reducible rfl
           rotate_left
           ·simp only [Act.put, List.setIfInBounds_toArray, List.set_cons_zero, List.set_cons_succ, i64_w, i32_w]
            rfl
           refine pu_ 2 66 ?_
           refine one_ (i := 3) (N := some 67) #[true,true,true,true,false,false,false,false,false,false,false,false,false,false,false,false,false,false,false,false] rfl rfl (one_of HT_.out (by kernel_rfl)) (by decide) (fun K hK => ?_)
           refine goes_ Tryz.func23 (by kernel_rfl) rfl #[.slice none 0 0, .slice A0 l0.length c0] (by rfl) rfl rfl (by (try simp only [List.map_toArray, List.map_cons, List.map_nil]); first | done | rfl | (simp only [List.length_drop, List.length_take]; rfl)) ?_
           refine (folkmootref08_Lay.calls none 0 ([] : List Int) _ _ l0 t334 _ ?side1 ?side2 ?side3 ?side4 A49.out).mono ?_
           (case side1 => exact Kd.C_nil _ _)
           (case side2 => exact Nat.le_refl _)
           (case side3 => repeat (first | exact (Kd.C_below HR0.out HB.out) | (with_reducible refine Kd.C_alloc ?_ _) | (with_reducible refine Kd.C_drewN ?_ _) | (with_reducible refine Kd.C_drew ?_)))
           (case side4 => exact HC0.out)
           rintro e w89 ⟨v335, rfl, ho0, hb⟩
           refine ⟨_, rfl, ?_⟩
           have n0_ := Aside0.mk (Kd.R_below (rR_ HO326.out) hb)
           have n1_ := Aside0.mk (Kd.R_elder' (rR_ HO329.out) (Kd.R_base ho0) hb)
           have n2_ := Aside0.mk (Kd.R_below (rR_ HO333.out) hb)
           have n3_ := Aside0.mk (Kd.R_lower (Kd.R_new' ho0 (Kd.R_lt (rR_ HO329.out))) (below_size bB_))
           have n4_ := Aside0.mk (below_step bB_ hb)
           clear HO326
           clear HO329
           clear HO333
           clear HB
           have HO326 := n0_
           have HO329 := n1_
           have HO333 := n2_
           have HO336 := n3_
           have HB := n4_
           clear n0_ n1_ n2_ n3_ n4_
           (try clear hb)
           (try clear hb2)
           (try clear hk)
           (try clear hi)
           (try clear ho0)
           refine hK.out _ _ (Kd.R_reads' HO329.out).2.2 (fun hHeld => ?_)
           clear hK K
           refine norm_ (a' := ?_) ?_ ?_
           rotate_left
           ·show Act.put _ (some 67) _ = _
            simp only [Act.put, List.setIfInBounds_toArray, List.set_cons_zero, List.set_cons_succ, i64_w, i32_w]
            rfl
           refine one_ (i := 4) (N := some 68) #[true,true,true,true,true,false,false,false,false,false,false,false,false,false,false,false,false,false,false,false] rfl rfl (one_of HT_.out (by kernel_rfl)) (by decide) (fun K hK => ?_)
           have hcv90 := own_string (P := Tryz.prog) Tryz.underlying23 Tryz.underlying5 Tryz.underlying9 (Kd.own_of_R HO336.out)
           refine value_ (w1 := ?_) (v := ?_) (by rfl) rfl ?_ ?_
           rotate_left 2
           ·go_simp
            constructor
            ·rfl
            ·rfl
           clear hcv90
           refine hK.out _ _ (Kd.R_reads' HO329.out).2.2 (fun hHeld => ?_)
           clear hK K
           refine norm_ (a' := ?_) ?_ ?_
           rotate_left
           ·show Act.put _ (some 68) _ = _
            simp only [Act.put, List.setIfInBounds_toArray, List.set_cons_zero, List.set_cons_succ, i64_w, i32_w]
            rfl
           refine pu_ 5 69 ?_
           refine pu_ 6 70 ?_
           refine pu_ 7 71 ?_
           refine one_ (i := 8) (N := some 72) #[true,true,true,true,true,true,true,true,true,false,false,false,false,false,false,false,false,false,false,false] rfl rfl (one_of HT_.out (by kernel_rfl)) (by decide) (fun K hK => ?_)
           refine goes_ Tryz.func17 (by kernel_rfl) rfl #[.int .i64 t331] (by rfl) rfl rfl (by (try simp only [List.map_toArray, List.map_cons, List.map_nil]); first | done | rfl | (simp only [List.length_drop, List.length_take]; rfl)) ?_
           with_reducible refine (folkmootlaw08_num.calls t331 t337 _ A51.out).mono ?_
           rintro e w' ⟨rfl, ⟨nd, rfl⟩⟩
           refine ⟨_, rfl, ?_⟩
           refine hK.out _ _ (Kd.R_reads' HO329.out).2.2 (fun hHeld => ?_)
           clear hK K
           refine norm_ (a' := ?_) ?_ ?_
           rotate_left
           ·show Act.put _ (some 72) _ = _
            simp only [Act.put, List.setIfInBounds_toArray, List.set_cons_zero, List.set_cons_succ, i64_w, i32_w]
            rfl
           refine pu_ 9 73 ?_
           refine pu_ 10 74 ?_
           refine pu_ 11 75 ?_
           refine pure_ (i := 12) (N := some 76) (v := undef) (a' := ?_) #[true,true,true,true,true,true,true,true,true,true,true,true,true,false,false,false,false,false,false,false] rfl rfl (any_of HT_.out (by kernel_rfl)) (fun _ _ _ h => h) (Or.inr ⟨by rfl, rfl⟩) ?_ ?_
           rotate_left
           ·simp only [Act.put, List.setIfInBounds_toArray, List.set_cons_zero, List.set_cons_succ, i64_w, i32_w]
            rfl
           refine pure_ (i := 13) (N := some 77) (v := undef) (a' := ?_) #[true,true,true,true,true,true,true,true,true,true,true,true,true,true,false,false,false,false,false,false] rfl rfl (any_of HT_.out (by kernel_rfl)) (fun _ _ _ h => h) (Or.inr ⟨by rfl, rfl⟩) ?_ ?_
           rotate_left
           ·simp only [Act.put, List.setIfInBounds_toArray, List.set_cons_zero, List.set_cons_succ, i64_w, i32_w]
            rfl
           refine pure_ (i := 14) (N := some 78) (v := undef) (a' := ?_) #[true,true,true,true,true,true,true,true,true,true,true,true,true,true,true,false,false,false,false,false] rfl rfl (any_of HT_.out (by kernel_rfl)) (fun _ _ _ h => h) (Or.inr ⟨by rfl, rfl⟩) ?_ ?_
           rotate_left
           ·simp only [Act.put, List.setIfInBounds_toArray, List.set_cons_zero, List.set_cons_succ, i64_w, i32_w]
            rfl
           refine pu_ 15 79 ?_
           refine pu_ 16 80 ?_
           refine pure_ (i := 17) (N := some 81) (v := undef) (a' := ?_) #[true,true,true,true,true,true,true,true,true,true,true,true,true,true,true,true,true,true,false,false] rfl rfl (any_of HT_.out (by kernel_rfl)) (fun _ _ _ h => h) (Or.inr ⟨by rfl, rfl⟩) ?_ ?_
           rotate_left
           ·simp only [Act.put, List.setIfInBounds_toArray, List.set_cons_zero, List.set_cons_succ, i64_w, i32_w]
            rfl
           refine pu_ 18 82 ?_
           refine pu_ 19 4 ?_
           refine done_ (done_of HT_.out (by kernel_rfl)) ?_
           try go_wp2
           go_ret
           exact ⟨by first | rfl | (rw [bl_gt] <;> rfl) | (simp [errW_none, errW_some] <;> rfl) | (simp [*, errW_none, errW_some] <;> rfl), bB_⟩
         ·rw [if_neg c50] at H
          have c50b0 : ((strOfNums t327).toList == (strOfNums t334).toList) = false := beq_eq_false_iff_ne.mpr c50
          have c50b1 : ((strOfNums t327).toList != (strOfNums t334).toList) = true := bne_iff_ne.mpr c50
          obtain rfl := Option.some.inj H
          try go_wp2_with (first | ((with_reducible refine gate_callee (f := 20) rfl ?_); refine goesL_ (some 53) rfl rfl Tryz.func20 (by kernel_rfl) rfl #[.slice A0 l0.length c0] rfl (by (try simp only [List.map_toArray, List.map_cons, List.map_nil]); first | done | rfl | (simp only [List.length_drop, List.length_take]; rfl)) ?_; (with_reducible refine (folkmootref08_Check.calls kj11 _ _ l0 t322 _ ?side1 ?side2 A44.out).mono ?_); (case side1 => repeat (first | exact (Kd.C_below HR0.out HB.out) | (with_reducible refine Kd.C_alloc ?_ _) | (with_reducible refine Kd.C_drewN ?_ _) | (with_reducible refine Kd.C_drew ?_))); (case side2 => exact HC0.out); rintro e w92 ⟨rfl, hb⟩; refine ⟨_, rfl, ?_⟩; have n0_ := Aside0.mk (below_step bB_ hb); clear HB; have HB := n0_; clear n0_; (try clear hb); (try clear hb2); (try clear hk); (try clear hi)) | ((with_reducible refine gate_callee (f := 19) rfl ?_); refine goesL_ (some 57) rfl rfl Tryz.func19 (by kernel_rfl) rfl #[.slice A0 l0.length c0] rfl (by (try simp only [List.map_toArray, List.map_cons, List.map_nil]); first | done | rfl | (simp only [List.length_drop, List.length_take]; rfl)) ?_; (with_reducible refine (folkmootlaw08_ops.calls _ _ l0 t324 _ ?side1 ?side2 A46.out).mono ?_); (case side1 => repeat (first | exact (Kd.C_below HR0.out HB.out) | (with_reducible refine Kd.C_alloc ?_ _) | (with_reducible refine Kd.C_drewN ?_ _) | (with_reducible refine Kd.C_drew ?_))); (case side2 => exact HC0.out); rintro e w93 ⟨v325, rfl, ho0, hb⟩; refine ⟨_, rfl, ?_⟩; have n0_ := Aside0.mk (Kd.R_lower ho0 (below_size bB_)); have n1_ := Aside0.mk (below_step bB_ hb); clear HB; have HO326 := n0_; have HB := n1_; clear n0_ n1_; (try clear hb); (try clear hb2); (try clear hk); (try clear hi); (try clear ho0); obtain ⟨Ao94, co94, eo94⟩ := Kd.R_slice HO326.out; subst eo94) | ((with_reducible refine gate_callee (f := 22) rfl ?_); refine goesL_ (some 58) rfl rfl Tryz.func22 (by kernel_rfl) rfl #[.slice Ao94 t324.length co94] rfl (by (try simp only [List.map_toArray, List.map_cons, List.map_nil]); first | done | rfl | (simp only [List.length_drop, List.length_take]; rfl)) ?_; (with_reducible refine (txn_Put.calls _ _ t324 t327 _ ?side1 ?side2 A47.out).mono ?_); (case side1 => repeat (first | exact (Kd.R_reads' HO326.out).2.2 | (with_reducible refine Kd.C_alloc ?_ _) | (with_reducible refine Kd.C_drewN ?_ _) | (with_reducible refine Kd.C_drew ?_))); (case side2 => exact (Kd.R_reads' HO326.out).2.1); rintro e w95 ⟨v328, rfl, ho0, hb⟩; refine ⟨_, rfl, ?_⟩; have n0_ := Aside0.mk (Kd.R_below (rR_ HO326.out) hb); have n1_ := Aside0.mk (Kd.R_lower ho0 (below_size bB_)); have n2_ := Aside0.mk (below_step bB_ hb); clear HO326; clear HB; have HO326 := n0_; have HO329 := n1_; have HB := n2_; clear n0_ n1_ n2_; (try clear hb); (try clear hb2); (try clear hk); (try clear hi); (try clear ho0); obtain ⟨Ao96, co96, eo96⟩ := Kd.R_slice HO329.out; subst eo96) | ((with_reducible refine gate_callee (f := 15) rfl ?_); refine goesL_ (some 61) rfl rfl Tryz.func15 (by kernel_rfl) rfl #[.slice Ao96 t327.length co96] rfl (by (try simp only [List.map_toArray, List.map_cons, List.map_nil]); first | done | rfl | (simp only [List.length_drop, List.length_take]; rfl)) ?_; (with_reducible refine (txn_Parse.calls _ _ t327 t330 t331 _ ?side1 ?side2 A48.out).mono ?_); (case side1 => repeat (first | exact (Kd.R_reads' HO329.out).2.2 | (with_reducible refine Kd.C_alloc ?_ _) | (with_reducible refine Kd.C_drewN ?_ _) | (with_reducible refine Kd.C_drew ?_))); (case side2 => exact (Kd.R_reads' HO329.out).2.1); rintro e w97 ⟨v332, rfl, ho0, hb⟩; refine ⟨_, rfl, ?_⟩; have n0_ := Aside0.mk (Kd.R_elder' (rR_ HO326.out) (Kd.R_base ho0) hb); have n1_ := Aside0.mk (Kd.R_below (rR_ HO329.out) hb); have n2_ := Aside0.mk (Kd.R_lower (Kd.R_new' ho0 (Kd.R_lt (rR_ HO326.out))) (below_size bB_)); have n3_ := Aside0.mk (below_step bB_ hb); clear HO326; clear HO329; clear HB; have HO326 := n0_; have HO329 := n1_; have HO333 := n2_; have HB := n3_; clear n0_ n1_ n2_ n3_; (try clear hb); (try clear hb2); (try clear hk); (try clear hi); (try clear ho0)))
          have n0_ := Aside0.mk (Kd.R_drew HO326.out)
          have n1_ := Aside0.mk (Kd.R_drew HO329.out)
          have n2_ := Aside0.mk (Kd.R_drew HO333.out)
          have n3_ := Aside0.mk (below_drew1 HB.out)
          clear HO326
          clear HO329
          clear HO333
          clear HB
          have HO326 := n0_
          have HO329 := n1_
          have HO333 := n2_
          have HB := n3_
          clear n0_ n1_ n2_ n3_
          have hcv99 := own_string (P := Tryz.prog) Tryz.underlying23 Tryz.underlying5 Tryz.underlying9 (Kd.own_of_R HO329.out)
          refine start_ (n := 20) (S := (fun w' => Kd.C (Kd.int .u8) w' Ao96 t327.length t327)) (ds := []) #[false,false,false,false,false,false,false,false,false,false,false,false,false,false,false,false,false,false,false,false] (by kernel_rfl) rfl rfl (by first | exact (Kd.R_reads' HO329.out).2.2 | exact Kd.C_drew (Kd.R_reads' HO329.out).2.2) (fun hHeld => ?_); refine with_tabW folkmootlaw08_TxnChecks.tab11 folkmootlaw08_TxnChecks.bits11 (fun HT_ HW_ => ?_)
          generalize w97.drew = w98 at HO326 HO329 HO333 HB hHeld ⊢
          refine pu_ 0 64 ?_
          refine take_ (i := 1) (N := some 65) (v := ?_) (a' := ?_) #[true,true,false,false,false,false,false,false,false,false,false,false,false,false,false,false,false,false,false,false] rfl rfl (take_ofW HT_.out HW_.out (by kernel_rfl)) (fun _ _ _ h => h) (Or.inl ⟨by rfl, ?_⟩) hHeld ?_ ?_
          rotate_left
          ·intro w' hSw
           have hcvS := Kd.C_string (P := Tryz.prog) (A := Ao96) (c := co96) Tryz.underlying23 Tryz.underlying5 Tryz.underlying9 hSw
           go_simp
           with_reducible rfl
          rotate_left
          ·simp only [Act.put, List.setIfInBounds_toArray, List.set_cons_zero, List.set_cons_succ, i64_w, i32_w]
           rfl
          refine pu_ 2 66 ?_
          refine one_ (i := 3) (N := some 67) #[true,true,true,true,false,false,false,false,false,false,false,false,false,false,false,false,false,false,false,false] rfl rfl (one_of HT_.out (by kernel_rfl)) (by decide) (fun K hK => ?_)
          refine goes_ Tryz.func23 (by kernel_rfl) rfl #[.slice none 0 0, .slice A0 l0.length c0] (by rfl) rfl rfl (by (try simp only [List.map_toArray, List.map_cons, List.map_nil]); first | done | rfl | (simp only [List.length_drop, List.length_take]; rfl)) ?_
          refine (folkmootref08_Lay.calls none 0 ([] : List Int) _ _ l0 t334 _ ?side1 ?side2 ?side3 ?side4 A49.out).mono ?_
          (case side1 => exact Kd.C_nil _ _)
          (case side2 => exact Nat.le_refl _)
          (case side3 => repeat (first | exact (Kd.C_below HR0.out HB.out) | (with_reducible refine Kd.C_alloc ?_ _) | (with_reducible refine Kd.C_drewN ?_ _) | (with_reducible refine Kd.C_drew ?_)))
          (case side4 => exact HC0.out)
          rintro e w100 ⟨v335, rfl, ho0, hb⟩
          refine ⟨_, rfl, ?_⟩
          have n0_ := Aside0.mk (Kd.R_below (rR_ HO326.out) hb)
          have n1_ := Aside0.mk (Kd.R_elder' (rR_ HO329.out) (Kd.R_base ho0) hb)
          have n2_ := Aside0.mk (Kd.R_below (rR_ HO333.out) hb)
          have n3_ := Aside0.mk (Kd.R_lower (Kd.R_new' ho0 (Kd.R_lt (rR_ HO329.out))) (below_size bB_))
          have n4_ := Aside0.mk (below_step bB_ hb)
          clear HO326
          clear HO329
          clear HO333
          clear HB
          have HO326 := n0_
          have HO329 := n1_
          have HO333 := n2_
          have HO336 := n3_
          have HB := n4_
          clear n0_ n1_ n2_ n3_ n4_
          (try clear hb)
          (try clear hb2)
          (try clear hk)
          (try clear hi)
          (try clear ho0)
          refine hK.out _ _ (Kd.R_reads' HO329.out).2.2 (fun hHeld => ?_)
          clear hK K
          refine norm_ (a' := ?_) ?_ ?_
          rotate_left
          ·show Act.put _ (some 67) _ = _
           simp only [Act.put, List.setIfInBounds_toArray, List.set_cons_zero, List.set_cons_succ, i64_w, i32_w]
           rfl
          refine one_ (i := 4) (N := some 68) #[true,true,true,true,true,false,false,false,false,false,false,false,false,false,false,false,false,false,false,false] rfl rfl (one_of HT_.out (by kernel_rfl)) (by decide) (fun K hK => ?_)
          have hcv101 := own_string (P := Tryz.prog) Tryz.underlying23 Tryz.underlying5 Tryz.underlying9 (Kd.own_of_R HO336.out)
          refine value_ (w1 := ?_) (v := ?_) (by rfl) rfl ?_ ?_
          rotate_left 2
          ·go_simp
           constructor
           ·rfl
           ·rfl
          clear hcv101
          refine hK.out _ _ (Kd.R_reads' HO329.out).2.2 (fun hHeld => ?_)
          clear hK K
          refine norm_ (a' := ?_) ?_ ?_
          rotate_left
          ·show Act.put _ (some 68) _ = _
           simp only [Act.put, List.setIfInBounds_toArray, List.set_cons_zero, List.set_cons_succ, i64_w, i32_w]
           rfl
          refine pu_ 5 69 ?_
          refine pu_ 6 70 ?_
          refine pure_ (i := 7) (N := some 71) (v := undef) (a' := ?_) #[true,true,true,true,true,true,true,true,false,false,false,false,false,false,false,false,false,false,false,false] rfl rfl (any_of HT_.out (by kernel_rfl)) (fun _ _ _ h => h) (Or.inr ⟨by rfl, rfl⟩) ?_ ?_
          rotate_left
          ·simp only [Act.put, List.setIfInBounds_toArray, List.set_cons_zero, List.set_cons_succ, i64_w, i32_w]
           rfl
          refine pure_ (i := 8) (N := some 72) (v := undef) (a' := ?_) #[true,true,true,true,true,true,true,true,true,false,false,false,false,false,false,false,false,false,false,false] rfl rfl (any_of HT_.out (by kernel_rfl)) (fun _ _ _ h => h) (Or.inr ⟨by rfl, rfl⟩) ?_ ?_
          rotate_left
          ·simp only [Act.put, List.setIfInBounds_toArray, List.set_cons_zero, List.set_cons_succ, i64_w, i32_w]
           rfl
          refine pure_ (i := 9) (N := some 73) (v := undef) (a' := ?_) #[true,true,true,true,true,true,true,true,true,true,false,false,false,false,false,false,false,false,false,false] rfl rfl (any_of HT_.out (by kernel_rfl)) (fun _ _ _ h => h) (Or.inr ⟨by rfl, rfl⟩) ?_ ?_
          rotate_left
          ·simp only [Act.put, List.setIfInBounds_toArray, List.set_cons_zero, List.set_cons_succ, i64_w, i32_w]
           rfl
          refine pu_ 10 74 ?_
          refine pu_ 11 75 ?_
          refine pure_ (i := 12) (N := some 76) (v := undef) (a' := ?_) #[true,true,true,true,true,true,true,true,true,true,true,true,true,false,false,false,false,false,false,false] rfl rfl (any_of HT_.out (by kernel_rfl)) (fun _ _ _ h => h) (Or.inr ⟨by rfl, rfl⟩) ?_ ?_
          rotate_left
          ·simp only [Act.put, List.setIfInBounds_toArray, List.set_cons_zero, List.set_cons_succ, i64_w, i32_w]
           rfl
          refine pure_ (i := 13) (N := some 77) (v := undef) (a' := ?_) #[true,true,true,true,true,true,true,true,true,true,true,true,true,true,false,false,false,false,false,false] rfl rfl (any_of HT_.out (by kernel_rfl)) (fun _ _ _ h => h) (Or.inr ⟨by rfl, rfl⟩) ?_ ?_
          rotate_left
          ·simp only [Act.put, List.setIfInBounds_toArray, List.set_cons_zero, List.set_cons_succ, i64_w, i32_w]
           rfl
          refine pure_ (i := 14) (N := some 78) (v := undef) (a' := ?_) #[true,true,true,true,true,true,true,true,true,true,true,true,true,true,true,false,false,false,false,false] rfl rfl (any_of HT_.out (by kernel_rfl)) (fun _ _ _ h => h) (Or.inr ⟨by rfl, rfl⟩) ?_ ?_
          rotate_left
          ·simp only [Act.put, List.setIfInBounds_toArray, List.set_cons_zero, List.set_cons_succ, i64_w, i32_w]
           rfl
          refine pu_ 15 79 ?_
          refine pu_ 16 80 ?_
          refine pure_ (i := 17) (N := some 81) (v := undef) (a' := ?_) #[true,true,true,true,true,true,true,true,true,true,true,true,true,true,true,true,true,true,false,false] rfl rfl (any_of HT_.out (by kernel_rfl)) (fun _ _ _ h => h) (Or.inr ⟨by rfl, rfl⟩) ?_ ?_
          rotate_left
          ·simp only [Act.put, List.setIfInBounds_toArray, List.set_cons_zero, List.set_cons_succ, i64_w, i32_w]
           rfl
          refine pu_ 18 82 ?_
          refine pu_ 19 4 ?_
          refine done_ (done_of HT_.out (by kernel_rfl)) ?_
          try go_wp2
          go_ret
          exact ⟨by first | rfl | (rw [bl_gt] <;> rfl) | (simp [errW_none, errW_some] <;> rfl) | (simp [*, errW_none, errW_some] <;> rfl), bB_⟩
        ·rw [if_neg c45] at H
         have c45b0 : (t322 == 0) = false := beq_eq_false_iff_ne.mpr c45
         have c45b1 : (t322 != 0) = true := bne_iff_ne.mpr c45
         replace H := Option.bind_eq_some_iff.mp H
         obtain ⟨t323, A1030, H⟩ := H
         replace H : (some t323) = some r := H
         have A103 := Aside0.mk A1030
         clear A1030
         obtain rfl := Option.some.inj H
         go_wp2_with (first | ((with_reducible refine gate_callee (f := 20) rfl ?_); refine goesL_ (some 53) rfl rfl Tryz.func20 (by kernel_rfl) rfl #[.slice A0 l0.length c0] rfl (by (try simp only [List.map_toArray, List.map_cons, List.map_nil]); first | done | rfl | (simp only [List.length_drop, List.length_take]; rfl)) ?_; (with_reducible refine (folkmootref08_Check.calls kj11 _ _ l0 t322 _ ?side1 ?side2 A44.out).mono ?_); (case side1 => repeat (first | exact (Kd.C_below HR0.out HB.out) | (with_reducible refine Kd.C_alloc ?_ _) | (with_reducible refine Kd.C_drewN ?_ _) | (with_reducible refine Kd.C_drew ?_))); (case side2 => exact HC0.out); rintro e w104 ⟨rfl, hb⟩; refine ⟨_, rfl, ?_⟩; have n0_ := Aside0.mk (below_step bB_ hb); clear HB; have HB := n0_; clear n0_; (try clear hb); (try clear hb2); (try clear hk); (try clear hi)) | ((with_reducible refine gate_callee (f := 14) rfl ?_); refine goesL_ (some 55) rfl rfl Tryz.func14 (by kernel_rfl) rfl #[] rfl (by (try simp only [List.map_toArray, List.map_cons, List.map_nil]); first | done | rfl | (simp only [List.length_drop, List.length_take]; rfl)) ?_; (with_reducible refine (folkmootlaw08_live.calls  t323 _ A103.out).mono ?_); rintro e w105 ⟨rfl, hb⟩; refine ⟨_, rfl, ?_⟩; have n0_ := Aside0.mk (below_step bB_ hb); clear HB; have HB := n0_; clear n0_; (try clear hb); (try clear hb2); (try clear hk); (try clear hi)))
         go_ret
         exact ⟨by first | rfl | (rw [bl_gt] <;> rfl) | (simp [errW_none, errW_some] <;> rfl) | (simp [*, errW_none, errW_some] <;> rfl), bB_⟩
    ·rw [if_neg c9] at H
     exact absurd H (by simp)
end Go.Proofs.YtgmlenpcchhmbaaGreat.P
end
section
set_option linter.unusedVariables false
set_option linter.unusedSimpArgs false
namespace Go.Proofs.YtgmlenpcchhmbaaGreat.P
open Go.RowKit Go.Proofs.YtgmlenpcchhmbaaGreatW.PrintWords Go.Proofs.YtgmlenpcchhmbaaGreatW.PrintLast
theorem ops_l0 (d : List S63) (hd : d.length ≤ 1000000) : ∀ (m i : Nat), i + m = d.length → Ev (fun k => folkmootref08_Ops.l0 k d d (i : Int)) true
  | 0, i, h => by
    refine Ev.succ ?_
    simp only [folkmootref08_Ops.l0]
    exact Ev.no (by omega) (Ev.some _)
  | m + 1, i, h => by
    refine Ev.succ ?_
    simp only [folkmootref08_Ops.l0]
    rw [w64_succ (by omega)]
    exact Ev.yes (by omega) (Ev.yes (by omega) (Ev.yes (by omega) (Ev.no (by simp) (ops_l0 d hd m (i + 1) (by omega)))))
theorem ev_ops (d : List S63) (hd : d.length ≤ 1000000) : Ev (fun k => folkmootref08_Ops.f k d d) true := by
  unfold folkmootref08_Ops.f
  exact Ev.yes rfl (ops_l0 d hd d.length 0 (by omega))
theorem parseT_len (b : List Int) : (parseT b).1.length ≤ 9 := by
  have h := txLoop_bytes 9 (sInt (b, false)).1 (sInt (b, false)).2
  unfold parseT
  simp only
  split
  · exact h
  · simp
theorem hops_f (l : List S63) (hl : l.length ≤ 1000) : folkmootlaw08_ops.f l = some l := by
  unfold folkmootlaw08_ops.f
  simp only [Option.bind_some, List.length_nil, List.nil_append]
  rw [if_pos (by omega)]
theorem ev_c1 (l : List S63) (hl : l.length ≤ 60) (hi : ∀ o ∈ l, -9223372036854775808 ≤ o.f0 ∧ o.f0 ≤ 9223372036854775807) (hn : ∀ o ∈ l, 0 ≤ o.f3 ∧ o.f3 < 18446744073709551616) : Ev (fun k => folkmootlaw08_TxnChecks.j1 k l false) true := by
  refine Ev.succ ?_
  simp only [folkmootlaw08_TxnChecks.j1]
  refine Ev.no (by simp) (Ev.bind (ev_rcheck l hn) (Ev.cond (fun hz => ?_) (fun _ => ev_live)))
  obtain ⟨g1, g2⟩ := chk_of hz
  have hk : ∀ o ∈ l, o.f1.size ≤ 16 ∧ o.f2.size ≤ 16 := fun o ho => isT_key (g2 o ho)
  have hf : ∀ o ∈ l, fitO o := fun o ho => ⟨hi o ho, by have := hk o ho; omega, by have := hk o ho; omega, hn o ho⟩
  have hput : txn_Put.f l = some (laidOps l) := by
    unfold txn_Put.f
    rw [if_pos ⟨by omega, fun o ho => by have := hk o ho; omega⟩]
  have hlay : folkmootref08_Lay.f ([] : List Int) l = some (laidOps l) := by
    unfold folkmootref08_Lay.f
    rw [if_pos ⟨rfl, by omega, fun o ho => by have := hk o ho; omega⟩]
  have hlen : (laidOps l).length ≤ 1099511627776 := by
    unfold laidOps
    rw [List.length_append, laidI_len]
    have := laidOs_len l
    omega
  have hparse : txn_Parse.f (laidOps l) = some (l, 0) := by
    unfold txn_Parse.f
    rw [if_pos ⟨laidOps_bytes l, hlen⟩, parse_laidO hf (by omega) hz]
  exact Ev.bind1 (hops_f l (by omega)) (Ev.bind1 hput (Ev.bind1 hparse (Ev.bind1 hlay (Ev.yes rfl (Ev.bind1 rfl (Ev.yes rfl (Ev.bind (ev_ops l (by omega)) (Ev.yes rfl ev_live))))))))
theorem ev_c0 (l : List S63) (b : List Int) (hb : bytesOk b) (hi : ∀ o ∈ l, -9223372036854775808 ≤ o.f0 ∧ o.f0 ≤ 9223372036854775807) (hn : ∀ o ∈ l, 0 ≤ o.f3 ∧ o.f3 < 18446744073709551616) (q : Bool) (h : q = false → l.length ≤ 60 ∧ b.length ≤ 6000) : Ev (fun k => folkmootlaw08_TxnChecks.j0 k l b q) true := by
  refine Ev.succ ?_
  simp only [folkmootlaw08_TxnChecks.j0]
  refine Ev.cond (fun _ => ev_live) (fun hq => ?_)
  obtain ⟨hl, hbl⟩ := h (by simpa using hq)
  have hp1 : txn_Parse.f ([] ++ b) = some (parseT b) := by
    unfold txn_Parse.f
    rw [List.nil_append, if_pos ⟨hb, by omega⟩]
  have hp2 : folkmootref08_Parse.f b = some (parseT b) := by
    unfold folkmootref08_Parse.f
    rw [if_pos ⟨hb, by omega⟩]
  refine Ev.bind1 rfl (Ev.yes (by simp only [List.length_nil]; omega) (Ev.bind1 hp1 (Ev.bind1 hp2 (Ev.bind1 (hops_f l (by omega)) (Ev.bind1 rfl (Ev.bind1 rfl (Ev.bind (ev_rcheck l hn) (Ev.yes rfl (Ev.bind (ev_ops _ (by have := parseT_len b; omega)) (Ev.yes rfl (Ev.bind1 rfl ?_)))))))))))
  have e : ((parseT b).2 != (parseT b).2) = false := by simp
  rw [e]
  exact ev_c1 l hl hi hn
theorem txnChecks_any (A0 : Option Addr) (c0 : Nat) (l : List S63) (A1 : Option Addr) (c1 : Nat) (b : List Int) (w : World) (C0 : Kd.C k63 w A0 l.length l) (hc : l.length ≤ c0) (hp0 : l.length ≤ 9223372036854775807 ∧ ∀ o ∈ l, (Lit.int .i64 o.f0).wf = true ∧ (Lit.int .u64 o.f3).wf = true)
    (C1 : Kd.C (Kd.int .u8) w A1 b.length b) (hc1 : b.length ≤ c1) (hp1 : b.length ≤ 9223372036854775807 ∧ ∀ x ∈ b, (Lit.int .u8 x).wf = true) :
    Calls Tryz.prog 3 #[.slice A0 l.length c0, .slice A1 b.length c1] w fun e w' => e = .returned (.bool true) ∧ Below w.heap.size w w' := by
  have hi : ∀ o ∈ l, -9223372036854775808 ≤ o.f0 ∧ o.f0 ≤ 9223372036854775807 := fun o ho => by
    have h := (hp0.2 o ho).1
    simp [Lit.wf, IntKind.min, IntKind.max, IntKind.bits, IntKind.signed] at h
    omega
  have hn : ∀ o ∈ l, 0 ≤ o.f3 ∧ o.f3 < 18446744073709551616 := fun o ho => by
    have h := (hp0.2 o ho).2
    simp [Lit.wf, IntKind.min, IntKind.max, IntKind.bits, IntKind.signed] at h
    omega
  have hb : bytesOk b := fun x hx => by
    have h := hp1.2 x hx
    simp [Lit.wf, IntKind.min, IntKind.max, IntKind.bits, IntKind.signed] at h
    omega
  obtain ⟨q1, hb1, hb2⟩ := ev_small l []
  have hev : Ev (fun k => folkmootlaw08_TxnChecks.f k l b) true := by
    unfold folkmootlaw08_TxnChecks.f
    have hq : Ev (fun k => folkmootlaw08_TxnChecks.j0 k l b true) true := ev_c0 l b hb hi hn true (fun h => by cases h)
    refine Ev.bind hb1 (Ev.cond (fun h1 => ev_c0 l b hb hi hn _ (fun h5 => ⟨(hb2 h1).1, ?_⟩)) (fun _ => hq))
    have := of_decide_eq_false h5
    omega
  obtain ⟨k, hk⟩ := hev.get
  exact folkmootlaw08_TxnChecks.calls k A0 c0 l A1 c1 b true w C0 hc C1 hc1 hk
end Go.Proofs.YtgmlenpcchhmbaaGreat.P
end
