/- What was synced is there behind every crash: the walk of the statement. -/
import Derived.Test.YtnimghkkhiacfaaDArmed
namespace Go.Proofs.Ytnimghkkhiacfaa.P
open Go.RowKit Go.Proofs.YtnimghkkhiacfaaW.PrintWords Go.Proofs.YtnimghkkhiacfaaW.PrintLast Go.Proofs.YtnimghkkhiacfaaW.PrintMore
/-- [][]byte{a}, a an argument's bytes. -/
theorem lit_arg {w W W1 : World} {A : Option Addr} {c : Nat} {a : List Int} (hC : Kd.C (Kd.int .u8) w A a.length a) (hc : a.length ≤ c) (hb : Below w.heap.size w W) (hW : W.alloc (.cells #[.slice A a.length c] 22) = W1) :
    Kd.F kBs W1 (fun k => k < w.heap.size ∨ W.heap.size ≤ k) (some ⟨W.heap.size, 0, none⟩) [a].length [a] ∧ Below W.heap.size W W1 := by
  have hbel : Below W.heap.size W W1 := hW ▸ (Below.refl _ W).alloc (Nat.le_refl _) _
  have hB : Blk W1 W.heap.size 22 #[.slice A a.length c] := hW ▸ Blk.new W 22 _
  have hF0 : Kd.F (Kd.int .u8) W1 (fun k => k < w.heap.size) A a.length a := Kd.F_below (Kd.F_below (Kd.C_F (Kd.heap_int _) hC) hb) (hbel)
  refine ⟨fun W' hW' => blk_bs (hB.foot hW' (.inr (Nat.le_refl _))) (by show 1 ≤ _; omega) fun j x hj => ?_, hbel⟩
  rcases j with _ | j
  · simp only [List.getElem?_cons_zero, Option.some.injEq] at hj
    subst hj
    exact ⟨A, c, rfl, hc, hF0 W' (fun k hk hlt => hW' k (.inl hk) hlt)⟩
  · simp at hj
def safeT (other keep turn : Int) : List S33 := [⟨other, 5, 0⟩, ⟨1, keep, turn⟩, ⟨1, 0, 0⟩]
theorem safe_tail {other : Int} (keep turn : Int) (h : other ≠ 1) : tailOf (safeT other keep turn) 1 = ⟨1, keep, turn⟩ := by
  have hi : idxT 1 (safeT other keep turn) = 1 := by
    unfold idxT idxP safeT
    simp [List.findIdx?_cons, h]
  unfold tailOf
  rw [hi]
  rfl
theorem F_nilT (W : World) (ok : Nat → Prop) : Kd.F k33 W ok none ([] : List S33).length [] := fun W' _ => ⟨rfl, by decide, fun h => absurd h (by decide)⟩
theorem RowB.row {w : World} {b : Nat} {v : Value} {xs : List Int} (h : RowB w b v xs) : Row w v xs := by
  obtain ⟨h0, h⟩ := h
  refine ⟨h0, ?_⟩
  rcases h with h | ⟨g, cap, cur, h1, h2, h3⟩
  · exact .inl h
  · exact .inr ⟨g, cap, cur, h1, Nat.zero_le _, h3⟩
theorem RowB.lit (W : World) {b : Nat} (hb : b ≤ W.heap.size) : RowB (W.alloc (.cells #[] 5)) b (.slice (some ⟨W.heap.size, 0, none⟩) 0 0) [] :=
  ⟨rfl, .inr ⟨W.heap.size, 0, #[], rfl, hb, heap_alloc_new W _, Nat.le_refl _, Nat.zero_le _, rfl, rfl⟩⟩
/-- an append of bytes to a row of one's own, in a region. -/
theorem rowB_append_step {P : Program} {ops : Array Oper} {o : Oper} {a : Go.Act} {Q : Exit → Go.Act → World → Prop} {Kc : Go.Act → World → Prop} {W w0 : World} (base : Nat) (hw : Region.wanted o (yielded ops a.tmps) = true) (s x : Operand) (t : TypeId)
    (ho : o.op = .call { callee := .builtin .append, args := #[s, x], argTypes := #[t, t] }) (ht : P.underlying t = some (.slice 5)) (hinfo : (P.info? 5).map (fun i => (i.zero, i.size, i.bytes)) = some (some (.int .u8 0), 1, 1))
    (v : Value) (xs ys : List Int) (A : Option Addr) (m c : Nat) (hs : a.eval s = v) (hx : a.eval x = .slice A m c) (HO : RowB W base v xs) (HR : ReadsInt W .u8 A m ys) (HB : Below base w0 W) (hbase : base ≤ W.heap.size) (hl : (xs.length + m) * 1 ≤ 140737488355328)
    (h : ∀ v1 w1, RowB w1 base v1 (xs ++ ys) → Below base w0 w1 → Kc (a.put o.dst v1) w1) :
    if Region.wanted o (yielded ops a.tmps) = true then Oper.wp P o a W Kc Q else Kc (a.put o.dst undef) W :=
  Kd.R_append_rows_step (Kd.int .u8) (w0 := w0) base hw s x t 5 (.int .u8 0) 1 ho ht hinfo rfl (by decide) (by decide) v xs ys A m c (fun _ => True) (fun _ => False) hs hx (Kd.R_of_own HO (fun _ _ => trivial)) (reads_row HR) (fun x cs h => h) (fun _ h => h.elim) (fun _ _ => trivial) HB hbase hl
    (fun v1 w1 hR hb _ _ => h v1 w1 (Kd.own_of_R hR) hb)
theorem Dr.crashU {w W W1 : World} {g mb : Nat} {F : Files} {room : Nat} {left ops : Int} {dead : Bool} (h : Dr w W g mb F room left dead ops) (hb : Below W.heap.size W W1) {A : Option Addr} {c : Nat} {l : List S33} {ok : Nat → Prop} (hF : Kd.F k33 W1 ok A l.length l) (hok : ∀ k, ok k → k < w.heap.size ∨ W.heap.size ≤ k) :
    Calls Try.prog 13 #[dptr g, .slice A l.length c] W1 fun e w' => e = .returned (.tuple #[]) ∧ Dr w w' g mb (crashF l F) room (-1) false ops ∧ Upd W1 w' (fun k => k < W.heap.size) := by
  obtain ⟨h1, o, h2, h3⟩ := h
  refine (drCrash_any (h2.below hb) (Dr.arg h2 h3 hF hok)).mono ?_
  rintro e w' ⟨he, hd⟩
  refine ⟨he, Dr.did (h1.trans (hb.mono h1.size)) h3 hd, ?_⟩
  obtain ⟨o', _, _, hu⟩ := hd
  exact hu.mono fun k _ hm => Nat.lt_of_not_le fun hle => h2.fresh hle hm
theorem crash_nil (X : List Int) : crashF [] (oneF' 1 X []) = oneF' 1 X [] := by
  rw [crashF_one]
  have e : tailOf [] 1 = z33 := by kernel_rfl
  rw [e]
  unfold crashX
  simp [turnP]
theorem turn_last (a b : List Int) {j : Nat} (hj : j + 1 ≤ b.length) (t : Int) : (a ++ b.take (j + 1)).set (a.length + j) (bits BinOp.xor IntKind.u8 ((a ++ b.take (j + 1)).getD (a.length + j) 0) t) = a ++ turnP (b.take (j + 1)) t := by
  have hl : (b.take (j + 1)).length = j + 1 := by rw [List.length_take]; omega
  generalize b.take (j + 1) = u at *
  have hne : u ≠ [] := fun e => by rw [e] at hl; simp at hl
  unfold turnP
  rw [if_neg hne, hl, Nat.add_sub_cancel, List.set_append_right _ _ (by omega), Nat.add_sub_cancel_left]
  unfold xor8
  rw [List.getD_eq_getElem?_getD, List.getElem?_append_right (by omega), Nat.add_sub_cancel_left, ← List.getD_eq_getElem?_getD]
set_option maxHeartbeats 8000000 in
set_option maxRecDepth 100000 in
theorem drumSafe_any (A : Option Addr) (c : Nat) (a : List Int) (B : Option Addr) (d : Nat) (b : List Int) (keep turn other : Int) (w : World) (hA : Kd.C (Kd.int .u8) w A a.length a) (hca : a.length ≤ c) (hra : a.length ≤ 140737488355328) (hB : Kd.C (Kd.int .u8) w B b.length b) (hcb : b.length ≤ d) (hrb : b.length ≤ 140737488355328) :
    Calls Try.prog 3 #[.slice A a.length c, .slice B b.length d, .int .i64 keep, .int .u8 turn, .int .i64 other] w fun e w' => e = .returned (.bool true) ∧ Below w.heap.size w w' := by
  have HA := Lib.hid hA; have HB := Lib.hid hB
  clear hA hB
  by_cases hok : a.length + b.length ≤ 20000 ∧ other ≠ 1
  · obtain ⟨h1, h2⟩ := hok
    have e1 : wrap64 ((a.length : Int) + b.length) = (a.length : Int) + b.length := w64 (by omega) (by omega)
    have d1 : decide ((20000 : Int) < (a.length : Int) + b.length) = false := decide_eq_false (by omega)
    have d2 : decide (other = 1) = false := decide_eq_false h2
    go_enter Try.func3, Try.ntmps3
    go_wp2_with fail
    clear e1 d1 d2
    refine (dr_new (Below.refl _ w) 40000 (by omega)).mono ?_
    rintro e w1 ⟨g, mb, rfl, h3⟩
    go_wp2_with fail
    refine (num_any 0 w1).mono ?_
    rintro e w2 ⟨rfl, hd2⟩
    have h4 := h3.below hd2.below
    clear h3 hd2
    obtain ⟨w3, hw3⟩ : ∃ w3, w2.alloc (.cells #[.slice A a.length c] 22) = w3 := ⟨_, rfl⟩
    obtain ⟨hF3, hb3⟩ := lit_arg HA.out hca h4.1 hw3
    have hap := h4.append_ok hb3 (n := 1) (by omega) (by omega) (by omega) (by omega) (by omega) (by omega) (c := 1) hF3 (fun k hk => hk) (by rw [sumF_none]; show 0 + (a ++ []).length ≤ 40000; rw [List.append_nil]; omega)
    have hap : Calls Try.prog 11 #[dptr g, .int .i64 1, .slice (some ⟨w2.heap.size, 0, none⟩) 1 1] w3 fun e w' => e = .returned (.int .i64 0) ∧ Dr w w' g mb (oneF' 1 [] ([] ++ (a ++ []))) 40000 (-1) false 1 := hap
    rw [List.append_nil, List.nil_append] at hap
    have HAP := Lib.hid hap
    clear hap hF3
    go_wp2_with fail
    refine HAP.out.mono ?_
    rintro e w4 ⟨rfl, h5⟩
    clear HAP hw3 h4 hb3
    go_wp2_with fail
    refine (num_any 0 w4).mono ?_
    rintro e w5 ⟨rfl, hd5⟩
    have h6 := h5.below hd5.below
    clear h5 hd5
    go_wp2_with fail
    refine (h6.sync_ok (n := 1) (by omega) (by omega) (by omega) (by omega) (by omega) (by omega) (upF_same _ _ _)).mono ?_
    rintro e w6 ⟨rfl, h7⟩
    rw [upF_upF, List.nil_append] at h7
    have h7 : Dr w w6 g mb (oneF' 1 a []) 40000 (-1) false 2 := h7
    clear h6
    go_wp2_with fail
    refine (num_any 0 w6).mono ?_
    rintro e w7 ⟨rfl, hd7⟩
    have h8 := h7.below hd7.below
    clear h7 hd7
    obtain ⟨w8, hw8⟩ : ∃ w8, w7.alloc (.cells #[.slice B b.length d] 22) = w8 := ⟨_, rfl⟩
    obtain ⟨hF8, hb8⟩ := lit_arg HB.out hcb h8.1 hw8
    have hap := h8.append_ok hb8 (n := 1) (by omega) (by omega) (by omega) (by omega) (by omega) (by omega) (c := 1) hF8 (fun k hk => hk) (by rw [sumF_one (by omega) (by omega)]; show a.length + 0 + (b ++ []).length ≤ 40000; rw [List.append_nil]; omega)
    rw [getF_one, upF_upF] at hap
    have hap : Calls Try.prog 11 #[dptr g, .int .i64 1, .slice (some ⟨w7.heap.size, 0, none⟩) 1 1] w8 fun e w' => e = .returned (.int .i64 0) ∧ Dr w w' g mb (oneF' 1 a ([] ++ (b ++ []))) 40000 (-1) false 3 := hap
    rw [List.append_nil, List.nil_append] at hap
    have HAP := Lib.hid hap
    clear hap hF8
    go_wp2_with fail
    refine HAP.out.mono ?_
    rintro e w9 ⟨rfl, h9⟩
    clear HAP hw8 h8 hb8
    go_wp2_with fail
    refine (num_any 0 w9).mono ?_
    rintro e w10 ⟨rfl, hd10⟩
    have h10 := h9.below hd10.below
    clear h9 hd10
    go_wp2_with fail
    obtain ⟨w11, hw11⟩ : ∃ w11, w10.alloc (.cells #[.int .i64 other, .int .i64 5, .int .u8 0, .int .i64 1, .int .i64 keep, .int .u8 turn, .int .i64 1, .int .i64 0, .int .u8 0] 33) = w11 := ⟨_, rfl⟩
    have hb11 : Below w10.heap.size w10 w11 := hw11 ▸ (Below.refl _ _).alloc (Nat.le_refl _) _
    have hB11 : Blk w11 w10.heap.size 33 #[.int .i64 other, .int .i64 5, .int .u8 0, .int .i64 1, .int .i64 keep, .int .u8 turn, .int .i64 1, .int .i64 0, .int .u8 0] := hw11 ▸ Blk.new w10 33 _
    have hF11 : Kd.F k33 w11 (fun k => w10.heap.size ≤ k) (some ⟨w10.heap.size, 0, none⟩) (safeT other keep turn).length (safeT other keep turn) := F_tails hB11 (Nat.le_refl _) (by show 3 ≤ _; omega) fun j x hj => by
      rcases j with _ | _ | _ | j
      · simp only [safeT, List.getElem?_cons_zero, Option.some.injEq] at hj
        subst hj
        exact ⟨rfl, rfl, rfl⟩
      · simp only [safeT, List.getElem?_cons_succ, List.getElem?_cons_zero, Option.some.injEq] at hj
        subst hj
        exact ⟨rfl, rfl, rfl⟩
      · simp only [safeT, List.getElem?_cons_succ, List.getElem?_cons_zero, Option.some.injEq] at hj
        subst hj
        exact ⟨rfl, rfl, rfl⟩
      · simp [safeT] at hj
    have hcr := h10.crash hb11 (c := 3) hF11 (fun k hk => .inr hk)
    rw [crashF_one, safe_tail keep turn h2] at hcr
    have hcr : Calls Try.prog 13 #[dptr g, .slice (some ⟨w10.heap.size, 0, none⟩) 3 3] w11 _ := hcr
    have HCR := Lib.hid hcr
    clear hcr hF11 hB11 hb11
    subst hw11
    go_wp2_with fail
    refine HCR.out.mono ?_
    rintro e w12 ⟨rfl, h12⟩
    clear HCR h10
    obtain ⟨m, hm1⟩ : ∃ m, (if (b.length : Int) < keep then (b.length : Int) else keep) = m := ⟨_, rfl⟩
    obtain ⟨k, hm2⟩ : ∃ k : Nat, (if 0 < m then m else 0) = (k : Int) := ⟨(if 0 < m then m else 0).toNat, by split <;> omega⟩
    have hkl : k ≤ b.length := by
      have h1 : m ≤ b.length := by rw [← hm1]; split <;> omega
      split at hm2 <;> omega
    have hkd : (k : Int) ≤ d := by omega
    have hX : (crashX ⟨1, keep, turn⟩ (a, b)).1 = a ++ turnP (b.take k) turn := by
      have HK : keepN (⟨1, keep, turn⟩ : S33) b = k := by
        unfold keepN keepI
        rw [hm1, hm2]
        simp
      unfold crashX
      rw [HK]
    rw [hX] at h12
    clear hX
    have HA12 := Lib.hid (reads_of (Kd.C_below HA.out h12.1))
    have HBK := Lib.hid ((reads_of (Kd.C_below HB.out h12.1)).take_ k hkl)
    have hlk : (b.take k).length = k := by rw [List.length_take]; omega
    have HLK := Lib.hid hlk; clear hlk
    go_upto_region 8 with fail
    have HK := Lib.hid (And.intro hkl (And.intro hm1 hm2)); clear hkl hm1 hm2
    have hk00 : (0 : Int) ≤ k := by omega
    by_cases hk0 : k = 0
    · subst hk0
      refine wp_region_last1_held (S := (fun _ => True)) (l := [_, _, _, _, _, _, _]) (o := _) (by kernel_rfl) (by kernel_rfl) ?_
      simp only [List.size_toArray, List.length_cons, List.length_nil, Nat.zero_add, Nat.reduceAdd]
      have hHeld : ((fun _ => True)) w12.drew := trivial
      refine wpAnyH_take (i := 1) (v := ?_) rfl (by kernel_rfl) (by kernel_rfl) (by kernel_rfl) (fun _ _ _ h => h) (Or.inl ⟨by rfl, ?_⟩) (by assumption) ?_
      rotate_left
      · (intro w hSw; (try dsimp only at hSw); go_split_ands; go_simp; try with_reducible rfl)
      try simp only [List.getElem_toArray, List.getElem_cons_succ, List.getElem_cons_zero, Act.put, List.setIfInBounds_toArray, List.set_cons_zero, List.set_cons_succ]
      refine wpAnyH_take (i := 3) (v := ?_) rfl (by kernel_rfl) (by kernel_rfl) (by kernel_rfl) (fun _ _ _ h => h) (Or.inl ⟨by rfl, ?_⟩) (by assumption) ?_
      rotate_left
      · (intro w hSw; (try dsimp only at hSw); go_split_ands; go_simp; try with_reducible rfl)
      try simp only [List.getElem_toArray, List.getElem_cons_succ, List.getElem_cons_zero, Act.put, List.setIfInBounds_toArray, List.set_cons_zero, List.set_cons_succ]
      refine wpAnyH_take (i := 4) (v := ?_) rfl (by kernel_rfl) (by kernel_rfl) (by kernel_rfl) (fun _ _ _ h => h) (Or.inl ⟨by rfl, ?_⟩) (by assumption) ?_
      rotate_left
      · (intro w hSw; (try dsimp only at hSw); go_split_ands; go_simp; try with_reducible rfl)
      try simp only [List.getElem_toArray, List.getElem_cons_succ, List.getElem_cons_zero, Act.put, List.setIfInBounds_toArray, List.set_cons_zero, List.set_cons_succ]
      refine wpAnyH_take (i := 5) (v := ?_) rfl (by kernel_rfl) (by kernel_rfl) (by kernel_rfl) (fun _ _ _ h => h) (Or.inl ⟨by rfl, ?_⟩) (by assumption) ?_
      rotate_left
      · (intro w hSw; (try dsimp only at hSw); go_split_ands; go_simp; try with_reducible rfl)
      try simp only [List.getElem_toArray, List.getElem_cons_succ, List.getElem_cons_zero, Act.put, List.setIfInBounds_toArray, List.set_cons_zero, List.set_cons_succ]
      refine wpAnyH_ready (rs := [0]) (by kernel_rfl) (by simp) ?_
      refine (AllReadyH.cons rfl (fun K hK => ?_) AllReadyH.nil)
      go_simp
      refine hK.out _ _ ?_ (fun hHeld => ?_)
      · trivial
      clear hK K
      have hO1 := RowB.lit w12.drew (b := w12.heap.size) (Nat.le_refl _)
      have hB1 : Below w12.heap.size w12 (w12.drew.alloc (.cells #[] 5)) := (below_drew (Below.refl _ w12)).alloc (Nat.le_refl _) _
      try simp only [List.getElem_toArray, List.getElem_cons_succ, List.getElem_cons_zero, Act.put, List.setIfInBounds_toArray, List.set_cons_zero, List.set_cons_succ]
      refine wpAnyH_ready (rs := [2]) (by kernel_rfl) (by simp) ?_
      refine (AllReadyH.cons rfl (fun K hK => ?_) AllReadyH.nil)
      refine rowB_append_step (w0 := w12) w12.heap.size (by rfl) (.tmp 77) (.tmp 78) 22 rfl Try.underlying22 infoB (.slice (some ⟨w12.heap.size, 0, none⟩) 0 0) [] a A a.length c (by rfl) (by rfl) hO1 (HA12.out.below hB1) hB1 hB1.size (by simp; omega) ?_
      intro v13 w13 hO13 hB13
      refine hK.out _ _ ?_ (fun hHeld => ?_)
      · trivial
      clear hK K
      try simp only [List.getElem_toArray, List.getElem_cons_succ, List.getElem_cons_zero, Act.put, List.setIfInBounds_toArray, List.set_cons_zero, List.set_cons_succ]
      refine wpAnyH_ready (rs := [6]) (by kernel_rfl) (by simp) ?_
      refine (AllReadyH.cons rfl (fun K hK => ?_) AllReadyH.nil)
      refine rowB_append_step (w0 := w12) w12.heap.size (by rfl) (.tmp 79) (.tmp 82) 22 rfl Try.underlying22 infoB v13 a (b.take 0) B 0 d (by rfl) (by rfl) hO13 (HBK.out.below hB13) hB13 hB13.size (by omega) ?_
      intro v15 w15 hO15 hB15
      refine hK.out _ _ ?_ (fun hHeld => ?_)
      · trivial
      clear hK K
      try simp only [List.getElem_toArray, List.getElem_cons_succ, List.getElem_cons_zero, Act.put, List.setIfInBounds_toArray, List.set_cons_zero, List.set_cons_succ]
      refine wpAnyH_done (by kernel_rfl) ?_ _
      refine lastPost_wp ?_
      rw [List.take_zero, List.append_nil] at hO15
      rw [List.take_zero, show turnP [] turn = [] from rfl, List.append_nil] at h12
      obtain ⟨A15, c15, rfl, _⟩ := own_reads hO15
      have HOX := Lib.hid hO15; have HB15x := Lib.hid hB15
      clear hO15 hO13 hB13 hO1 hB1 hHeld
      go_upto_region 11 with fail
      generalize a = X at HOX h12
      clear HA12 HBK HK HLK
      have h15 := h12.below HB15x.out
      go_wp2_with fail
      refine (h15.read_ok (n := 1) (by omega) (upF_same _ _ _)).mono ?_
      rintro e w16 ⟨vx, rfl, hvx, hb16, h16⟩
      rw [List.append_nil] at hvx
      obtain ⟨Ax, cx, rfl, _⟩ := own_reads hvx
      have HVX := Lib.hid hvx; have HB16 := Lib.hid hb16
      clear hvx hb16 h15 h16
      have hcr := h12.crashU (HB15x.out.trans (HB16.out.mono HB15x.out.size)) (A := none) (c := 0) (l := []) (ok := fun _ => False) (F_nilT _ _) (fun _ h => h.elim)
      rw [crash_nil] at hcr
      have HCR := Lib.hid hcr
      clear hcr
      go_wp2_with fail
      refine HCR.out.mono ?_
      rintro e w17 ⟨rfl, h17, hu17⟩
      have HU17 := Lib.hid hu17
      clear HCR h12 hu17
      go_wp2_with fail
      refine (h17.read_ok (n := 1) (by omega) (upF_same _ _ _)).mono ?_
      rintro e w18 ⟨vy, rfl, hvy, hb18, h18⟩
      rw [List.append_nil] at hvy
      obtain ⟨Ay, cy, rfl, _⟩ := own_reads hvy
      have HVY := Lib.hid hvy; have HB18 := Lib.hid hb18
      clear hvy hb18 h17
      go_wp2_with fail
      refine (num_any 0 w18).mono ?_
      rintro e w19 ⟨rfl, hd19⟩
      have HD19 := Lib.hid hd19
      clear hd19
      go_wp2_with fail
      refine (num_any 0 w19).mono ?_
      rintro e w20 ⟨rfl, hd20⟩
      have h20 := (h18.below HD19.out.below).below hd20.below
      have hu1720 : Upd w17 w20 (fun _ => False) := ((Upd.of_below HB18.out _).then_below HD19.out.below).then_below hd20.below
      have hsx := (((HVX.out).upd HU17.out (fun k hk h => by have := (HVX.out.ge k hk).1; have := HB15x.out.size; omega)).upd hu1720 (fun _ _ h => h)).str
      have hsw := (((HOX.out.upd (Upd.of_below HB16.out (fun _ => False)) (fun _ _ h => h)).upd HU17.out (fun k hk h => by have := (HOX.out.ge k hk).1; omega)).upd hu1720 (fun _ _ h => h)).str
      have hsy := (HVY.out.upd (((Upd.of_below HD19.out.below (fun _ => False))).then_below hd20.below) (fun _ _ h => h)).str
      generalize strOfNums X = SX at hsx hsw hsy
      clear hd20 hu1720 HU17 HD19 HB18 HVY HB16 HVX HOX HB15x h18
      go_wp2_with fail
      refine (live14_any _).mono ?_
      rintro e w21 ⟨rfl, hb21⟩
      go_wp2_with fail
      go_ret
      exact ⟨rfl, h20.1.trans (hb21.mono h20.1.size)⟩
    · obtain ⟨j, rfl⟩ : ∃ j, k = j + 1 := ⟨k - 1, by omega⟩
      have hk00' : (0 : Int) ≤ (j : Int) + 1 := by omega
      have hkd' : (j : Int) + 1 ≤ d := by omega
      clear hk0 hk00 hkd
      refine wp_region_last1_held (S := (fun _ => True)) (l := [_, _, _, _, _, _, _]) (o := _) (by kernel_rfl) (by kernel_rfl) ?_
      simp only [List.size_toArray, List.length_cons, List.length_nil, Nat.zero_add, Nat.reduceAdd]
      have hHeld : ((fun _ => True)) w12.drew := trivial
      refine wpAnyH_take (i := 1) (v := ?_) rfl (by kernel_rfl) (by kernel_rfl) (by kernel_rfl) (fun _ _ _ h => h) (Or.inl ⟨by rfl, ?_⟩) (by assumption) ?_
      rotate_left
      · (intro w hSw; (try dsimp only at hSw); go_split_ands; go_simp; try with_reducible rfl)
      try simp only [List.getElem_toArray, List.getElem_cons_succ, List.getElem_cons_zero, Act.put, List.setIfInBounds_toArray, List.set_cons_zero, List.set_cons_succ]
      refine wpAnyH_take (i := 3) (v := ?_) rfl (by kernel_rfl) (by kernel_rfl) (by kernel_rfl) (fun _ _ _ h => h) (Or.inl ⟨by rfl, ?_⟩) (by assumption) ?_
      rotate_left
      · (intro w hSw; (try dsimp only at hSw); go_split_ands; go_simp; try with_reducible rfl)
      try simp only [List.getElem_toArray, List.getElem_cons_succ, List.getElem_cons_zero, Act.put, List.setIfInBounds_toArray, List.set_cons_zero, List.set_cons_succ]
      refine wpAnyH_take (i := 4) (v := ?_) rfl (by kernel_rfl) (by kernel_rfl) (by kernel_rfl) (fun _ _ _ h => h) (Or.inl ⟨by rfl, ?_⟩) (by assumption) ?_
      rotate_left
      · (intro w hSw; (try dsimp only at hSw); go_split_ands; go_simp; try with_reducible rfl)
      try simp only [List.getElem_toArray, List.getElem_cons_succ, List.getElem_cons_zero, Act.put, List.setIfInBounds_toArray, List.set_cons_zero, List.set_cons_succ]
      refine wpAnyH_take (i := 5) (v := ?_) rfl (by kernel_rfl) (by kernel_rfl) (by kernel_rfl) (fun _ _ _ h => h) (Or.inl ⟨by rfl, ?_⟩) (by assumption) ?_
      rotate_left
      · (intro w hSw; (try dsimp only at hSw); go_split_ands; go_simp; try with_reducible rfl)
      try simp only [List.getElem_toArray, List.getElem_cons_succ, List.getElem_cons_zero, Act.put, List.setIfInBounds_toArray, List.set_cons_zero, List.set_cons_succ]
      refine wpAnyH_ready (rs := [0]) (by kernel_rfl) (by simp) ?_
      refine (AllReadyH.cons rfl (fun K hK => ?_) AllReadyH.nil)
      go_simp
      refine hK.out _ _ ?_ (fun hHeld => ?_)
      · trivial
      clear hK K
      have hO1 := RowB.lit w12.drew (b := w12.heap.size) (Nat.le_refl _)
      have hB1 : Below w12.heap.size w12 (w12.drew.alloc (.cells #[] 5)) := (below_drew (Below.refl _ w12)).alloc (Nat.le_refl _) _
      try simp only [List.getElem_toArray, List.getElem_cons_succ, List.getElem_cons_zero, Act.put, List.setIfInBounds_toArray, List.set_cons_zero, List.set_cons_succ]
      refine wpAnyH_ready (rs := [2]) (by kernel_rfl) (by simp) ?_
      refine (AllReadyH.cons rfl (fun K hK => ?_) AllReadyH.nil)
      refine rowB_append_step (w0 := w12) w12.heap.size (by rfl) (.tmp 77) (.tmp 78) 22 rfl Try.underlying22 infoB (.slice (some ⟨w12.heap.size, 0, none⟩) 0 0) [] a A a.length c (by rfl) (by rfl) hO1 (HA12.out.below hB1) hB1 hB1.size (by simp; omega) ?_
      intro v13 w13 hO13 hB13
      refine hK.out _ _ ?_ (fun hHeld => ?_)
      · trivial
      clear hK K
      try simp only [List.getElem_toArray, List.getElem_cons_succ, List.getElem_cons_zero, Act.put, List.setIfInBounds_toArray, List.set_cons_zero, List.set_cons_succ]
      refine wpAnyH_ready (rs := [6]) (by kernel_rfl) (by simp) ?_
      refine (AllReadyH.cons rfl (fun K hK => ?_) AllReadyH.nil)
      refine rowB_append_step (w0 := w12) w12.heap.size (by rfl) (.tmp 79) (.tmp 82) 22 rfl Try.underlying22 infoB v13 a (b.take (j + 1)) B (j + 1) d (by rfl) (by rfl) hO13 (HBK.out.below hB13) hB13 hB13.size (by have := HK.out.1; omega) ?_
      intro v14 w14 hO14 hB14
      refine hK.out _ _ ?_ (fun hHeld => ?_)
      · trivial
      clear hK K
      try simp only [List.getElem_toArray, List.getElem_cons_succ, List.getElem_cons_zero, Act.put, List.setIfInBounds_toArray, List.set_cons_zero, List.set_cons_succ]
      refine wpAnyH_done (by kernel_rfl) ?_ _
      refine lastPost_wp ?_
      clear hk00' hkd' hO13 hB13 hO1 hB1 hHeld
      have hn14 : (a ++ b.take (j + 1)).length = a.length + j + 1 := by rw [List.length_append, HLK.out]; omega
      have htl := turn_last a b HK.out.1 turn
      generalize a ++ b.take (j + 1) = Y at *
      obtain ⟨A14, c14, rfl, _⟩ := own_reads hO14
      obtain ⟨gr, rfl, hcj, hzj⟩ := hO14.row.at_ (j := a.length + j) (by omega)
      have hN : a.length + j + 1 ≤ 20000 := by have := HK.out.1; omega
      rw [hn14]
      have HO14 := Lib.hid hO14; have HN14 := Lib.hid hn14; have HTL := Lib.hid htl
      clear hO14 hn14 htl
      generalize a.length + j = N at *
      have d1 := pos_dec j
      have hN2 : (N : Int) + 1 ≤ 4194304 := by omega
      have hj1 := j_one hN2
      have hj2 := j_two hN2
      go_upto_region 11 with fail
      have hst := own_store HO14.out (N : Int) (bits BinOp.xor IntKind.u8 (Y[N]?.getD 0) turn)
      simp only [Int.toNat_natCast] at hst
      obtain ⟨w15, hw15⟩ : ∃ w15, w14.setCell ⟨gr, N, none⟩ (.int .u8 (bits BinOp.xor IntKind.u8 (Y[N]?.getD 0) turn)) = w15 := ⟨_, rfl⟩
      rw [hw15] at hst ⊢
      have hgr := (HO14.out.ge gr rfl).1
      have HB15x : RowKit.Hid (Below w12.heap.size w12 w15) := Lib.hid (hw15 ▸ hB14.setCell hgr _)
      have hT := HTL.out
      rw [List.getD_eq_getElem?_getD] at hT
      rw [hT] at hst
      have hl15 : N + 1 = (a ++ turnP (b.take (j + 1)) turn).length := by rw [← hT, List.length_set, HN14.out]
      generalize a ++ turnP (b.take (j + 1)) turn = X at *
      rw [HN14.out, hl15] at hst
      rw [hl15]
      have HOX : RowKit.Hid (RowB w15 w12.heap.size (.slice (some ⟨gr, 0, none⟩) X.length c14) X) := Lib.hid hst.1
      clear hst hT hl15 HO14 HN14 HTL hw15 hB14 hcj hzj hgr d1 hN2 hj1 hj2 hN
      clear HA12 HBK HK HLK
      have h15 := h12.below HB15x.out
      go_wp2_with fail
      refine (h15.read_ok (n := 1) (by omega) (upF_same _ _ _)).mono ?_
      rintro e w16 ⟨vx, rfl, hvx, hb16, h16⟩
      rw [List.append_nil] at hvx
      obtain ⟨Ax, cx, rfl, _⟩ := own_reads hvx
      have HVX := Lib.hid hvx; have HB16 := Lib.hid hb16
      clear hvx hb16 h15 h16
      have hcr := h12.crashU (HB15x.out.trans (HB16.out.mono HB15x.out.size)) (A := none) (c := 0) (l := []) (ok := fun _ => False) (F_nilT _ _) (fun _ h => h.elim)
      rw [crash_nil] at hcr
      have HCR := Lib.hid hcr
      clear hcr
      go_wp2_with fail
      refine HCR.out.mono ?_
      rintro e w17 ⟨rfl, h17, hu17⟩
      have HU17 := Lib.hid hu17
      clear HCR h12 hu17
      go_wp2_with fail
      refine (h17.read_ok (n := 1) (by omega) (upF_same _ _ _)).mono ?_
      rintro e w18 ⟨vy, rfl, hvy, hb18, h18⟩
      rw [List.append_nil] at hvy
      obtain ⟨Ay, cy, rfl, _⟩ := own_reads hvy
      have HVY := Lib.hid hvy; have HB18 := Lib.hid hb18
      clear hvy hb18 h17
      go_wp2_with fail
      refine (num_any 0 w18).mono ?_
      rintro e w19 ⟨rfl, hd19⟩
      have HD19 := Lib.hid hd19
      clear hd19
      go_wp2_with fail
      refine (num_any 0 w19).mono ?_
      rintro e w20 ⟨rfl, hd20⟩
      have h20 := (h18.below HD19.out.below).below hd20.below
      have hu1720 : Upd w17 w20 (fun _ => False) := ((Upd.of_below HB18.out _).then_below HD19.out.below).then_below hd20.below
      have hsx := (((HVX.out).upd HU17.out (fun k hk h => by have := (HVX.out.ge k hk).1; have := HB15x.out.size; omega)).upd hu1720 (fun _ _ h => h)).str
      have hsw := (((HOX.out.upd (Upd.of_below HB16.out (fun _ => False)) (fun _ _ h => h)).upd HU17.out (fun k hk h => by have := (HOX.out.ge k hk).1; omega)).upd hu1720 (fun _ _ h => h)).str
      have hsy := (HVY.out.upd (((Upd.of_below HD19.out.below (fun _ => False))).then_below hd20.below) (fun _ _ h => h)).str
      generalize strOfNums X = SX at hsx hsw hsy
      clear hd20 hu1720 HU17 HD19 HB18 HVY HB16 HVX HOX HB15x h18
      go_wp2_with fail
      refine (live14_any _).mono ?_
      rintro e w21 ⟨rfl, hb21⟩
      go_wp2_with fail
      go_ret
      exact ⟨rfl, h20.1.trans (hb21.mono h20.1.size)⟩
  · go_enter Try.func3, Try.ntmps3
    have e1 : wrap64 ((a.length : Int) + b.length) = (a.length : Int) + b.length := w64 (by omega) (by omega)
    by_cases b1 : 20000 < a.length + b.length
    · have d1 : decide ((20000 : Int) < (a.length : Int) + b.length) = true := decide_eq_true (by omega)
      go_wp2_with fail
      refine (live14_any _).mono ?_
      rintro e w2 ⟨rfl, hb2⟩
      go_wp2_with fail
      go_ret
      exact ⟨rfl, hb2⟩
    · have d1 : decide ((20000 : Int) < (a.length : Int) + b.length) = false := decide_eq_false (by omega)
      obtain rfl : other = 1 := by omega
      go_wp2_with fail
      refine (live14_any _).mono ?_
      rintro e w2 ⟨rfl, hb2⟩
      go_wp2_with fail
      go_ret
      exact ⟨rfl, hb2⟩
end Go.Proofs.Ytnimghkkhiacfaa.P
