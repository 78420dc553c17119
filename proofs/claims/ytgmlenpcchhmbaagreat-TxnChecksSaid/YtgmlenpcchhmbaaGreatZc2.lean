/- what the claim's row stands on, part 2. -/
import Derived.Test.YtgmlenpcchhmbaaGreatZc1
import Derived.Laws.FloatArith
section
set_option linter.unusedVariables false
set_option linter.unusedSimpArgs false
namespace Go.Proofs.YtgmlenpcchhmbaaGreat.P
open Go.RowKit Go.Proofs.YtgmlenpcchhmbaaGreatW.PrintWords Go.Proofs.YtgmlenpcchhmbaaGreatW.PrintLast Go.Proofs.YtgmlenpcchhmbaaGreatW.PrintMore
def RE (w : World) (g ab : Nat) (B : List Int) (s : Sight) : Prop := ∃ i, REyeIs w g ab B i s.2 ∧ s.1 = B.drop i
section
variable {w w' : World} {g ab : Nat} {B : List Int} {s : Sight}
theorem RE.upd {S : Nat → Prop} (h : RE w g ab B s) (hu : Upd w w' S) (hg : ¬ S g) (ha : ¬ S ab) : RE w' g ab B s := by
  obtain ⟨i, h, e⟩ := h; exact ⟨i, h.upd hu hg ha, e⟩
theorem RE.below (h : RE w g ab B s) (hb : Below w.heap.size w w') : RE w' g ab B s := h.upd (Upd.of_below hb (fun _ => False)) (fun h => h) (fun h => h)
theorem RE.lt (h : RE w g ab B s) : g < w.heap.size := by obtain ⟨i, h, _⟩ := h; exact h.lt
theorem RE.oldb (h : RE w g ab B s) : ab < w.heap.size := by obtain ⟨i, h, _⟩ := h; exact h.old
theorem RE.blind (h : RE w g ab B s) : w.cell? ⟨g, 2, none⟩ = some (.bool s.2) := by
  obtain ⟨i, h, _⟩ := h
  obtain ⟨A, c, hB, _⟩ := h.ex
  exact hB.cell 2
theorem retake_bad (h : RE w g ab B s) (n : Nat) (hn : s.2 = true ∨ s.1.length < n) : Calls Tryz.prog 140 #[ptr g, .int .i64 (n : Int)] w fun e w' => e = .returned (.tuple #[.slice none 0 0, .bool false]) ∧ RE w' g ab B (s.1, true) ∧ Upd w w' (· = g) := by
  obtain ⟨i, h, e⟩ := h
  exact (rftake_bad h (n : Int) (hn.imp id fun h2 => by rw [e, List.length_drop] at h2; omega)).mono fun e2 w' ⟨he, hE, hu⟩ => ⟨he, ⟨i, hE, e⟩, hu⟩
theorem retake_ok {xs : List Int} (h : RE w g ab B (xs, false)) (n : Nat) (hn : n ≤ xs.length) : Calls Tryz.prog 140 #[ptr g, .int .i64 (n : Int)] w fun e w' => ∃ A1 c1, e = .returned (.tuple #[.slice A1 n c1, .bool true]) ∧ n ≤ c1 ∧ Kd.C (Kd.int .u8) w' A1 n (xs.take n) ∧ RE w' g ab B (xs.drop n, false) ∧ Upd w w' (· = g) := by
  obtain ⟨i, h, e⟩ := h
  have e : xs = B.drop i := e
  refine (rftake_ok h n (by rw [e, List.length_drop] at hn; exact hn)).mono fun e2 w' ⟨A1, c1, he, hc, hF, hE, hu⟩ => ⟨A1, c1, he, hc, by rw [e]; exact Kd.F_now hF, ⟨i + n, hE, by show xs.drop n = B.drop (i + n); rw [e, List.drop_drop]⟩, hu⟩
theorem rfnumber_any (A : Option Addr) (c : Nat) (xs : List Int) (w : World) (h : Kd.C (Kd.int .u8) w A xs.length xs) (hc : xs.length ≤ c) (hb : bytesOk xs) (h8 : xs.length ≤ 8) : Calls Tryz.prog 141 #[.slice A xs.length c] w fun e w' => e = .returned (.int .u64 (leNum xs : Nat)) ∧ Below w.heap.size w w' := by
  obtain ⟨k, hk⟩ := (ev_number xs hb h8).get
  exact (folkmootref02_number.calls k A c xs _ w h hc hk).mono fun e w' ⟨he, hd⟩ => ⟨he, hd.below⟩
set_option maxHeartbeats 1000000 in
theorem rfInt_any (h : RE w g ab B s) (hx : bytesOk s.1) : Calls Tryz.prog 100 #[ptr g] w fun e w' => e = .returned (.int .i64 (sInt s).1) ∧ RE w' g ab B (sInt s).2 ∧ Upd w w' (· = g) := by
  by_cases hbad : s.2 = true ∨ s.1.length < 8
  · rw [sInt_bad hbad]
    have ht := retake_bad h 8 hbad
    have HT := Lib.hid ht
    clear ht h hx hbad
    go_enter Tryz.func100, Tryz.ntmps100
    go_wp2_with fail
    refine HT.out.mono ?_
    rintro e w2 ⟨rfl, hE, hu⟩
    have HE := Lib.hid (And.intro hE hu)
    clear hE hu
    go_wp2
    go_ret
    exact ⟨rfl, HE.out⟩
  · obtain ⟨xs, bl⟩ := s
    have hl : 8 ≤ xs.length := by
      rcases Nat.lt_or_ge xs.length 8 with h | h
      · exact absurd (.inr h) hbad
      · exact h
    obtain rfl : bl = false := by
      cases bl with
      | true => exact absurd (.inl rfl) hbad
      | false => rfl
    rw [sInt_ok hl]
    have ht := retake_ok h 8 hl
    have hi := i64_wrap (n := numOf xs 8) (numOf_lt hx 8)
    have hxl : (xs.take 8).length = 8 := by rw [List.length_take]; omega
    have HN := Lib.hid (fun (A1 : Option Addr) (c1 : Nat) (W : World) (hC : Kd.C (Kd.int .u8) W A1 8 (xs.take 8)) (hc1 : 8 ≤ c1) => rfnumber_any A1 c1 (xs.take 8) W (by rw [hxl]; exact hC) (by omega) (bytesOk_take hx 8) (by omega))
    rw [hxl] at HN
    have hno : leNum (xs.take 8) = numOf xs 8 := rfl
    rw [hno] at HN
    simp only
    generalize numOf xs 8 = m at *
    have HT := Lib.hid ht
    clear ht h hx hbad hno hxl hl
    go_enter Tryz.func100, Tryz.ntmps100
    go_wp2_with fail
    refine HT.out.mono ?_
    rintro e w2 ⟨A1, c1, rfl, hc1, hC, hE, hu⟩
    have HE := Lib.hid (And.intro hC (And.intro hE hu))
    clear hC hE hu
    go_wp2_with fail
    refine (HN.out A1 c1 _ HE.out.1 hc1).mono ?_
    rintro e w3 ⟨rfl, hb⟩
    have HB := Lib.hid hb
    clear hb
    go_wp2
    go_ret
    exact ⟨by first | rfl | rw [hi], HE.out.2.1.below HB.out, HE.out.2.2.then_below HB.out⟩
set_option maxHeartbeats 1000000 in
theorem rfDone_any (h : RE w g ab B s) : Calls Tryz.prog 55 #[ptr g] w fun e w' => e = .returned (.int .i64 (if s.2 = true ∨ s.1.length ≠ 0 then 20 else 0)) ∧ Below w.heap.size w w' := by
  obtain ⟨xs, bl⟩ := s
  obtain ⟨i, h, e⟩ := h
  obtain ⟨A, c, hB, hc, hm, _⟩ := h.ex
  have hle := h.le
  have e : xs = B.drop i := e
  have hc0 : w.cell? ⟨g, 0, none⟩ = some (.slice A B.length c) := hB.cell 0
  have hc1 : w.cell? ⟨g, 1, none⟩ = some (.int .i64 i) := hB.cell 1
  have hc2 : w.cell? ⟨g, 2, none⟩ = some (.bool bl) := hB.cell 2
  have hl : xs.length = B.length - i := by rw [e, List.length_drop]
  clear h hB hm hc e
  cases bl with
  | true =>
    rw [if_pos (.inl rfl)]
    clear hl hle
    go_enter Tryz.func55, Tryz.ntmps55
    go_upto_region 1 with fail
    refine wp_region_held (S := (fun W => W.cell? ⟨g, 2, none⟩ = some (.bool true))) (by kernel_rfl) ?_
    simp only [List.size_toArray, List.length_cons, List.length_nil, Nat.zero_add, Nat.reduceAdd]
    have hHeld : ((fun W => W.cell? ⟨g, 2, none⟩ = some (.bool true))) w.drew := hc2
    refine tk_ 0 hHeld ?_
    refine tk_ 1 hHeld ?_
    refine tk_ 2 hHeld ?_
    refine tk_ 3 hHeld ?_
    refine tk_ 4 hHeld ?_
    refine tf_ 5 hHeld ?_
    refine tf_ 6 hHeld ?_
    refine tf_ 7 hHeld ?_
    refine tf_ 8 hHeld ?_
    refine tf_ 9 hHeld ?_
    refine tf_ 10 hHeld ?_
    refine tf_ 11 hHeld ?_
    refine tf_ 12 hHeld ?_
    refine tf_ 13 hHeld ?_
    refine tf_ 14 hHeld ?_
    refine tk_ 15 hHeld ?_
    refine wpAnyH_done (by kernel_rfl) ?_ _
    go_wp2
    go_ret
    exact ⟨rfl, below_drew (Below.refl _ _)⟩
  | false =>
    by_cases hz : xs.length = 0
    · have d1 : decide ((i : Int) < (B.length : Int)) = false := decide_eq_false (by omega)
      have d2 : decide (i < B.length) = false := decide_eq_false (by omega)
      rw [if_neg (by simp only; simp [hz])]
      clear hl hle hz
      go_enter Tryz.func55, Tryz.ntmps55
      go_upto_region 1 with fail
      refine wp_region_held (S := (fun W => W.cell? ⟨g, 2, none⟩ = some (.bool false) ∧ W.cell? ⟨g, 0, none⟩ = some (.slice A B.length c) ∧ W.cell? ⟨g, 1, none⟩ = some (.int .i64 i))) (by kernel_rfl) ?_
      simp only [List.size_toArray, List.length_cons, List.length_nil, Nat.zero_add, Nat.reduceAdd]
      have hHeld : ((fun W => W.cell? ⟨g, 2, none⟩ = some (.bool false) ∧ W.cell? ⟨g, 0, none⟩ = some (.slice A B.length c) ∧ W.cell? ⟨g, 1, none⟩ = some (.int .i64 i))) w.drew := ⟨hc2, hc0, hc1⟩
      refine tk_ 0 hHeld ?_
      refine tk_ 1 hHeld ?_
      refine tk_ 2 hHeld ?_
      refine tk_ 3 hHeld ?_
      refine tk_ 4 hHeld ?_
      refine tk_ 5 hHeld ?_
      refine tk_ 6 hHeld ?_
      refine tk_ 7 hHeld ?_
      refine tk_ 8 hHeld ?_
      refine tk_ 9 hHeld ?_
      refine tk_ 10 hHeld ?_
      refine tk_ 11 hHeld ?_
      refine tk_ 12 hHeld ?_
      refine tk_ 13 hHeld ?_
      refine tk_ 14 hHeld ?_
      refine tk_ 15 hHeld ?_
      refine wpAnyH_done (by kernel_rfl) ?_ _
      go_wp2
      go_ret
      exact ⟨rfl, below_drew (Below.refl _ _)⟩
    · have d1 : decide ((i : Int) < (B.length : Int)) = true := decide_eq_true (by omega)
      have d2 : decide (i < B.length) = true := decide_eq_true (by omega)
      rw [if_pos (.inr hz)]
      clear hl hle hz
      go_enter Tryz.func55, Tryz.ntmps55
      go_upto_region 1 with fail
      refine wp_region_held (S := (fun W => W.cell? ⟨g, 2, none⟩ = some (.bool false) ∧ W.cell? ⟨g, 0, none⟩ = some (.slice A B.length c) ∧ W.cell? ⟨g, 1, none⟩ = some (.int .i64 i))) (by kernel_rfl) ?_
      simp only [List.size_toArray, List.length_cons, List.length_nil, Nat.zero_add, Nat.reduceAdd]
      have hHeld : ((fun W => W.cell? ⟨g, 2, none⟩ = some (.bool false) ∧ W.cell? ⟨g, 0, none⟩ = some (.slice A B.length c) ∧ W.cell? ⟨g, 1, none⟩ = some (.int .i64 i))) w.drew := ⟨hc2, hc0, hc1⟩
      refine tk_ 0 hHeld ?_
      refine tk_ 1 hHeld ?_
      refine tk_ 2 hHeld ?_
      refine tk_ 3 hHeld ?_
      refine tk_ 4 hHeld ?_
      refine tk_ 5 hHeld ?_
      refine tk_ 6 hHeld ?_
      refine tk_ 7 hHeld ?_
      refine tk_ 8 hHeld ?_
      refine tk_ 9 hHeld ?_
      refine tk_ 10 hHeld ?_
      refine tk_ 11 hHeld ?_
      refine tk_ 12 hHeld ?_
      refine tk_ 13 hHeld ?_
      refine tk_ 14 hHeld ?_
      refine tk_ 15 hHeld ?_
      refine wpAnyH_done (by kernel_rfl) ?_ _
      go_wp2
      go_ret
      exact ⟨rfl, below_drew (Below.refl _ _)⟩
set_option maxHeartbeats 1000000 in
theorem rfOpen_any (A : Option Addr) (c : Nat) (xs : List Int) (w : World) (hr : Kd.C (Kd.int .u8) w A xs.length xs) (hb : xs.length ≤ 1000000000) :
    Calls Tryz.prog 53 #[.slice A xs.length c] w fun e w' => ∃ g ab, e = .returned (ptr g) ∧ w.heap.size ≤ g ∧ w.heap.size ≤ ab ∧ RE w' g ab xs (xs, false) ∧ Below w.heap.size w w' := by
  have HR := Lib.hid (Kd.reads_of_C (enc := Value.int .u8) (d := (0 : Int)) (h1 := fun _ => rfl) hr)
  clear hr
  go_enter Tryz.func53, Tryz.ntmps53
  go_wp2_with (first | ((with_reducible refine gate_builtin (b := .append) (xs := #[.tmp 3, .tmp 4]) rfl ?_); at_builtin; refine stop_append rfl ?_))
  refine Lib.hid ?_
  refine print_append_row (w0 := w) w.heap.size rfl (.tmp 3) (.tmp 4) 23 5 .u8 1 rfl Tryz.underlying23 infoB (by decide) (.slice (some ⟨w.heap.size, 0, none⟩) 0 0) [] xs A xs.length c rfl rfl (own_lit0 w (Nat.le_refl _)) ((readsInt_of.2 HR.out).below ((Below.refl _ _).alloc (Nat.le_refl _) _)) ((Below.refl _ _).alloc (Nat.le_refl _) _) (by simp) (by simp; omega) ?_
  intro v1 w1 ho hb1 _ _
  simp only [List.nil_append] at ho
  have HO := Lib.hid (And.intro ho hb1)
  obtain ⟨A1, c1, rfl, _⟩ := own_reads ho
  clear ho hb1
  go_wp2_with fail
  go_ret
  obtain ⟨ho, hb1⟩ := HO.out
  obtain ⟨w2, hw2⟩ : ∃ w2, w1.alloc (.cells #[.slice A1 xs.length c1, .int .i64 0, .bool false] 144) = w2 := ⟨_, rfl⟩
  rw [hw2]
  have hb2 : Below w1.heap.size w1 w2 := hw2 ▸ (Below.refl _ _).alloc (Nat.le_refl _) _
  have hB2 : Blk w2 w1.heap.size 144 #[.slice A1 xs.length c1, .int .i64 ((0 : Nat) : Int), .bool false] := hw2 ▸ Blk.new w1 144 _
  have hE : ∃ ab, w.heap.size ≤ ab ∧ REyeIs w2 w1.heap.size ab xs 0 false := by
    obtain ⟨A0, c0, e0, hrd⟩ := own_reads ho
    injection e0 with e1 e2 e3
    subst e1 e3
    have hcm : c1 ≤ 9223372036854775807 ∧ (xs = [] ∨ xs.length ≤ c1) := by
      obtain ⟨_, h⟩ := ho
      rcases h with ⟨e, hn⟩ | ⟨g', cap, cur, e, h1, h2, h3, h4, _⟩
      · injection e with _ _ e
        exact ⟨by omega, .inl (List.eq_nil_of_length_eq_zero hn)⟩
      · injection e with _ _ e
        exact ⟨by rw [e]; simpa [maxLen] using h4, .inr (by omega)⟩
    by_cases hx : xs = []
    · subst hx
      exact ⟨w1.heap.size, hb1.size, .inr rfl, hB2.lt, by simp, A1, c1, hB2, by simp, hcm.1, F_zero _⟩
    · have hcc := hcm.2.resolve_left hx
      obtain ⟨ad, hA, hcell⟩ := hrd.2.2 (by have := List.length_pos_iff.2 hx; omega)
      subst hA
      have hlt : ad.block < w1.heap.size := by
        have := hcell 0 (List.length_pos_iff.2 hx)
        exact World.block_lt_of_cell? w1 _ this
      refine ⟨ad.block, (RowB.ge (v := .slice (some ad) xs.length c1) ho ad.block rfl).1, .inl (by omega), Nat.lt_of_lt_of_le hlt hb2.size, by omega, some ad, c1, hB2, hcc, hcm.1, ?_⟩
      intro W hW
      refine C_of_int ⟨hrd.1, hrd.2.1, fun hn => ⟨ad, rfl, fun j hj => ?_⟩⟩
      have hj' := (hrd.below hb2).2.2 hn
      obtain ⟨ad', e, h⟩ := hj'
      injection e with e
      subst e
      have hc := h j hj
      have hbl : (ad.add j).block = ad.block := by unfold Addr.add; split <;> rfl
      exact (World.cell?_of_block (w := w2) (hW _ hbl (World.block_lt_of_cell? w2 _ hc))).trans hc
  obtain ⟨ab, hab, hE⟩ := hE
  exact ⟨w1.heap.size, ab, rfl, hb1.size, hab, ⟨0, hE, rfl⟩, hb1.trans (hb2.mono hb1.size)⟩
end
end Go.Proofs.YtgmlenpcchhmbaaGreat.P
end
section
set_option linter.unusedVariables false
set_option linter.unusedSimpArgs false
namespace Go.Proofs.YtgmlenpcchhmbaaGreat.P
open Go.RowKit Go.Proofs.YtgmlenpcchhmbaaGreatW.PrintWords Go.Proofs.YtgmlenpcchhmbaaGreatW.PrintLast Go.Proofs.YtgmlenpcchhmbaaGreatW.PrintMore
section
variable {w : World} {g ab : Nat} {xs xs' : List Int} {A : Option Addr} {n c : Nat} {x : ByteArray} {v0 : Value} {older : List PanicEntry}
theorem seeT_blind (h : EyeIs w g ab xs true) (f : Fn) (fi ca : Array Value) : Calls Tryz.prog 96 #[ptr g, .func f fi ca] w fun e w' => e = .returned (.string ⟨#[]⟩) ∧ Below w.heap.size w w' := by
  obtain ⟨A, c, hB, hc, hF⟩ := h.ex
  have hc1 : w.cell? ⟨g, 1, none⟩ = some (.bool true) := hB.cell 1
  obtain ⟨w1, hw1⟩ : ∃ w1, (w.alloc (.cells #[ptr g] 80)).alloc (.cells #[.string ⟨#[]⟩] 9) = w1 := ⟨_, rfl⟩
  have hb1 : Below w.heap.size w w1 := hw1 ▸ ((Below.refl _ _).alloc (Nat.le_refl _) _).alloc (by simp) _
  have h0 : w1.cell? ⟨w.heap.size, 0, none⟩ = some (ptr g) := hw1 ▸ ((Blk.new w 80 #[ptr g]).alloc _).cell 0
  have hx : Blk w1 (w.heap.size + 1) 9 #[.string ⟨#[]⟩] := by
    have := Blk.new (w.alloc (.cells #[ptr g] 80)) 9 #[.string ⟨#[]⟩]
    rw [hw1] at this
    simpa using this
  have hx0 : w1.cell? ⟨w.heap.size + 1, 0, none⟩ = some (.string ⟨#[]⟩) := hx.cell 0
  have hxz := hx.frozen 0
  have hc1' := pw_cell_below hb1 hc1
  have HX := Lib.hid hx
  clear h hB hF hx
  go_enter_defers Tryz.func96, Tryz.ntmps96
  go_wp2
  have hxs : (w1.setCell ⟨w.heap.size + 1, 0, none⟩ (.string ⟨#[]⟩)).cell? ⟨w.heap.size + 1, 0, none⟩ = some (.string ⟨#[]⟩) := (HX.out.set_ 0 (.string ⟨#[]⟩)).cell 0
  simp [bodyPostD, Leaves, results, Tryz.results96, go_sem, hxs]
  exact hb1.setCell (p := ⟨w.heap.size + 1, 0, none⟩) (Nat.le_succ _) _
theorem seeT1_idle (bw bx be : Nat) (w : World) : CallsD Tryz.prog 139 #[ptr bw, ptr bx, ptr be] .returning w fun e u' w' => e = .returned (.tuple #[]) ∧ u' = .returning ∧ w' = w := by
  refine callsD_of_wpS Tryz.func139 rfl fun c₀ cs hu => ?_
  apply wpS_seq
  apply wpS_region
  simp [wpOpsS, go_sem, recoverD, hu, Tryz.ntmps139, Exit.thenS]
  apply wpS_seq
  apply wpS_region
  simp [wpOpsS, go_sem, Exit.thenS]
  refine wpS_cond (t := false) (by simp [Act.eval, Array.replicate]) ?_
  simp only [Bool.false_eq_true, if_false]
  refine wpS_of_wp (wp_skip ?_)
  cases c₀
  simp_all [bodyPostS, results, Tryz.results139]
set_option maxRecDepth 100000 in
theorem seeT1_catch (bw bx be : Nat) (w : World) (hw : w.cell? ⟨bw, 0, none⟩ = some (.slice A n c)) (hx : Blk w bx 9 #[.string x]) (he : w.cell? ⟨be, 0, none⟩ = some (ptr g)) (hg : Blk w g 137 #[v0, .bool false]) :
    CallsD Tryz.prog 139 #[ptr bw, ptr bx, ptr be] (.panicking ({ v := .iface 170 (.agg #[]), recovered := false } :: older)) w fun e u' w' => e = .returned (.tuple #[]) ∧ u' = .panicking ({ v := .iface 170 (.agg #[]), recovered := true } :: older) ∧ Caught w w' g bx (.slice A n c) (.string ⟨#[]⟩) 9 := by
  have hgx : g ≠ bx := hg.ne_ hx (by decide)
  refine callsD_of_wpS Tryz.func139 rfl fun c₀ cs hu => ?_
  apply wpS_seq
  apply wpS_region
  simp [wpOpsS, go_sem, recoverD, hu, Tryz.ntmps139, Exit.thenS, rep23]
  apply wpS_seq
  apply wpS_region
  simp [wpOpsS, go_sem, Exit.thenS]
  refine wpS_cond (t := true) (by simp [Act.eval, Array.replicate]) ?_
  simp only [if_true]
  refine wpS_of_wp ?_
  obtain ⟨w1, hw1⟩ : ∃ w1, w.alloc (.cells #[] 170) = w1 := ⟨_, rfl⟩
  have hb1 : Below w.heap.size w w1 := hw1 ▸ (Below.refl _ _).alloc (Nat.le_refl _) _
  have hw' := pw_cell_below hb1 hw
  have he' := pw_cell_below hb1 he
  have hx1 := hx.below hb1 hx.lt
  have hg1 := hg.below hb1 hg.lt
  obtain ⟨w2, hw2⟩ : ∃ w2, w1.setCell ⟨bx, 0, none⟩ (.string ⟨#[]⟩) = w2 := ⟨_, rfl⟩
  have hu2 : Upd w1 w2 (· = bx) := hw2 ▸ (Upd.refl w1 (· = bx)).setCell (p := ⟨bx, 0, none⟩) (.inl rfl) _
  have hx2 : Blk w2 bx 9 #[.string ⟨#[]⟩] := hw2 ▸ hx1.set_ 0 (.string ⟨#[]⟩)
  have hg2 := hg1.upd hu2 hgx
  obtain ⟨w3, hw3⟩ : ∃ w3, w2.setCell ⟨g, 0, none⟩ (.slice A n c) = w3 := ⟨_, rfl⟩
  have hu3 : Upd w2 w3 (· = g) := hw3 ▸ (Upd.refl w2 (· = g)).setCell (p := ⟨g, 0, none⟩) (.inl rfl) _
  have hg3 : Blk w3 g 137 #[.slice A n c, .bool false] := hw3 ▸ hg2.set_ 0 (.slice A n c)
  obtain ⟨w4, hw4⟩ : ∃ w4, w3.setCell ⟨g, 1, none⟩ (.bool true) = w4 := ⟨_, rfl⟩
  have hu4 : Upd w3 w4 (· = g) := hw4 ▸ (Upd.refl w3 (· = g)).setCell (p := ⟨g, 1, none⟩) (.inl rfl) _
  have hg4 : Blk w4 g 137 #[.slice A n c, .bool true] := hw4 ▸ hg3.set_ 1 (.bool true)
  have hx4 := (hx2.upd hu3 hgx.symm).upd hu4 hgx.symm
  have hC : Caught w w4 g bx (.slice A n c) (.string ⟨#[]⟩) 9 := ⟨(((Upd.of_below hb1 _).trans (hu2.mono fun _ _ h => .inr h)).trans (hu3.mono fun _ _ h => .inl h)).trans (hu4.mono fun _ _ h => .inl h), hg4, hx4⟩
  have HC := Lib.hid hC
  have hxc : w1.cell? ⟨bx, 0, none⟩ = some (.string x) := hx1.cell 0
  have hxz := hx1.frozen 0
  have hgc : w2.cell? ⟨g, 0, none⟩ = some v0 := hg2.cell 0
  have hgz := hg2.frozen 0
  have hgc3 : w3.cell? ⟨g, 1, none⟩ = some (.bool false) := hg3.cell 1
  have hgz3 := hg3.frozen 1
  have HU := Lib.hid hu
  clear hu hx hg hb1 hw he hx1 hg1 hu2 hx2 hg2 hu3 hg3 hu4 hg4 hx4 hC hgx
  have hta := sight_assert
  go_wp2_with fail
  have hu := HU.out
  cases c₀
  simp_all [bodyPostS, results, Tryz.results139]
  exact HC.out
set_option maxRecDepth 100000 in
theorem seeT_ok (h : EyeIs w g ab xs false) (gf : Nat) (caps : Array Value) (eg : ∀ args w, (callFunc gf args).run Tryz.prog w = .ok (.enter gf args) w) (v : ByteArray)
    (hf : ∀ W, EyeIs W g ab xs false → Below w.heap.size w W → Calls Tryz.prog gf caps W fun e w' => e = .returned (.string v) ∧ EyeIs w' g ab xs' false ∧ Upd W w' (· = g)) :
    Calls Tryz.prog 96 #[ptr g, .func (.func gf) #[] caps] w fun e w' => e = .returned (.string v) ∧ EyeIs w' g ab xs' false ∧ Upd w w' (· = g) := by
  obtain ⟨A, c, hB, hc, hF⟩ := h.ex
  obtain ⟨w1, hw1⟩ : ∃ w1, (w.alloc (.cells #[ptr g] 80)).alloc (.cells #[.string ⟨#[]⟩] 9) = w1 := ⟨_, rfl⟩
  have hb1 : Below w.heap.size w w1 := hw1 ▸ ((Below.refl _ _).alloc (Nat.le_refl _) _).alloc (by simp) _
  have h0 : w1.cell? ⟨w.heap.size, 0, none⟩ = some (ptr g) := hw1 ▸ ((Blk.new w 80 #[ptr g]).alloc _).cell 0
  have hx : Blk w1 (w.heap.size + 1) 9 #[.string ⟨#[]⟩] := by
    have := Blk.new (w.alloc (.cells #[ptr g] 80)) 9 #[.string ⟨#[]⟩]
    rw [hw1] at this
    simpa using this
  have hB1 := hB.below hb1 hB.lt
  have hc0 : w1.cell? ⟨g, 0, none⟩ = some (.slice A xs.length c) := hB1.cell 0
  have hc1 : w1.cell? ⟨g, 1, none⟩ = some (.bool false) := hB1.cell 1
  obtain ⟨w2, hw2⟩ : ∃ w2, w1.alloc (.cells #[.slice A xs.length c] 23) = w2 := ⟨_, rfl⟩
  have hb2 : Below w.heap.size w w2 := hw2 ▸ hb1.alloc hb1.size _
  have hx2 : Blk w2 (w.heap.size + 1) 9 #[.string ⟨#[]⟩] := hw2 ▸ hx.alloc _
  have hcl := hf w2 (h.below hb2) hb2
  have hlt := h.lt
  have HCL := Lib.hid hcl; have HX := Lib.hid (And.intro hx2 (And.intro hb2 (And.intro h.old hlt)))
  have hmf : ∀ (fn : Fn) (first cap : Array Value) (w : World), (Instr.makeFunc fn first cap).run Tryz.prog w = .ok (.func fn first cap) w := fun _ _ _ _ => rfl
  clear hB hF hf hx hB1 hcl hx2 hb2 hlt h
  go_enter_defers Tryz.func96, Tryz.ntmps96
  go_wp2_with fail
  refine HCL.out.mono ?_
  rintro e w3 ⟨rfl, hE3, hu3⟩
  have hX3 := HX.out.1.upd hu3 (fun e => by have := HX.out.2.2.2; omega)
  have hx3c : w3.cell? ⟨w.heap.size + 1, 0, none⟩ = some (.string ⟨#[]⟩) := hX3.cell 0
  have hx3z := hX3.frozen 0
  obtain ⟨w4, hw4⟩ : ∃ w4, w3.setCell ⟨w.heap.size + 1, 0, none⟩ (.string v) = w4 := ⟨_, rfl⟩
  have hX4 : Blk w4 (w.heap.size + 1) 9 #[.string v] := hw4 ▸ hX3.set_ 0 (.string v)
  have hu4 : Upd w3 w4 (· = w.heap.size + 1) := hw4 ▸ (Upd.refl w3 (· = w.heap.size + 1)).setCell (p := ⟨w.heap.size + 1, 0, none⟩) (.inl rfl) _
  have HE := Lib.hid (And.intro hE3 (And.intro hu3 (And.intro hX4 hu4)))
  clear hE3 hu3 hX3 hX4 hu4 HCL
  go_wp2_with fail
  refine leaves_cons (f := 139) (args := #[ptr w1.heap.size, ptr (w.heap.size + 1), ptr w.heap.size]) (by simp) (by simp [go_sem]) ?_
  refine (seeT1_idle _ _ _ _).mono ?_
  rintro e u' w'' ⟨rfl, rfl, rfl⟩
  obtain ⟨hE3, hu3, hX4, hu4⟩ := HE.out
  obtain ⟨_, hb2, hold, hlt⟩ := HX.out
  have hxs := hX4.cell 0
  simp at hxs
  have hE4 := hE3.upd hu4 (fun e => by omega) (fun e => by omega)
  simp [Leaves, settle, results, Tryz.results96, go_sem, hxs]
  refine ⟨hE4, ?_⟩
  have hU : Upd w3 w'' (fun k => k = w.heap.size + 1) := hu4
  refine ⟨(hu4.os.trans hu3.os).trans hb2.os, (hu4.tape.trans hu3.tape).trans hb2.tape, (hu4.output.trans hu3.output).trans hb2.output, Nat.le_trans hb2.size (Nat.le_trans hu3.size hu4.size), fun k hk hn => ?_⟩
  have h1 := hb2.block k hk
  have h2 := hu3.block k (Nat.lt_of_lt_of_le hk hb2.size) hn
  have h3 := hu4.block k (Nat.lt_of_lt_of_le hk (Nat.le_trans hb2.size hu3.size)) (by omega)
  exact h3.trans (h2.trans h1)
set_option maxRecDepth 100000 in
theorem seeT_bad (h : EyeIs w g ab xs false) (gf : Nat) (caps : Array Value) (eg : ∀ args w, (callFunc gf args).run Tryz.prog w = .ok (.enter gf args) w)
    (hf : ∀ W, EyeIs W g ab xs false → Below w.heap.size w W → Calls Tryz.prog gf caps W fun e w' => e = .panicked sightP ∧ (∃ v0, Blk w' g 137 #[v0, .bool false]) ∧ Upd W w' (· = g)) :
    Calls Tryz.prog 96 #[ptr g, .func (.func gf) #[] caps] w fun e w' => e = .returned (.string ⟨#[]⟩) ∧ EyeIs w' g ab xs true ∧ Upd w w' (· = g) := by
  obtain ⟨A, c, hB, hc, hF⟩ := h.ex
  obtain ⟨w1, hw1⟩ : ∃ w1, (w.alloc (.cells #[ptr g] 80)).alloc (.cells #[.string ⟨#[]⟩] 9) = w1 := ⟨_, rfl⟩
  have hb1 : Below w.heap.size w w1 := hw1 ▸ ((Below.refl _ _).alloc (Nat.le_refl _) _).alloc (by simp) _
  have h0B : Blk w1 w.heap.size 80 #[ptr g] := hw1 ▸ ((Blk.new w 80 #[ptr g]).alloc _)
  have h0 : w1.cell? ⟨w.heap.size, 0, none⟩ = some (ptr g) := h0B.cell 0
  have hx : Blk w1 (w.heap.size + 1) 9 #[.string ⟨#[]⟩] := by
    have := Blk.new (w.alloc (.cells #[ptr g] 80)) 9 #[.string ⟨#[]⟩]
    rw [hw1] at this
    simpa using this
  have hs1 : w1.heap.size = w.heap.size + 2 := by rw [← hw1]; simp
  have hB1 := hB.below hb1 hB.lt
  have hc0 : w1.cell? ⟨g, 0, none⟩ = some (.slice A xs.length c) := hB1.cell 0
  have hc1 : w1.cell? ⟨g, 1, none⟩ = some (.bool false) := hB1.cell 1
  obtain ⟨w2, hw2⟩ : ∃ w2, w1.alloc (.cells #[.slice A xs.length c] 23) = w2 := ⟨_, rfl⟩
  have hb2 : Below w.heap.size w w2 := hw2 ▸ hb1.alloc hb1.size _
  have hx2 : Blk w2 (w.heap.size + 1) 9 #[.string ⟨#[]⟩] := hw2 ▸ hx.alloc _
  have h02 : Blk w2 w.heap.size 80 #[ptr g] := hw2 ▸ h0B.alloc _
  have hw22 : Blk w2 w1.heap.size 23 #[.slice A xs.length c] := hw2 ▸ Blk.new w1 23 _
  have hcl := hf w2 (h.below hb2) hb2
  have hlt := h.lt
  have HCL := Lib.hid hcl; have HX := Lib.hid (And.intro hx2 (And.intro hb2 (And.intro h (And.intro hlt (And.intro h02 (And.intro hw22 hs1))))))
  have hmf : ∀ (fn : Fn) (first cap : Array Value) (w : World), (Instr.makeFunc fn first cap).run Tryz.prog w = .ok (.func fn first cap) w := fun _ _ _ _ => rfl
  have HFC := Lib.hid (And.intro hF hc)
  clear hB hF hf hx hB1 hcl hx2 hb2 hlt h h0B h02 hw22 hs1 hc
  go_enter_defers Tryz.func96, Tryz.ntmps96
  go_wp2_with fail
  refine HCL.out.mono ?_
  rintro e w3 ⟨rfl, ⟨v0, hE3⟩, hu3⟩
  have HE := Lib.hid (And.intro hE3 hu3)
  clear hE3 hu3 HCL
  go_wp2_with fail
  obtain ⟨hE3, hu3⟩ := HE.out
  obtain ⟨hx2, hb2, h, hlt, h02, hw22, hs1⟩ := HX.out
  have hx3 := hx2.upd hu3 (fun e => by omega)
  have h03 := h02.upd hu3 (fun e => by omega)
  have hw3 := hw22.upd hu3 (fun e => by omega)
  refine leaves_cons (f := 139) (args := #[ptr w1.heap.size, ptr (w.heap.size + 1), ptr w.heap.size]) (by simp) (by simp [go_sem]) ?_
  refine (seeT1_catch w1.heap.size (w.heap.size + 1) w.heap.size w3 (hw3.cell 0) hx3 (h03.cell 0) hE3).mono ?_
  rintro e u' w4 ⟨rfl, rfl, hC⟩
  have hxs := hC.res.cell 0
  simp at hxs
  simp [Leaves, settle, results, Tryz.results96, go_sem, hxs]
  have hU : Upd w w4 (· = g) := by
    have hu4 := hC.upd
    refine ⟨(hu4.os.trans hu3.os).trans hb2.os, (hu4.tape.trans hu3.tape).trans hb2.tape, (hu4.output.trans hu3.output).trans hb2.output, Nat.le_trans hb2.size (Nat.le_trans hu3.size hu4.size), fun k hk hn => ?_⟩
    have h1 := hb2.block k hk
    have h2 := hu3.block k (Nat.lt_of_lt_of_le hk hb2.size) hn
    have h3 := hu4.block k (Nat.lt_of_lt_of_le hk (Nat.le_trans hb2.size hu3.size)) (by rintro (e | e) <;> omega)
    exact h3.trans (h2.trans h1)
  refine ⟨⟨h.ne, Nat.lt_of_lt_of_le h.old hU.size, A, c, hC.eye, HFC.out.2, ?_⟩, hU⟩
  rcases h.ne with hne | hnil
  · exact Kd.F_step HFC.out.1 (fun k hk hlt => hU.block k hlt (fun e => hne (hk ▸ e)))
  · rw [hnil]; exact F_zero A
end
end Go.Proofs.YtgmlenpcchhmbaaGreat.P
end
section
set_option linter.unusedVariables false
set_option linter.unusedSimpArgs false
namespace Go.Proofs.YtgmlenpcchhmbaaGreat.P
open Go.RowKit Go.Proofs.YtgmlenpcchhmbaaGreatW.PrintWords Go.Proofs.YtgmlenpcchhmbaaGreatW.PrintLast Go.Proofs.YtgmlenpcchhmbaaGreatW.PrintMore
def textAt (xs : List Int) : Bool := decide (4 ≤ xs.length) && decide (numOf xs 4 ≤ 1048576) && decide (numOf xs 4 ≤ xs.length - 4)
def sText (s : Sight) : ByteArray × Sight := if s.2 = true ∨ textAt s.1 = false then (⟨#[]⟩, (s.1, true)) else (strOfNums ((s.1.drop 4).take (numOf s.1 4)), ((s.1.drop 4).drop (numOf s.1 4), false))
theorem sText_bad {s : Sight} (h : s.2 = true ∨ textAt s.1 = false) : sText s = (⟨#[]⟩, (s.1, true)) := if_pos h
theorem sText_ok {xs : List Int} (h : textAt xs = true) : sText (xs, false) = (strOfNums ((xs.drop 4).take (numOf xs 4)), ((xs.drop 4).drop (numOf xs 4), false)) := if_neg (by simp [h])
section
variable {w : World} {g ab be : Nat} {xs : List Int}
theorem text1_bad (h : EyeIs w g ab xs false) (hx : bytesOk xs) (he : w.cell? ⟨be, 0, none⟩ = some (ptr g)) (hbg : be ≠ g) (hl : textAt xs = false) : Calls Tryz.prog 97 #[ptr be] w fun e w' => e = .panicked sightP ∧ (∃ v0, Blk w' g 137 #[v0, .bool false]) ∧ Upd w w' (· = g) := by
  by_cases h4 : 4 ≤ xs.length
  · have hn := number_ok h hx 4 h4 (by omega)
    have hm := numOf_lt hx 4
    have hm4 : (256 : Nat) ^ 4 = 4294967296 := by decide
    unfold textAt at hl
    rw [decide_eq_true h4, Bool.true_and] at hl
    obtain ⟨m, hme⟩ : ∃ m, numOf xs 4 = m := ⟨_, rfl⟩
    rw [hme] at hn hm hl
    have HN := Lib.hid hn
    clear h hn hx hme
    by_cases h1 : m ≤ 1048576
    · have h2 : xs.length - 4 < m := by
        rw [decide_eq_true h1, Bool.true_and] at hl
        have := of_decide_eq_false hl
        omega
      have d1 : decide ((m : Int) ≤ 1048576) = true := decide_eq_true (by omega)
      go_enter Tryz.func97, Tryz.ntmps97
      go_wp2_with fail
      refine HN.out.mono ?_
      rintro e w1 ⟨rfl, hE, hu⟩
      have he1 : w1.cell? ⟨be, 0, none⟩ = some (ptr g) := (World.cell?_of_block (w := w) (hu.block be (World.block_lt_of_cell? w ⟨be, 0, none⟩ he) hbg)).trans he
      have HT := Lib.hid (take_short hE (m : Int) (by rw [List.length_drop]; omega))
      obtain ⟨A, c, hB, _, _⟩ := hE.ex
      have HB := Lib.hid hB; have HU := Lib.hid hu
      clear hE hu HN hB
      go_wp2_with fail
      refine (must_true w1).mono ?_
      rintro e w2 ⟨rfl, rfl⟩
      go_wp2_with fail
      refine HT.out.mono ?_
      rintro e w3 ⟨rfl, rfl⟩
      go_wp2_with fail
      exact ⟨rfl, rfl, ⟨_, HB.out⟩, HU.out⟩
    · have d1 : decide ((m : Int) ≤ 1048576) = false := decide_eq_false (by omega)
      go_enter Tryz.func97, Tryz.ntmps97
      go_wp2_with fail
      refine HN.out.mono ?_
      rintro e w1 ⟨rfl, hE, hu⟩
      obtain ⟨A, c, hB, _, _⟩ := hE.ex
      have HB := Lib.hid hB; have HU := Lib.hid hu
      clear hE hu HN hB
      go_wp2_with fail
      refine (must_false w1).mono ?_
      rintro e w2 ⟨rfl, rfl⟩
      go_wp2_with fail
      exact ⟨rfl, rfl, ⟨_, HB.out⟩, HU.out⟩
  · have hn := number_short h 4 (by omega)
    obtain ⟨A, c, hB, _, _⟩ := h.ex
    have HN := Lib.hid hn; have HB := Lib.hid hB
    clear h hn hB
    go_enter Tryz.func97, Tryz.ntmps97
    go_wp2_with fail
    refine HN.out.mono ?_
    rintro e w1 ⟨rfl, rfl⟩
    go_wp2_with fail
    exact ⟨rfl, rfl, ⟨_, HB.out⟩, Upd.refl _ _⟩
theorem text1_ok (h : EyeIs w g ab xs false) (hx : bytesOk xs) (he : w.cell? ⟨be, 0, none⟩ = some (ptr g)) (hbg : be ≠ g) (hl : textAt xs = true) : Calls Tryz.prog 97 #[ptr be] w fun e w' => e = .returned (.string (strOfNums ((xs.drop 4).take (numOf xs 4)))) ∧ EyeIs w' g ab ((xs.drop 4).drop (numOf xs 4)) false ∧ Upd w w' (· = g) := by
  unfold textAt at hl
  simp only [Bool.and_eq_true, decide_eq_true_eq] at hl
  obtain ⟨⟨h4, h1⟩, h2⟩ := hl
  have hn := number_ok h hx 4 h4 (by omega)
  generalize numOf xs 4 = m at *
  have HN := Lib.hid hn
  clear h hn hx
  have d1 : decide ((m : Int) ≤ 1048576) = true := decide_eq_true (by omega)
  go_enter Tryz.func97, Tryz.ntmps97
  go_wp2_with fail
  refine HN.out.mono ?_
  rintro e w1 ⟨rfl, hE, hu⟩
  have he1 : w1.cell? ⟨be, 0, none⟩ = some (ptr g) := (World.cell?_of_block (w := w) (hu.block be (World.block_lt_of_cell? w ⟨be, 0, none⟩ he) hbg)).trans he
  have HT := Lib.hid (take_ok hE m (by rw [List.length_drop]; omega))
  have HU := Lib.hid hu
  clear hE hu HN
  go_wp2_with fail
  refine (must_true w1).mono ?_
  rintro e w2 ⟨rfl, rfl⟩
  go_wp2_with fail
  refine HT.out.mono ?_
  rintro e w3 ⟨A1, c1, rfl, hc1, hF, hE3, hu3⟩
  have hst := Kd.C_string (P := Tryz.prog) (src := 23) (dst := 9) (c := c1) Tryz.underlying23 Tryz.underlying5 Tryz.underlying9 (Kd.F_now hF)
  have HE := Lib.hid (And.intro hE3 hu3)
  clear hF hE3 hu3 HT
  go_wp2_with fail
  go_ret
  exact ⟨rfl, HE.out.1, HU.out.trans HE.out.2⟩
theorem entersT : ∀ args w, (callFunc 97 args).run Tryz.prog w = .ok (.enter 97 args) w := enters_of Tryz.func97 (by kernel_rfl) rfl
theorem flText_any (s : Sight) (h : EyeIs w g ab s.1 s.2) (hx : bytesOk s.1) : Calls Tryz.prog 50 #[ptr g] w fun e w' => e = .returned (.string (sText s).1) ∧ EyeIs w' g ab (sText s).2.1 (sText s).2.2 ∧ Upd w w' (· = g) := by
  obtain ⟨xs, bl⟩ := s
  obtain ⟨w1, hw1⟩ : ∃ w1, w.alloc (.cells #[ptr g] 80) = w1 := ⟨_, rfl⟩
  have hb1 : Below w.heap.size w w1 := hw1 ▸ (Below.refl _ _).alloc (Nat.le_refl _) _
  have h0B : Blk w1 w.heap.size 80 #[ptr g] := hw1 ▸ Blk.new w 80 #[ptr g]
  have h0 : w1.cell? ⟨w.heap.size, 0, none⟩ = some (ptr g) := h0B.cell 0
  have h1 := h.below hb1
  have hlt := h.lt
  have hne : w.heap.size ≠ g := by omega
  have hmf : ∀ (fn : Fn) (first cap : Array Value) (w : World), (Instr.makeFunc fn first cap).run Tryz.prog w = .ok (.func fn first cap) w := fun _ _ _ _ => rfl
  have hs : Calls Tryz.prog 96 #[ptr g, .func (.func 97) #[] #[ptr w.heap.size]] w1 fun e w' => e = .returned (.string (sText (xs, bl)).1) ∧ EyeIs w' g ab (sText (xs, bl)).2.1 (sText (xs, bl)).2.2 ∧ Upd w1 w' (· = g) := by
    cases bl with
    | true =>
      rw [sText_bad (.inl rfl)]
      exact (seeT_blind h1 _ _ _).mono fun e w' ⟨he, hb⟩ => ⟨he, h1.below hb, Upd.of_below hb _⟩
    | false =>
      cases hl : textAt xs with
      | false =>
        rw [sText_bad (.inr hl)]
        exact seeT_bad h1 97 _ entersT fun W hE hb => text1_bad hE hx (pw_cell_below hb h0) hne hl
      | true =>
        rw [sText_ok hl]
        exact seeT_ok h1 97 _ entersT _ fun W hE hb => text1_ok hE hx (pw_cell_below hb h0) hne hl
  have HS := Lib.hid hs; have HB := Lib.hid hb1
  clear h h0B h1 hs hb1 hne
  generalize sText (xs, bl) = r at *
  go_enter Tryz.func50, Tryz.ntmps50
  go_wp2_with fail
  refine HS.out.mono ?_
  rintro e w2 ⟨rfl, hE, hu⟩
  go_wp2_with fail
  go_ret
  exact ⟨rfl, hE, (Upd.of_below HB.out _).trans hu⟩
end
end Go.Proofs.YtgmlenpcchhmbaaGreat.P
end
section
set_option linter.unusedVariables false
set_option linter.unusedSimpArgs false
namespace Go.Proofs.YtgmlenpcchhmbaaGreat.P
open Go.RowKit Go.Proofs.YtgmlenpcchhmbaaGreatW.PrintWords Go.Proofs.YtgmlenpcchhmbaaGreatW.PrintLast Go.Proofs.YtgmlenpcchhmbaaGreatW.PrintMore
section
variable {w w' : World} {g ab : Nat} {B : List Int} {s : Sight}
set_option maxHeartbeats 2000000 in
set_option maxRecDepth 100000 in
theorem rfText_any (h : RE w g ab B s) (hx : bytesOk s.1) (hBl : B.length ≤ 1000000000) : Calls Tryz.prog 101 #[ptr g] w fun e w' => e = .returned (.string (sText s).1) ∧ RE w' g ab B (sText s).2 ∧ Upd w w' (· = g) := by
  obtain ⟨xs, bl⟩ := s
  obtain ⟨i, hE, e⟩ := h
  have e : xs = B.drop i := e
  have hE : REyeIs w g ab B i bl := hE
  obtain ⟨A, c, hBk, hc, hm, hF⟩ := hE.ex
  have hc1 : w.cell? ⟨g, 1, none⟩ = some (.int .i64 (i : Int)) := hBk.cell 1
  have hle := hE.le
  have hxl : xs.length = B.length - i := by rw [e, List.length_drop]
  by_cases hbad : bl = true ∨ xs.length < 4
  · have hs : sText (xs, bl) = (⟨#[]⟩, (xs, true)) := sText_bad (hbad.imp id fun h4 => by unfold textAt; simp; omega)
    rw [hs]
    have HT := Lib.hid (rftake_bad hE 4 (hbad.imp id fun h4 => by omega))
    have HEQ := Lib.hid e
    clear hE hBk hc hm hF hxl hbad hs e hx
    go_enter Tryz.func101, Tryz.ntmps101
    go_wp2_with fail
    refine HT.out.mono ?_
    rintro e w2 ⟨rfl, hE2, hu⟩
    have HE := Lib.hid (And.intro hE2 hu)
    clear hE2 hu hc1
    go_wp2
    go_ret
    exact ⟨rfl, ⟨i, HE.out.1, HEQ.out⟩, HE.out.2⟩
  · obtain rfl : bl = false := by
      cases bl with
      | false => rfl
      | true => exact absurd (.inl rfl) hbad
    have h4 : 4 ≤ xs.length := by
      rcases Nat.lt_or_ge xs.length 4 with h | h
      · exact absurd (.inr h) hbad
      · exact h
    have HT := Lib.hid (rftake_ok hE 4 (by omega))
    have hm4 := numOf_lt hx 4
    have hxt : (xs.take 4).length = 4 := by rw [List.length_take]; omega
    obtain ⟨n, hn⟩ : ∃ n, numOf xs 4 = n := ⟨_, rfl⟩
    have HN := Lib.hid (fun (A1 : Option Addr) (c1 : Nat) (W : World) (hC : Kd.C (Kd.int .u8) W A1 4 (xs.take 4)) (hc1 : 4 ≤ c1) =>
      (show Calls Tryz.prog 141 #[.slice A1 4 c1] W fun e w' => e = .returned (.int .u64 (n : Nat)) ∧ Below W.heap.size W w' from by
        have := rfnumber_any A1 c1 (xs.take 4) W (by rw [hxt]; exact hC) (by omega) (bytesOk_take hx 4) (by omega)
        rw [hxt] at this
        rw [← hn]; exact this))
    rw [hn] at hm4
    have hn32 : n < 4294967296 := hm4
    have HL := Lib.hid (And.intro hle (And.intro e (And.intro hn (And.intro hxl (And.intro h4 (And.intro hn32 hBl))))))
    clear hE hBk hc hm hF hbad hx hm4 hxt hle e hxl h4
    go_enter Tryz.func101, Tryz.ntmps101
    go_wp2_with fail
    refine HT.out.mono ?_
    rintro e w2 ⟨A1, c1, rfl, hc1', hF1, hE2, hu2⟩
    have hC1 : Kd.C (Kd.int .u8) w2 A1 4 (xs.take 4) := by rw [HL.out.2.1]; exact Kd.F_now hF1
    have HE2 := Lib.hid (And.intro hC1 (And.intro hE2 hu2))
    clear hF1 hE2 hu2 hC1 hc1
    go_wp2_with fail
    refine (HN.out A1 c1 _ HE2.out.1 hc1').mono ?_
    rintro e w3 ⟨rfl, hb3⟩
    have hE3 := HE2.out.2.1.below hb3
    have hu3 := HE2.out.2.2.then_below hb3
    obtain ⟨A3, c3, hB3, hc3, hm3, hF3⟩ := hE3.ex
    have k0 : w3.cell? ⟨g, 0, none⟩ = some (.slice A3 B.length c3) := hB3.cell 0
    have k1 : w3.cell? ⟨g, 1, none⟩ = some (.int .i64 ((i : Int) + 4)) := by have := hB3.cell 1; rw [Int.natCast_add] at this; exact this
    have k2 : w3.cell? ⟨g, 2, none⟩ = some (.bool false) := hB3.cell 2
    have z1 := hB3.frozen 1
    have z2 := hB3.frozen 2
    have HK := Lib.hid (And.intro hB3 (And.intro hE3 (And.intro hc3 (And.intro hm3 (And.intro hF3 hu3)))))
    clear hb3 hE3 hu3 hB3 hc3 hm3 hF3 HT HE2
    have e2 : IntKind.i64.wrap (n : Int) = (n : Int) := Go.IntWalk.i64_in _ (by omega)
    by_cases hbig : 1048576 < n
    · have hs : sText (xs, false) = (⟨#[]⟩, (xs, true)) := sText_bad (.inr (by unfold textAt; rw [HL.out.2.2.1]; simp; omega))
      have HS := Lib.hid hs
      have g1 : (n : Int) > 1048576 := by omega
      have g2 : decide ((n : Int) > 1048576) = true := decide_eq_true g1
      have g3 : decide (1048576 < n) = true := decide_eq_true hbig
      clear hs hbig e2
      go_upto_region 6 with fail
      refine wp_region_held (S := (fun W => W.cell? ⟨g, 0, none⟩ = some (.slice A3 B.length c3) ∧ W.cell? ⟨g, 1, none⟩ = some (.int .i64 ((i : Int) + 4)))) (by kernel_rfl) ?_
      simp only [List.size_toArray, List.length_cons, List.length_nil, Nat.zero_add, Nat.reduceAdd]
      have hHeld : ((fun W => W.cell? ⟨g, 0, none⟩ = some (.slice A3 B.length c3) ∧ W.cell? ⟨g, 1, none⟩ = some (.int .i64 ((i : Int) + 4)))) w3.drew := ⟨k0, k1⟩
      refine tk_ 0 hHeld ?_
      refine tk_ 1 hHeld ?_
      refine tk_ 2 hHeld ?_
      refine tf_ 3 hHeld ?_
      refine tf_ 4 hHeld ?_
      refine tf_ 5 hHeld ?_
      refine tf_ 6 hHeld ?_
      refine tf_ 7 hHeld ?_
      refine tf_ 8 hHeld ?_
      refine tf_ 9 hHeld ?_
      refine tf_ 10 hHeld ?_
      refine tf_ 11 hHeld ?_
      refine tf_ 12 hHeld ?_
      refine tf_ 13 hHeld ?_
      refine tf_ 14 hHeld ?_
      refine tf_ 15 hHeld ?_
      refine tk_ 16 hHeld ?_
      refine wpAnyH_done (by kernel_rfl) ?_ _
      clear hHeld
      go_wp2
      go_ret
      have hu4 : Upd w3 ((w3.drew.setCell ⟨g, 1, none⟩ (.int .i64 (i : Int))).setCell ⟨g, 2, none⟩ (.bool true)) (· = g) := (((Upd.refl w3 (· = g)).drew).setCell (p := ⟨g, 1, none⟩) (.inl rfl) _).setCell (p := ⟨g, 2, none⟩) (.inl rfl) _
      have hB4 : Blk ((w3.drew.setCell ⟨g, 1, none⟩ (.int .i64 (i : Int))).setCell ⟨g, 2, none⟩ (.bool true)) g 144 #[.slice A3 B.length c3, .int .i64 (i : Int), .bool true] := (HK.out.1.drew.set_ 1 (.int .i64 (i : Int))).set_ 2 (.bool true)
      rw [HS.out]
      exact ⟨rfl, ⟨i, HK.out.2.1.turn (j := i) (bl' := true) hu4 hB4 HL.out.1 HK.out.2.2.1 HK.out.2.2.2.1 HK.out.2.2.2.2.1, HL.out.2.1⟩, HK.out.2.2.2.2.2.trans hu4⟩
    · obtain ⟨m, hmq⟩ : ∃ m, B.length - (i + 4) = m := ⟨_, rfl⟩
      have e1 : IntKind.i64.wrap ((B.length : Int) - ((i : Int) + 4)) = (m : Int) := by
        have := HL.out.1; have := HL.out.2.2.2.1; have := HL.out.2.2.2.2.1
        rw [Go.IntWalk.i64_in _ (by have := HL.out.2.2.2.2.2.2; omega)]; omega
      have g1 : ¬ ((n : Int) > 1048576) := by omega
      have g2 : decide ((n : Int) > 1048576) = false := decide_eq_false g1
      have g3 : decide (1048576 < n) = false := decide_eq_false hbig
      by_cases hfit : m < n
      · have hs : sText (xs, false) = (⟨#[]⟩, (xs, true)) := sText_bad (.inr (by
          have := HL.out.2.2.2.1; have := HL.out.2.2.2.2.1
          unfold textAt; rw [HL.out.2.2.1]; simp; omega))
        have HS := Lib.hid hs
        have d1 : decide ((m : Int) < (n : Int)) = true := decide_eq_true (by omega)
        have d2 : decide (m < n) = true := decide_eq_true hfit
        clear hs hbig hfit hmq
        go_upto_region 6 with fail
        refine wp_region_held (S := (fun W => W.cell? ⟨g, 0, none⟩ = some (.slice A3 B.length c3) ∧ W.cell? ⟨g, 1, none⟩ = some (.int .i64 ((i : Int) + 4)))) (by kernel_rfl) ?_
        simp only [List.size_toArray, List.length_cons, List.length_nil, Nat.zero_add, Nat.reduceAdd]
        have hHeld : ((fun W => W.cell? ⟨g, 0, none⟩ = some (.slice A3 B.length c3) ∧ W.cell? ⟨g, 1, none⟩ = some (.int .i64 ((i : Int) + 4)))) w3.drew := ⟨k0, k1⟩
        refine tk_ 0 hHeld ?_
        refine tk_ 1 hHeld ?_
        refine tk_ 2 hHeld ?_
        refine tk_ 3 hHeld ?_
        refine tk_ 4 hHeld ?_
        refine tk_ 5 hHeld ?_
        refine tk_ 6 hHeld ?_
        refine tk_ 7 hHeld ?_
        refine tk_ 8 hHeld ?_
        refine tk_ 9 hHeld ?_
        refine tk_ 10 hHeld ?_
        refine tk_ 11 hHeld ?_
        refine tk_ 12 hHeld ?_
        refine tk_ 13 hHeld ?_
        refine tk_ 14 hHeld ?_
        refine tk_ 15 hHeld ?_
        refine tk_ 16 hHeld ?_
        refine wpAnyH_done (by kernel_rfl) ?_ _
        clear hHeld e1 e2
        go_wp2
        go_ret
        have hu4 : Upd w3 ((w3.drew.setCell ⟨g, 1, none⟩ (.int .i64 (i : Int))).setCell ⟨g, 2, none⟩ (.bool true)) (· = g) := (((Upd.refl w3 (· = g)).drew).setCell (p := ⟨g, 1, none⟩) (.inl rfl) _).setCell (p := ⟨g, 2, none⟩) (.inl rfl) _
        have hB4 : Blk ((w3.drew.setCell ⟨g, 1, none⟩ (.int .i64 (i : Int))).setCell ⟨g, 2, none⟩ (.bool true)) g 144 #[.slice A3 B.length c3, .int .i64 (i : Int), .bool true] := (HK.out.1.drew.set_ 1 (.int .i64 (i : Int))).set_ 2 (.bool true)
        rw [HS.out]
        exact ⟨rfl, ⟨i, HK.out.2.1.turn (j := i) (bl' := true) hu4 hB4 HL.out.1 HK.out.2.2.1 HK.out.2.2.2.1 HK.out.2.2.2.2.1, HL.out.2.1⟩, HK.out.2.2.2.2.2.trans hu4⟩
      · have hs : sText (xs, false) = (strOfNums ((xs.drop 4).take n), ((xs.drop 4).drop n, false)) := by
          rw [sText_ok (by
            have := HL.out.2.2.2.1; have := HL.out.2.2.2.2.1
            unfold textAt; rw [HL.out.2.2.1]; simp; omega), HL.out.2.2.1]
        have HS := Lib.hid hs
        have HT2 := Lib.hid (rftake_ok (HK.out.2.1.below (below_drew (Below.refl _ _) : Below w3.heap.size w3 w3.drew)) n (by omega))
        have d1 : decide ((m : Int) < (n : Int)) = false := decide_eq_false (by omega)
        have d2 : decide (m < n) = false := decide_eq_false hfit
        clear hs hbig hfit hmq
        go_upto_region 6 with fail
        refine wp_region_held (S := (fun W => W.cell? ⟨g, 0, none⟩ = some (.slice A3 B.length c3) ∧ W.cell? ⟨g, 1, none⟩ = some (.int .i64 ((i : Int) + 4)))) (by kernel_rfl) ?_
        simp only [List.size_toArray, List.length_cons, List.length_nil, Nat.zero_add, Nat.reduceAdd]
        have hHeld : ((fun W => W.cell? ⟨g, 0, none⟩ = some (.slice A3 B.length c3) ∧ W.cell? ⟨g, 1, none⟩ = some (.int .i64 ((i : Int) + 4)))) w3.drew := ⟨k0, k1⟩
        refine tk_ 0 hHeld ?_
        refine tk_ 1 hHeld ?_
        refine tk_ 2 hHeld ?_
        refine tk_ 3 hHeld ?_
        refine tk_ 4 hHeld ?_
        refine tk_ 5 hHeld ?_
        refine tk_ 6 hHeld ?_
        refine tk_ 7 hHeld ?_
        refine tk_ 8 hHeld ?_
        refine tk_ 9 hHeld ?_
        refine tk_ 10 hHeld ?_
        refine tk_ 11 hHeld ?_
        refine tk_ 12 hHeld ?_
        refine tk_ 13 hHeld ?_
        refine tk_ 14 hHeld ?_
        refine tk_ 15 hHeld ?_
        refine tk_ 16 hHeld ?_
        refine wpAnyH_done (by kernel_rfl) ?_ _
        clear hHeld e1 k0 k1 k2 z1 z2
        go_wp2_with fail
        refine HT2.out.mono ?_
        rintro e w4 ⟨A4, c4, rfl, hc4, hF4, hE4, hu4⟩
        have hst := Kd.C_string (P := Tryz.prog) (src := 23) (dst := 9) (c := c4) Tryz.underlying23 Tryz.underlying5 Tryz.underlying9 (Kd.F_now hF4)
        have HE4 := Lib.hid (And.intro hE4 hu4)
        clear hF4 hE4 hu4 HT2
        have hdd : (B.drop (i + 4)).take n = (xs.drop 4).take n := by rw [HL.out.2.1, List.drop_drop]
        rw [hdd] at hst
        go_wp2_with fail
        go_ret
        rw [HS.out]
        exact ⟨rfl, ⟨i + 4 + n, HE4.out.1, by show (xs.drop 4).drop n = B.drop (i + 4 + n); rw [HL.out.2.1, List.drop_drop, List.drop_drop]; congr 1; omega⟩, HK.out.2.2.2.2.2.trans ((Upd.of_below (below_drew (Below.refl w3.heap.size w3)) (· = g)).trans HE4.out.2)⟩
end
end Go.Proofs.YtgmlenpcchhmbaaGreat.P
end
section
set_option linter.unusedVariables false
set_option linter.unusedSimpArgs false
namespace Go.Proofs.YtgmlenpcchhmbaaGreat.P
open Go.RowKit Go.Proofs.YtgmlenpcchhmbaaGreatW.PrintWords Go.Proofs.YtgmlenpcchhmbaaGreatW.PrintLast Go.Proofs.YtgmlenpcchhmbaaGreatW.PrintMore
theorem C_blkI {W : World} {b : Nat} {t : TypeId} (xs : List Int) (h : Blk W b t (xs.map (Value.int .i64)).toArray) (hm : xs.length ≤ 1000) : Kd.C (Kd.int .i64) W (some ⟨b, 0, none⟩) xs.length xs := by
  refine ⟨rfl, by omega, fun _ => ⟨_, rfl, fun j p hj => ⟨[.int .i64 p], rfl, rfl, fun i u hu => ?_⟩⟩⟩
  rcases i with _ | i
  · simp only [List.getElem?_cons_zero, Option.some.injEq] at hu
    subst hu
    have := h.cell j
    rw [show (⟨b, 0, none⟩ : Addr).add (j * (Kd.int .i64).sz + 0) = ⟨b, j, none⟩ by rw [show (Kd.int .i64).sz = 1 from rfl, Nat.mul_one, Nat.add_zero, add_plain]]
    rw [this]
    simp [hj]
  · simp at hu
theorem C_blkS {W : World} {b : Nat} {t : TypeId} (xs : List ByteArray) (h : Blk W b t (xs.map Value.string).toArray) (hm : xs.length ≤ 1000) : Kd.C Kd.string W (some ⟨b, 0, none⟩) xs.length xs := by
  refine ⟨rfl, by omega, fun _ => ⟨_, rfl, fun j p hj => ⟨[.string p], rfl, rfl, fun i u hu => ?_⟩⟩⟩
  rcases i with _ | i
  · simp only [List.getElem?_cons_zero, Option.some.injEq] at hu
    subst hu
    have := h.cell j
    rw [show (⟨b, 0, none⟩ : Addr).add (j * Kd.string.sz + 0) = ⟨b, j, none⟩ by rw [show Kd.string.sz = 1 from rfl, Nat.mul_one, Nat.add_zero, add_plain]]
    rw [this]
    simp [hj]
  · simp at hu
theorem RowB.lower {w : World} {b b' : Nat} {v : Value} {xs : List Int} (h : RowB w b v xs) (hb : b' ≤ b) : RowB w b' v xs :=
  ⟨h.1, h.2.imp id fun ⟨g, cap, cur, h1, h2, h3⟩ => ⟨g, cap, cur, h1, Nat.le_trans hb h2, h3⟩⟩
theorem C_atO {w : World} {A : Option Addr} {n : Nat} {xs : List S63} (h : Kd.C k63 w A n xs) (k : Nat) (hk : k < xs.length) : ∃ ad, A = some ad ∧ w.cell? (ad.add (k * 4)) = some (.int .i64 xs[k].f0) ∧ w.cell? ⟨(ad.add (k * 4)).block, (ad.add (k * 4)).off + 1, none⟩ = some (.string xs[k].f1) ∧ w.cell? ⟨(ad.add (k * 4)).block, (ad.add (k * 4)).off + 2, none⟩ = some (.string xs[k].f2) ∧ w.cell? ⟨(ad.add (k * 4)).block, (ad.add (k * 4)).off + 3, none⟩ = some (.int .u64 xs[k].f3) := by
  obtain ⟨ad, hA, x0, x1, x2, x3⟩ := at_T63 h (k : Int) (by omega) (by have := h.1; omega)
  have er : rd_T63 xs (k : Int) = xs[k] := by
    unfold rd_T63
    rw [Int.toNat_natCast, List.getD_eq_getElem?_getD, List.getElem?_eq_getElem hk]
    rfl
  rw [er, Int.toNat_natCast] at x0 x1 x2 x3
  exact ⟨ad, hA, x0, x1, x2, x3⟩
end Go.Proofs.YtgmlenpcchhmbaaGreat.P
end
section
set_option linter.unusedVariables false
set_option linter.unusedSimpArgs false
namespace Go.Proofs.YtgmlenpcchhmbaaGreat.P
open Go.RowKit Go.Shelf Go.Proofs.YtgmlenpcchhmbaaGreatW.PrintWords Go.Proofs.YtgmlenpcchhmbaaGreatW.PrintLast Go.Proofs.YtgmlenpcchhmbaaGreatW.PrintMore
def laidO (o : S63) : List Int := laidI o.f0 ++ laidTs [o.f1, o.f2] ++ laidI (wrap64 o.f3)
def laidOs (l : List S63) : List Int := (l.map laidO).flatten
theorem laidO_len (o : S63) : (laidO o).length ≤ 2097200 := by
  have := laidTs_len [o.f1, o.f2] 2
  unfold laidO
  rw [List.length_append, List.length_append, laidI_len, laidI_len]
  simp only [List.take_succ_cons, List.take_zero, List.length_cons, List.length_nil] at this
  omega
theorem laidOs_len (l : List S63) : (laidOs l).length ≤ 2097200 * l.length := by
  induction l with
  | nil => simp [laidOs]
  | cons x l ih => unfold laidOs at ih ⊢; rw [List.map_cons, List.flatten_cons, List.length_append, List.length_cons]; have := laidO_len x; omega
theorem laidOs_snoc (l : List S63) {k : Nat} (hk : k < l.length) : laidOs (l.take (k + 1)) = laidOs (l.take k) ++ laidO l[k] := by
  unfold laidOs
  rw [List.take_succ_eq_append_getElem hk, List.map_append, List.flatten_append]; simp
def laidOps (l : List S63) : List Int := laidI (l.length : Int) ++ laidOs l
set_option maxHeartbeats 2000000 in
set_option maxRecDepth 100000 in
theorem txput_any (A : Option Addr) (c : Nat) (ds : List S63) (w : World) (hr : Kd.C k63 w A ds.length ds) (hn : ds.length ≤ 1000) (hs : ∀ o ∈ ds, o.f1.size ≤ 140737488355328 ∧ o.f2.size ≤ 140737488355328) :
    Calls Tryz.prog 22 #[.slice A ds.length c] w fun e w' => ∃ v, e = .returned v ∧ RowB w' w.heap.size v (laidOps ds) ∧ Below w.heap.size w w' := by
  obtain ⟨w1, hw1⟩ : ∃ w1, w.alloc (.cells #[.slice none 0 0] 95) = w1 := ⟨_, rfl⟩
  have hb1 : Below w.heap.size w w1 := hw1 ▸ (Below.refl _ _).alloc (Nat.le_refl _) _
  have hP1 : PenIs w1 w.heap.size w.heap.size [] := hw1 ▸ PenIs.new w
  have hs1 : w.heap.size < w1.heap.size := hP1.lt
  obtain ⟨w2, hw2⟩ : ∃ w2, w1.alloc (.cells #[.int .i64 (ds.length : Int)] 2) = w2 := ⟨_, rfl⟩
  have hb2 : Below w1.heap.size w1 w2 := hw2 ▸ (Below.refl _ _).alloc (Nat.le_refl _) _
  have hlit : Blk w2 w1.heap.size 2 #[.int .i64 (ds.length : Int)] := hw2 ▸ Blk.new w1 2 _
  have hin := pnInt_any (some ⟨w1.heap.size, 0, none⟩) 1 [(ds.length : Int)] w2 (hP1.below hb2) (fun W hW => C_blkI [(ds.length : Int)] (hW.k _ _ _ (by decide) (by decide) hlit) (by simp)) (by simp)
  have HIN := Lib.hid hin
  have HX := Lib.hid (And.intro (hb1.trans (hb2.mono (Nat.le_of_lt hs1))) (And.intro hr (And.intro hs hs1)))
  clear hin hlit hb1 hb2 hP1 hs1 hr hs
  go_enter Tryz.func22, Tryz.ntmps22
  go_wp2_with fail
  refine HIN.out.mono ?_
  rintro e w3 ⟨rfl, hP3, hB3⟩
  have HN := Lib.hid (And.intro hP3 hB3)
  clear hP3 hB3
  go_wp2
  go_loopw [5, 15] (fun _ kv wr => ∃ k : Nat, kv = .int .i64 (k : Int) ∧ k ≤ ds.length ∧ RowKit.Hid (PenIs wr w.heap.size w.heap.size (laidI (ds.length : Int) ++ laidOs (ds.take k)) ∧ Below w.heap.size w wr)) (fun _ k _ => ds.length - (intOf k).toNat)
  case atStart => exact ⟨0, rfl, Nat.zero_le _, Lib.hid ⟨by simpa [laidOs, laidIs] using HN.out.1, HX.out.1.trans HN.out.2.b⟩⟩
  case round =>
    obtain ⟨k, rfl, hk, HP⟩ := hrel
    by_cases hlt : k < ds.length
    · obtain ⟨ad, hA, d0, d1, d2, d3⟩ := C_atO (Kd.C_below HX.out.2.1 HP.out.2) k hlt
      subst hA
      have hsn := laidOs_snoc ds hlt
      have hss := HX.out.2.2.1 ds[k] (List.getElem_mem hlt)
      have hlX : (laidI (ds.length : Int) ++ laidOs (ds.take k)).length ≤ 8 + 2097200 * 1000 := by
        rw [List.length_append, laidI_len]; have := laidOs_len (ds.take k); rw [List.length_take] at this; omega
      generalize ds[k] = x at *
      obtain ⟨x0, x1, x2, x3⟩ := x
      simp only at hss d0 d1 d2 d3
      obtain ⟨wb, hwb⟩ : ∃ wb, wr.alloc (.cells #[.int .i64 x0, .string x1, .string x2, .int .u64 x3] 63) = wb := ⟨_, rfl⟩
      have hBb : Below wr.heap.size wr wb := hwb ▸ (Below.refl _ _).alloc (Nat.le_refl _) _
      have hT : Blk wb wr.heap.size 63 #[.int .i64 x0, .string x1, .string x2, .int .u64 x3] := hwb ▸ Blk.new wr 63 _
      obtain ⟨wc, hwc⟩ : ∃ wc, wb.alloc (.cells #[.int .i64 x0] 2) = wc := ⟨_, rfl⟩
      have hBc : Below wb.heap.size wb wc := hwc ▸ (Below.refl _ _).alloc (Nat.le_refl _) _
      have hlit : Blk wc wb.heap.size 2 #[.int .i64 x0] := hwc ▸ Blk.new wb 2 _
      have hTc := hT.below hBc hT.lt
      have hbc : Below wr.heap.size wr wc := hBb.trans (hBc.mono hBb.size)
      have hge : w.heap.size ≤ wr.heap.size := HP.out.2.size
      have hin := pnInt_any (some ⟨wb.heap.size, 0, none⟩) 1 [x0] wc (HP.out.1.below hbc) (fun W hW => C_blkI [x0] (hW.k _ _ _ (by decide) (by decide) hlit) (by simp)) (by simp only [List.length_cons, List.length_nil]; omega)
      have hc00 : wb.cell? ⟨wr.heap.size, 0, none⟩ = some (.int .i64 x0) := hT.cell 0
      have HIN := Lib.hid hin
      have HD := Lib.hid (And.intro hsn (And.intro hss (And.intro hTc (And.intro (KB.of_below hbc hge) hlX))))
      clear hin hsn hss hT hTc hBb hBc hbc hlit hge hlX
      go_wp2_with fail
      refine HIN.out.mono ?_
      rintro e w5 ⟨rfl, hP5, hB5⟩
      have hT5 := hB5.k _ _ _ (by decide) (by decide) HD.out.2.2.1
      have hc51 : w5.cell? ⟨wr.heap.size, 1, none⟩ = some (.string x1) := hT5.cell 1
      have hc52 : w5.cell? ⟨wr.heap.size, 2, none⟩ = some (.string x2) := hT5.cell 2
      have hk5 : KB w.heap.size wr w5 := HD.out.2.2.2.1.trans hB5
      have hge5 : w.heap.size ≤ w5.heap.size := Nat.le_trans HP.out.2.size hk5.b.size
      obtain ⟨wd, hwd⟩ : ∃ wd, w5.alloc (.cells #[.string x1, .string x2] 9) = wd := ⟨_, rfl⟩
      have hBd : Below w5.heap.size w5 wd := hwd ▸ (Below.refl _ _).alloc (Nat.le_refl _) _
      have hlit : Blk wd w5.heap.size 9 #[.string x1, .string x2] := hwd ▸ Blk.new w5 9 _
      have hst := pnText_any (some ⟨w5.heap.size, 0, none⟩) 2 [x1, x2] wd (hP5.below hBd) (fun W hW => C_blkS [x1, x2] (hW.k _ _ _ (by decide) (by decide) hlit) (by simp)) (fun s hs => by simp only [List.mem_cons, List.not_mem_nil, or_false] at hs; rcases hs with rfl | rfl; exact HD.out.2.1.1; exact HD.out.2.1.2) (by have := HD.out.2.2.2.2; simp only [laidIs, List.map_cons, List.map_nil, List.flatten_cons, List.flatten_nil, List.append_nil, List.length_append, laidI_len, List.length_cons, List.length_nil] at *; omega)
      have HST := Lib.hid (And.intro hst (And.intro (hk5.trans (KB.of_below hBd hge5)) (hT5.below hBd hT5.lt)))
      clear hst hP5 hB5 hT5 hBd hlit hk5 hge5 hc00
      go_wp2_with fail
      refine HST.out.1.mono ?_
      rintro e w6 ⟨rfl, hP6, hB6⟩
      have hT6 := hB6.k _ _ _ (by decide) (by decide) HST.out.2.2
      have hc63 : w6.cell? ⟨wr.heap.size, 3, none⟩ = some (.int .u64 x3) := hT6.cell 3
      have hk6 : KB w.heap.size wr w6 := HST.out.2.1.trans hB6
      have hge6 : w.heap.size ≤ w6.heap.size := Nat.le_trans HP.out.2.size hk6.b.size
      obtain ⟨we, hwe⟩ : ∃ we, w6.alloc (.cells #[.int .i64 (wrap64 x3)] 2) = we := ⟨_, rfl⟩
      have hBe : Below w6.heap.size w6 we := hwe ▸ (Below.refl _ _).alloc (Nat.le_refl _) _
      have hlit : Blk we w6.heap.size 2 #[.int .i64 (wrap64 x3)] := hwe ▸ Blk.new w6 2 _
      have hin := pnInt_any (some ⟨w6.heap.size, 0, none⟩) 1 [wrap64 x3] we (hP6.below hBe) (fun W hW => C_blkI [wrap64 x3] (hW.k _ _ _ (by decide) (by decide) hlit) (by simp)) (by have := HD.out.2.2.2.2; have := laidTs_len [x1, x2] 2; simp only [List.take_succ_cons, List.take_zero, laidIs, List.map_cons, List.map_nil, List.flatten_cons, List.flatten_nil, List.append_nil, List.length_append, laidI_len, List.length_cons, List.length_nil] at *; omega)
      have HIN := Lib.hid (And.intro hin (hk6.trans (KB.of_below hBe hge6)))
      clear hin hP6 hB6 hT6 hBe hlit hk6 hge6 hc51 hc52
      go_wp2_with fail
      refine HIN.out.1.mono ?_
      rintro e w7 ⟨rfl, hP7, hB7⟩
      have HN7 := Lib.hid (And.intro hP7 (HP.out.2.trans (HIN.out.2.trans hB7).b))
      clear hP7 hB7
      go_wp2_with fail
      go_roundw
      case rel => exact ⟨k + 1, by go_num, by omega, Lib.hid ⟨by rw [HD.out.1]; simpa [laidIs, laidO, List.append_assoc] using HN7.out.1, HN7.out.2⟩⟩
      case measure => simp [intOf]; omega
    · obtain rfl : k = ds.length := by omega
      have hP := HP.out
      rw [List.take_length] at hP
      have hle := laidOs_len ds
      obtain ⟨Z, hZ⟩ : ∃ Z, laidOps ds = Z := ⟨_, rfl⟩
      rw [show laidI (ds.length : Int) ++ laidOs ds = Z from hZ] at hP
      have hbt := pnBytes_any wr hP.1 (by rw [← hZ]; unfold laidOps; rw [List.length_append, laidI_len]; omega)
      have HZ := Lib.hid hZ
      clear hZ hle
      have HBT := Lib.hid (And.intro hbt hP)
      clear hbt hP
      go_wp2_with fail
      refine HBT.out.1.mono ?_
      rintro e w4 ⟨v4, rfl, ho4, hb4⟩
      have HO := Lib.hid (And.intro ho4 hb4)
      obtain ⟨A5, c5, rfl⟩ := own_slice ho4
      clear ho4 hb4
      go_wp2
      go_ret
      exact ⟨_, rfl, by rw [HZ.out]; exact RowB.lower HO.out.1 HBT.out.2.2.size, HBT.out.2.2.trans (HO.out.2.mono HBT.out.2.2.size)⟩
def putOk (d : List S63) : Prop := d.length ≤ 1000 ∧ ∀ o ∈ d, o.f1.size ≤ 140737488355328 ∧ o.f2.size ≤ 140737488355328
instance (d : List S63) : Decidable (putOk d) := inferInstanceAs (Decidable (_ ∧ _))
def txn_Put.f (d : List S63) : Option (List Int) := if putOk d then some (laidOps d) else none
theorem txn_Put.calls (A0 : Option Addr) (c0 : Nat) (l0 : List S63) (r : List Int) (w : World) (hr0 : Kd.C k63 w A0 l0.length l0) (_hc0 : l0.length ≤ c0) (h : txn_Put.f l0 = some r) :
    Calls Tryz.prog 22 #[.slice A0 l0.length c0] w fun e w' => ∃ v0_ : Value, e = .returned (v0_) ∧ Kd.R (Kd.int .u8) 5 w' w.heap.size (fun _ => True) v0_ r ∧ Below w.heap.size w w' := by
  unfold txn_Put.f at h
  split at h
  · rename_i hc
    injection h with h
    subst h
    exact (txput_any A0 c0 l0 w hr0 hc.1 hc.2).mono fun e w' ⟨v, he, ho, hb⟩ => ⟨v, he, Kd.R_of_own ho (fun _ _ => trivial), hb⟩
  · cases h
end Go.Proofs.YtgmlenpcchhmbaaGreat.P
end
section
set_option linter.unusedVariables false
set_option linter.unusedSimpArgs false
namespace Go.Proofs.YtgmlenpcchhmbaaGreat.P
def klt (a b : ByteArray) : Bool := Op.bytesLess a.data.toList b.data.toList
theorem ba_ext {a b : ByteArray} (h : a.data.toList = b.data.toList) : a = b := by
  cases a; cases b
  simp only at h
  rw [Array.toList_inj.1 h]
theorem klt_irrefl (a : ByteArray) : klt a a = false := bl_irrefl _
theorem klt_trans {a b c : ByteArray} (h : klt a b = true) (g : klt b c = true) : klt a c = true := bl_trans h g
theorem klt_ne {a b : ByteArray} (h : klt a b = true) : a ≠ b := fun e => by rw [e, klt_irrefl] at h; cases h
theorem klt_eq {a b : ByteArray} (h : klt a b = false) (g : klt b a = false) : a = b := ba_ext (bl_eq h g)
theorem klt_tri (a b : ByteArray) : klt a b = true ∨ a = b ∨ klt b a = true := by
  cases h : klt a b with
  | true => exact .inl rfl
  | false => cases g : klt b a with
    | true => exact .inr (.inr rfl)
    | false => exact .inr (.inl (klt_eq h g))
section
variable {V : Type}
def SortK (l : List (ByteArray × V)) : Prop := l.Pairwise fun x y => klt x.1 y.1 = true
def getL (l : List (ByteArray × V)) (k : ByteArray) : Option V := (l.find? fun x => decide (x.1 = k)).map (·.2)
def putL : List (ByteArray × V) → ByteArray → V → List (ByteArray × V)
  | [], k, v => [(k, v)]
  | x :: r, k, v => if klt x.1 k then x :: putL r k v else if x.1 = k then (k, v) :: r else (k, v) :: x :: r
def delL (l : List (ByteArray × V)) (k : ByteArray) : List (ByteArray × V) := l.filter fun x => decide (x.1 ≠ k)
theorem getL_nil (k : ByteArray) : getL ([] : List (ByteArray × V)) k = none := rfl
theorem getL_cons (x : ByteArray × V) (l : List (ByteArray × V)) (k : ByteArray) : getL (x :: l) k = if x.1 = k then some x.2 else getL l k := by
  unfold getL
  rw [List.find?_cons]
  by_cases h : x.1 = k
  · simp [h]
  · simp [h]
theorem getL_put (l : List (ByteArray × V)) (k : ByteArray) (v : V) (x : ByteArray) : getL (putL l k v) x = if x = k then some v else getL l x := by
  induction l with
  | nil =>
    rw [putL, getL_cons]
    by_cases h : x = k
    · rw [if_pos h, if_pos h.symm]
    · rw [if_neg h, if_neg (Ne.symm h)]
  | cons y r ih =>
    rw [putL]
    by_cases h1 : klt y.1 k = true
    · rw [if_pos h1, getL_cons, ih, getL_cons]
      have := klt_ne h1
      by_cases h2 : x = k
      · rw [h2, if_pos rfl, if_neg this, if_pos rfl]
      · rw [if_neg h2, if_neg h2]
    · rw [if_neg h1]
      by_cases h3 : y.1 = k
      · rw [if_pos h3, getL_cons, getL_cons, h3]
        by_cases h2 : x = k
        · rw [if_pos h2, if_pos h2.symm]
        · rw [if_neg h2, if_neg (Ne.symm h2), if_neg (Ne.symm h2)]
      · rw [if_neg h3, getL_cons]
        by_cases h2 : x = k
        · rw [if_pos h2, if_pos h2.symm]
        · rw [if_neg h2, if_neg (Ne.symm h2)]
theorem getL_del (l : List (ByteArray × V)) (k : ByteArray) (x : ByteArray) : getL (delL l k) x = if x = k then none else getL l x := by
  induction l with
  | nil => simp [delL, getL_nil]
  | cons y r ih =>
    unfold delL at ih ⊢
    rw [List.filter_cons]
    by_cases h1 : y.1 = k
    · rw [if_neg (by simp [h1]), ih, getL_cons]
      by_cases h2 : x = k
      · rw [if_pos h2, if_pos h2]
      · rw [if_neg h2, if_neg h2, if_neg (by rw [h1]; exact Ne.symm h2)]
    · rw [if_pos (by simp [h1]), getL_cons, ih, getL_cons]
      by_cases h2 : x = k
      · rw [if_pos h2, if_pos h2, if_neg (by rw [h2]; exact h1)]
      · rw [if_neg h2, if_neg h2]
theorem SortK.tail {x : ByteArray × V} {l : List (ByteArray × V)} (h : SortK (x :: l)) : SortK l := (List.pairwise_cons.1 h).2
theorem SortK.head {x : ByteArray × V} {l : List (ByteArray × V)} (h : SortK (x :: l)) : ∀ y ∈ l, klt x.1 y.1 = true := (List.pairwise_cons.1 h).1
theorem SortK.nil : SortK ([] : List (ByteArray × V)) := List.Pairwise.nil
theorem mem_putL {l : List (ByteArray × V)} {k : ByteArray} {v : V} {y : ByteArray × V} (h : y ∈ putL l k v) : y = (k, v) ∨ y ∈ l := by
  induction l with
  | nil => rw [putL] at h; exact .inl (List.mem_singleton.1 h)
  | cons x r ih =>
    rw [putL] at h
    split at h
    · rcases List.mem_cons.1 h with h | h
      · exact .inr (h ▸ List.mem_cons_self ..)
      · exact (ih h).imp id (List.mem_cons_of_mem _)
    · split at h
      · rcases List.mem_cons.1 h with h | h
        · exact .inl h
        · exact .inr (List.mem_cons_of_mem _ h)
      · rcases List.mem_cons.1 h with h | h
        · exact .inl h
        · exact .inr h
theorem SortK.put {l : List (ByteArray × V)} (h : SortK l) (k : ByteArray) (v : V) : SortK (putL l k v) := by
  induction l with
  | nil => rw [putL]; exact List.pairwise_singleton _ _
  | cons x r ih =>
    rw [putL]
    split
    · rename_i h1
      refine List.pairwise_cons.2 ⟨fun y hy => ?_, ih h.tail⟩
      rcases mem_putL hy with rfl | hy
      · exact h1
      · exact h.head y hy
    · rename_i h1
      split
      · rename_i h2
        exact List.pairwise_cons.2 ⟨fun y hy => by rw [← h2]; exact h.head y hy, h.tail⟩
      · rename_i h2
        have h3 : klt k x.1 = true := by
          rcases klt_tri x.1 k with g | g | g
          · exact absurd g h1
          · exact absurd g h2
          · exact g
        refine List.pairwise_cons.2 ⟨fun y hy => ?_, h⟩
        rcases List.mem_cons.1 hy with rfl | hy
        · exact h3
        · exact klt_trans h3 (h.head y hy)
theorem SortK.del {l : List (ByteArray × V)} (h : SortK l) (k : ByteArray) : SortK (delL l k) := h.filter _
theorem getL_none {l : List (ByteArray × V)} {k : ByteArray} : getL l k = none ↔ ∀ y ∈ l, y.1 ≠ k := by
  unfold getL
  simp
theorem getL_some {l : List (ByteArray × V)} (h : SortK l) {k : ByteArray} {v : V} : getL l k = some v ↔ (k, v) ∈ l := by
  induction l with
  | nil => simp [getL_nil]
  | cons x r ih =>
    rw [getL_cons]
    by_cases e : x.1 = k
    · rw [if_pos e]
      constructor
      · intro h1; injection h1 with h1; subst h1; subst e; exact List.mem_cons_self ..
      · intro h1
        rcases List.mem_cons.1 h1 with h2 | h2
        · rw [← h2]
        · exact absurd e (klt_ne (h.head _ h2))
    · rw [if_neg e, ih h.tail]
      constructor
      · exact List.mem_cons_of_mem _
      · intro h1
        rcases List.mem_cons.1 h1 with h2 | h2
        · exact absurd (by rw [← h2]) e
        · exact h2
theorem putL_len {l : List (ByteArray × V)} (h : SortK l) (k : ByteArray) (v : V) : (putL l k v).length = if (getL l k).isSome then l.length else l.length + 1 := by
  induction l with
  | nil => rfl
  | cons x r ih =>
    rw [putL, getL_cons]
    by_cases h1 : klt x.1 k = true
    · rw [if_pos h1, if_neg (klt_ne h1), List.length_cons, ih h.tail, List.length_cons]
      split <;> rfl
    · rw [if_neg h1]
      by_cases h2 : x.1 = k
      · rw [if_pos h2, if_pos h2]; rfl
      · rw [if_neg h2, if_neg h2]
        have : getL r k = none := getL_none.2 fun y hy e => by
          have := h.head y hy
          rw [e] at this
          exact h1 this
        rw [this]; rfl
theorem delL_len {l : List (ByteArray × V)} (h : SortK l) (k : ByteArray) : (delL l k).length = if (getL l k).isSome then l.length - 1 else l.length := by
  induction l with
  | nil => rfl
  | cons x r ih =>
    unfold delL at ih ⊢
    rw [List.filter_cons, getL_cons]
    by_cases h2 : x.1 = k
    · rw [if_neg (by simp [h2]), if_pos h2]
      have : r.filter (fun y => decide (y.1 ≠ k)) = r := List.filter_eq_self.2 fun y hy => by
        have := klt_ne (h.head y hy)
        rw [h2] at this
        simpa using this.symm
      rw [this]; rfl
    · rw [if_pos (by simp [h2]), if_neg h2, List.length_cons, ih h.tail]
      cases hg : getL r k with
      | none => rfl
      | some v =>
        have : r ≠ [] := by rintro rfl; cases hg
        have := List.length_pos_iff.2 this
        simp; omega
end
end Go.Proofs.YtgmlenpcchhmbaaGreat.P
end
section
set_option linter.unusedVariables false
set_option linter.unusedSimpArgs false
namespace Go.Proofs.YtgmlenpcchhmbaaGreat.P
abbrev quietN : Int := 9221120237041090561
def nanN (n : Int) : Bool := (Ieee.double.read n.toNat).isNaN
def rightN (n : Int) : Int := if nanN n = true then quietN else n
def addR : Option Nat → Int
  | some r => rightN r
  | none => quietN
def addN (a b : Int) : Int := addR (Ieee.double.add (rightN a).toNat (rightN b).toNat)
def negN (a : Int) : Int := rightN (bits .xor .u64 a 9223372036854775808)
def geN (a b : Int) : Bool := Ieee.double.order (rightN a).toNat (rightN b).toNat == some .gt || Ieee.double.order (rightN a).toNat (rightN b).toNat == some .eq
def ofN (n : Int) : Int := rightN (floatOfInt .f64 n : Nat)
def numOk (n : Int) : Bool := decide (rightN n = n)
theorem compare_self (x : Int) : compare x x = .eq := by simp [compare, compareOfLessAndEq]
theorem order_self (x : Nat) : (Ieee.double.order x x == some .eq) = !(Ieee.double.read x).isNaN := by
  unfold Ieee.Format.order
  cases Ieee.double.read x with
  | number s m i => simp [Ieee.Datum.order, Ieee.Datum.isNaN, compare_self]
  | infinity s => cases s <;> rfl
  | nan s f => rfl
theorem order_ne (x : Nat) : (Ieee.double.order x x != some .eq) = (Ieee.double.read x).isNaN := by
  have := order_self x
  unfold bne
  rw [this]; simp
theorem nan_cut (x y t : Nat) : nanN ((Question.nanBits .f64 x y).cut t : Nat) = true := by
  unfold nanN Question.cut
  rw [Int.toNat_natCast]
  simp only
  have h2 := Nat.mod_lt (t / 2) (show 0 < 2 ^ 52 - 1 by decide)
  generalize (t / 2) % (2 ^ 52 - 1) = m at h2
  have h3 : t % 2 = 0 ∨ t % 2 = 1 := Nat.mod_two_eq_zero_or_one t
  have e1 : Ieee.double.signWeight = 9223372036854775808 := by decide
  have e2 : Ieee.double.binade = 4503599627370496 := by decide
  have e3 : Ieee.double.infRung = 9218868437227405312 := by decide
  have e4 : (2 : Nat) ^ 52 - 1 = 4503599627370495 := by decide
  have e5 : (2 : Nat) ^ 63 = 9223372036854775808 := by decide
  rw [e4] at h2
  have hr : ((t % 2) * 2 ^ 63 + 0x7ff0000000000000 + 1 + m) % Ieee.double.signWeight = 9218868437227405313 + m := by rw [e1, e5]; omega
  unfold Ieee.Format.read
  simp only [hr, e2, e3]
  rw [if_neg (by omega), if_neg (by omega), if_neg (by omega)]
  rfl
theorem right_cut (x y t : Nat) : rightN ((Question.nanBits .f64 x y).cut t : Nat) = quietN := by unfold rightN; rw [nan_cut]; rfl
end Go.Proofs.YtgmlenpcchhmbaaGreat.P
end
section
set_option linter.unusedVariables false
set_option linter.unusedSimpArgs false
namespace Go.Proofs.YtgmlenpcchhmbaaGreat.P
def toA (p : S61) : ByteArray × Int := (p.f0, p.f1)
def ofA (x : ByteArray × Int) : S61 := ⟨x.1, x.2⟩
structure St where
  d : List (ByteArray × Int)
  c : List (ByteArray × Bool)
def St.ok (s : St) : Prop := SortK s.d ∧ SortK s.c ∧ (∀ x ∈ s.c, x.2 = true)
def emptyB : ByteArray := ⟨#[]⟩
def hasS (s : S71) (k : ByteArray) : Bool := !klt k s.f0 && (decide (s.f1 = emptyB) || klt k s.f1)
def hasSs (l : List S71) (k : ByteArray) : Bool := l.any fun s => hasS s k
def pickT (l : List S71) (d : List S61) : List S61 := d.filter fun p => hasSs l p.f0
def St.put (s : St) (k : ByteArray) (n : Int) : St := ⟨putL s.d k n, putL s.c k true⟩
def St.drop (s : St) (k : ByteArray) : St := ⟨delL s.d k, putL s.c k true⟩
def St.at (s : St) (k : ByteArray) : Int := (getL s.d k).getD 0
def St.has (s : St) (k : ByteArray) : Bool := (getL s.d k).isSome
def stepA (o : S63) (s : St) : S65 :=
  if o.f0 = 1 then ⟨s.has o.f1, s.at o.f1, []⟩
  else if o.f0 = 2 then ⟨true, 0, pickT [⟨o.f1, o.f2⟩] (s.d.map ofA)⟩
  else if o.f0 = 3 then ⟨true, 0, []⟩
  else if o.f0 = 4 then ⟨s.has o.f1, addN (s.at o.f1) o.f3, []⟩
  else if o.f0 = 5 then ⟨s.has o.f1, 0, []⟩
  else if o.f0 = 6 then (if (geN (s.at o.f1) o.f3 && geN o.f3 0) = true then ⟨true, 0, []⟩ else ⟨false, 0, []⟩)
  else ⟨false, 0, []⟩
def stepS (o : S63) (s : St) : St :=
  if o.f0 = 3 then s.put o.f1 o.f3
  else if o.f0 = 4 then s.put o.f1 (addN (s.at o.f1) o.f3)
  else if o.f0 = 5 then s.drop o.f1
  else if o.f0 = 6 then (if (geN (s.at o.f1) o.f3 && geN o.f3 0) = true then (s.put o.f1 (addN (s.at o.f1) (negN o.f3))).put o.f2 (addN ((s.put o.f1 (addN (s.at o.f1) (negN o.f3))).at o.f2) o.f3) else s)
  else s
def runA : List S63 → St → List S65
  | [], _ => []
  | o :: l, s => stepA o s :: runA l (stepS o s)
def runS : List S63 → St → St
  | [], s => s
  | o :: l, s => runS l (stepS o s)
def writesT (s : St) : List S69 := s.c.map fun x => ⟨x.1, (getL s.d x.1).getD 0, (getL s.d x.1).isNone⟩
def mapT (data : List S61) : List (ByteArray × Int) := data.foldl (fun l p => putL l p.f0 p.f1) []
def startT (data : List S61) : St := ⟨mapT data, []⟩
theorem foldl_sort : ∀ (data : List S61) (l : List (ByteArray × Int)), SortK l → SortK (data.foldl (fun l p => putL l p.f0 p.f1) l)
  | [], _, h => h
  | p :: r, _, h => foldl_sort r _ (h.put _ _)
theorem mapT_sort (data : List S61) : SortK (mapT data) := foldl_sort data _ .nil
theorem St.ok_put {s : St} (h : s.ok) (k : ByteArray) (n : Int) : (s.put k n).ok := ⟨h.1.put _ _, h.2.1.put _ _, fun x hx => by
  rcases mem_putL hx with rfl | hx
  · rfl
  · exact h.2.2 x hx⟩
theorem St.ok_drop {s : St} (h : s.ok) (k : ByteArray) : (s.drop k).ok := ⟨h.1.del _, h.2.1.put _ _, fun x hx => by
  rcases mem_putL hx with rfl | hx
  · rfl
  · exact h.2.2 x hx⟩
theorem start_ok (data : List S61) : (startT data).ok := ⟨mapT_sort data, .nil, fun x hx => by cases hx⟩
theorem runA_snoc : ∀ (l : List S63) (o : S63) (s : St), runA (l ++ [o]) s = runA l s ++ [stepA o (runS l s)]
  | [], _, _ => rfl
  | p :: l, o, s => by show stepA p s :: runA (l ++ [o]) _ = _; rw [runA_snoc l o]; rfl
theorem runS_snoc : ∀ (l : List S63) (o : S63) (s : St), runS (l ++ [o]) s = stepS o (runS l s)
  | [], _, _ => rfl
  | p :: l, o, s => by show runS (l ++ [o]) _ = _; rw [runS_snoc l o]; rfl
theorem runA_len : ∀ (l : List S63) (s : St), (runA l s).length = l.length
  | [], _ => rfl
  | o :: l, s => by show (runA l _).length + 1 = _; rw [runA_len l]; rfl
end Go.Proofs.YtgmlenpcchhmbaaGreat.P
end
section
set_option linter.unusedVariables false
set_option linter.unusedSimpArgs false
namespace Go.Proofs.YtgmlenpcchhmbaaGreat.P
open Go.RowKit Go.Proofs.YtgmlenpcchhmbaaGreatW.PrintWords Go.Proofs.YtgmlenpcchhmbaaGreatW.PrintLast Go.Proofs.YtgmlenpcchhmbaaGreatW.PrintMore
attribute [local go_sem] max2_int min2_int max_two min_two max_three min_three max_four min_four   -- for this text's walks alone
def span_Key.f (a0 : ByteArray) : Option (Int) := if a0.toList = ([] : List UInt8) then (some 30) else (if (a0.size : Int) > 16 then (some 30) else (some 0))
set_option maxHeartbeats 8000000 in
set_option maxRecDepth 100000 in
theorem span_Key.calls (a0 : ByteArray) (r : Int) (w : World) (h : span_Key.f a0 = some r) :
  Calls Tryz.prog 103 #[.string a0] w fun e w' => e = .returned (.int .i64 r) ∧ Drawn0 w w' := by
 have H : (if a0.toList = ([] : List UInt8) then (some 30) else (if (a0.size : Int) > 16 then (some 30) else (some 0))) = some r := h
 clear h
 by_cases c2 : a0.toList = ([] : List UInt8)
 ·rw [if_pos c2] at H
  have c2b0 : (a0.toList == ([] : List UInt8)) = true := beq_iff_eq.mpr c2
  have c2b1 : (a0.toList != ([] : List UInt8)) = false := bne_eq_false_iff_eq.mpr c2
  clear c2
  obtain rfl := Option.some.inj H
  go_enter Tryz.func103, Tryz.ntmps103
  go_wp2
  go_ret
  exact ⟨by first | rfl | (simp; done) | (simp [*]; done), by repeat (first | exact Drawn0.refl _ | apply Drawn0.step)⟩
 ·rw [if_neg c2] at H
  have c2b0 : (a0.toList == ([] : List UInt8)) = false := beq_eq_false_iff_ne.mpr c2
  have c2b1 : (a0.toList != ([] : List UInt8)) = true := bne_iff_ne.mpr c2
  by_cases c3 : (a0.size : Int) > 16
  ·rw [if_pos c3] at H
   have c3b0 : decide (16 < (a0.size : Int)) = true := decide_eq_true c3
   have c3b1 : decide (16 < a0.size) = true := decide_eq_true (by omega)
   clear c3
   obtain rfl := Option.some.inj H
   go_enter Tryz.func103, Tryz.ntmps103
   go_wp2
   go_ret
   exact ⟨by first | rfl | (simp; done) | (simp [*]; done), by repeat (first | exact Drawn0.refl _ | apply Drawn0.step)⟩
  ·rw [if_neg c3] at H
   have c3b0 : decide (16 < (a0.size : Int)) = false := decide_eq_false c3
   have c3b1 : decide (16 < a0.size) = false := decide_eq_false (by omega)
   clear c3
   obtain rfl := Option.some.inj H
   go_enter Tryz.func103, Tryz.ntmps103
   go_wp2
   go_ret
   exact ⟨by first | rfl | (simp; done) | (simp [*]; done), by repeat (first | exact Drawn0.refl _ | apply Drawn0.step)⟩
end Go.Proofs.YtgmlenpcchhmbaaGreat.P
end
section
set_option linter.unusedVariables false
set_option linter.unusedSimpArgs false
namespace Go.Proofs.YtgmlenpcchhmbaaGreat.P
open Go.RowKit Go.Proofs.YtgmlenpcchhmbaaGreatW.PrintWords Go.Proofs.YtgmlenpcchhmbaaGreatW.PrintLast Go.Proofs.YtgmlenpcchhmbaaGreatW.PrintMore
theorem ffb_run (n : Int) (w : World) : (callFunc 119 #[.int .u64 n]).run Tryz.prog w = .ok (.value (.float .f64 n.toNat)) w := by kernel_rfl
theorem fb_run (n : Nat) (w : World) : (callFunc 85 #[.float .f64 n]).run Tryz.prog w = .ok (.value (.int .u64 (n : Int))) w := by kernel_rfl
theorem isNaN_any (n : Nat) (w : World) : Calls Tryz.prog 159 #[.float .f64 n] w fun e w' => e = .returned (.bool (Ieee.double.read n).isNaN) ∧ w' = w := by
  go_enter Tryz.func159, Tryz.ntmps159
  go_wp2
  go_ret
  exact ⟨by rw [← order_ne]; rfl, rfl⟩
set_option maxRecDepth 100000 in
theorem nRight_any (n : Int) (w : World) : Calls Tryz.prog 142 #[.int .u64 n] w fun e w' => e = .returned (.int .u64 (rightN n)) ∧ w' = w := by
  have hf := ffb_run n
  have hn := fun w => isNaN_any n.toNat w
  unfold rightN nanN
  cases hb : (Ieee.double.read n.toNat).isNaN with
  | true =>
    rw [hb] at hn
    clear hb
    go_enter Tryz.func142, Tryz.ntmps142
    go_wp2_with (go_at_call 159; refine (hn _).mono ?_; rintro e w' ⟨rfl, rfl⟩)
    go_ret
    exact ⟨rfl, rfl⟩
  | false =>
    rw [hb] at hn
    clear hb
    go_enter Tryz.func142, Tryz.ntmps142
    go_wp2_with (go_at_call 159; refine (hn _).mono ?_; rintro e w' ⟨rfl, rfl⟩)
    go_ret
    exact ⟨rfl, rfl⟩
set_option maxRecDepth 100000 in
theorem nFloat_any (n : Int) (w : World) : Calls Tryz.prog 161 #[.int .u64 n] w fun e w' => e = .returned (.float .f64 (rightN n).toNat) ∧ w' = w := by
  have hn := fun w => nRight_any n w
  have hf := ffb_run (rightN n)
  generalize rightN n = m at *
  go_enter Tryz.func161, Tryz.ntmps161
  go_wp2_with (go_at_call 142; refine (hn _).mono ?_; rintro e w' ⟨rfl, rfl⟩)
  go_ret
  exact ⟨rfl, rfl⟩
set_option maxRecDepth 100000 in
theorem nCovers_any (a b : Int) (w : World) : Calls Tryz.prog 146 #[.int .u64 a, .int .u64 b] w fun e w' => e = .returned (.bool (geN a b)) ∧ w' = w := by
  have hn := fun n w => nFloat_any n w
  unfold geN
  go_enter Tryz.func146, Tryz.ntmps146
  go_wp2_with (go_at_call 161; refine (hn _ _).mono ?_; rintro e w' ⟨rfl, rfl⟩)
  go_ret
  exact ⟨rfl, rfl⟩
set_option maxRecDepth 100000 in
theorem nCheck_any (n : Int) (w : World) : Calls Tryz.prog 104 #[.int .u64 n] w fun e w' => e = .returned (.int .i64 (if numOk n = true then 0 else 70)) ∧ w' = w := by
  have hn := fun w => nRight_any n w
  unfold numOk
  by_cases h : rightN n = n
  · have d : (rightN n == n) = true := by simp [h]
    have d' : (rightN n != n) = false := by simp [h]
    rw [if_pos (by simpa using h)]
    clear h
    generalize rightN n = m at *
    go_enter Tryz.func104, Tryz.ntmps104
    go_wp2_with (go_at_call 142; refine (hn _).mono ?_; rintro e w' ⟨rfl, rfl⟩)
    go_ret
    exact ⟨rfl, rfl⟩
  · have d : (rightN n == n) = false := by simp [h]
    have d' : (rightN n != n) = true := by simp [h]
    rw [if_neg (by simpa using h)]
    clear h
    generalize rightN n = m at *
    go_enter Tryz.func104, Tryz.ntmps104
    go_wp2_with (go_at_call 142; refine (hn _).mono ?_; rintro e w' ⟨rfl, rfl⟩)
    go_ret
    exact ⟨rfl, rfl⟩
theorem add_run (x y : Nat) (w : World) : ∃ r : Nat, ∃ n, (binOp .add 129 (.float .f64 x) (.float .f64 y)).run Tryz.prog w = .ok (.float .f64 r) (w.drewN n) ∧ rightN r = addR (Ieee.double.add x y) := by
  cases h : Ieee.double.add x y with
  | some r => exact ⟨r, 0, run_float_arith w .add 129 .f64 x y r h, rfl⟩
  | none =>
    refine ⟨(Question.nanBits .f64 x y).cut (w.tape w.drawn (Question.nanBits .f64 x y)), 1, ?_, right_cut _ _ _⟩
    have h' : FloatKind.format .f64 = Ieee.double := rfl
    simp [binOp, Op.floatArith, h', h, Question.forced]
    rfl
set_option maxRecDepth 100000 in
theorem nAdd_any (a b : Int) (w : World) : Calls Tryz.prog 145 #[.int .u64 a, .int .u64 b] w fun e w' => e = .returned (.int .u64 (addN a b)) ∧ Drawn0 w w' := by
  have hn := fun n w => nFloat_any n w
  unfold addN
  obtain ⟨r, n, hr, he⟩ := add_run (rightN a).toNat (rightN b).toNat w
  rw [← he]
  clear he
  have hr' := fun w => nRight_any (r : Int) w
  have hb := fb_run r
  generalize rightN (r : Int) = m at *
  go_enter Tryz.func145, Tryz.ntmps145
  go_wp2_with (first | (go_at_call 161; refine (hn _ _).mono ?_; rintro e w' ⟨rfl, rfl⟩) | (go_at_call 142; refine (hr' _).mono ?_; rintro e w' ⟨rfl, rfl⟩))
  go_ret
  exact ⟨rfl, n, rfl⟩
set_option maxRecDepth 100000 in
theorem nNeg_any (a : Int) (w : World) : Calls Tryz.prog 148 #[.int .u64 a] w fun e w' => e = .returned (.int .u64 (negN a)) ∧ w' = w := by
  have hr' := fun w => nRight_any (bits .xor .u64 a 9223372036854775808) w
  unfold negN
  go_enter Tryz.func148, Tryz.ntmps148
  go_wp2_with (first | (go_at_call 142; refine (hr' _).mono ?_; rintro e w' ⟨rfl, rfl⟩))
  go_ret
  exact ⟨rfl, rfl⟩
set_option maxRecDepth 100000 in
theorem nOf_any (a : Int) (w : World) : Calls Tryz.prog 147 #[.int .i64 a] w fun e w' => e = .returned (.int .u64 (ofN a)) ∧ w' = w := by
  have hr' := fun w => nRight_any (floatOfInt .f64 a : Nat) w
  have hb := fb_run (floatOfInt .f64 a)
  unfold ofN
  have hc : ∀ w, (convert 2 129 (.int .i64 a)).run Tryz.prog w = .ok (.float .f64 (floatOfInt .f64 a)) w := fun w => run_convert_int_float w _ _ .i64 .f64 a (by kernel_rfl) (by kernel_rfl)
  generalize floatOfInt .f64 a = q at *
  go_enter Tryz.func147, Tryz.ntmps147
  go_wp2_with (first | (go_at_call 142; refine (hr' _).mono ?_; rintro e w' ⟨rfl, rfl⟩))
  go_ret
  exact ⟨rfl, rfl⟩
end Go.Proofs.YtgmlenpcchhmbaaGreat.P
end
section
set_option linter.unusedVariables false
set_option linter.unusedSimpArgs false
namespace Go.Proofs.YtgmlenpcchhmbaaGreat.P
open Go.RowKit Go.Proofs.YtgmlenpcchhmbaaGreatW.PrintWords Go.Proofs.YtgmlenpcchhmbaaGreatW.PrintLast Go.Proofs.YtgmlenpcchhmbaaGreatW.PrintMore
def num_Check.f (a0 : Int) : Option Int := some (if numOk a0 = true then 0 else 70)
theorem num_Check.calls (a0 : Int) (r : Int) (w : World) (h : num_Check.f a0 = some r) : Calls Tryz.prog 104 #[.int .u64 a0] w fun e w' => e = .returned (.int .i64 r) ∧ Drawn0 w w' := by
  injection h with h
  subst h
  exact (nCheck_any a0 w).mono fun e w' ⟨he, hw⟩ => ⟨he, hw ▸ Drawn0.refl _⟩
end Go.Proofs.YtgmlenpcchhmbaaGreat.P
end
section
set_option linter.unusedVariables false
set_option linter.unusedSimpArgs false
namespace Go.Proofs.YtgmlenpcchhmbaaGreat.P
open Go.RowKit Go.Proofs.YtgmlenpcchhmbaaGreatW.PrintWords Go.Proofs.YtgmlenpcchhmbaaGreatW.PrintLast Go.Proofs.YtgmlenpcchhmbaaGreatW.PrintMore
attribute [local go_sem] max2_int min2_int max_two min_two max_three min_three max_four min_four   -- for this text's walks alone
mutual
def txn_is.j0 : Nat → Bool → Int → ByteArray → ByteArray → Int → Option (Bool)
 | 0, _, _, _, _, _ => none
 | k + 1, x12, x102000, x102001, x102002, x102003 => if x12 = true then (some false) else (if x102000 = 1 then (txn_is.j1 k x102000 (x102000 == 1) x102000 x102001 x102002 x102003) else (txn_is.j1 k x102000 (x102000 == 5) x102000 x102001 x102002 x102003))
def txn_is.j1 : Nat → Int → Bool → Int → ByteArray → ByteArray → Int → Option (Bool)
 | 0, _, _, _, _, _, _ => none
 | k + 1, x14, x15, x102000, x102001, x102002, x102003 => if x15 = true then (if x102002.toList = ([] : List UInt8) then (some (x102003 == 0)) else (some false)) else (if x14 = 3 then (txn_is.j2 k x14 (x14 == 3) x102000 x102001 x102002 x102003) else (txn_is.j2 k x14 (x14 == 4) x102000 x102001 x102002 x102003))
def txn_is.j2 : Nat → Int → Bool → Int → ByteArray → ByteArray → Int → Option (Bool)
 | 0, _, _, _, _, _, _ => none
 | k + 1, x14, x26, x102000, x102001, x102002, x102003 => if x26 = true then (some (x102002.toList == ([] : List UInt8))) else (if x14 = 2 then (if x102003 = 0 then (if x102002.toList = ([] : List UInt8) then (some true) else ((span_Key.f x102002).bind fun t104 => (if t104 = 0 then (some (Op.bytesLess x102001.toList x102002.toList)) else (some false)))) else (some false)) else (if x14 = 6 then ((span_Key.f x102002).bind fun t105 => (if t105 = 0 then (some (x102002.toList != x102001.toList)) else (some false))) else (some false)))
end
def txn_is.f (k : Nat) (a0_0 : Int) (a0_1 : ByteArray) (a0_2 : ByteArray) (a0_3 : Int) : Option (Bool) := (span_Key.f a0_1).bind fun t102 => (if t102 = 0 then ((num_Check.f a0_3).bind fun t103 => (txn_is.j0 k (t103 != 0) a0_0 a0_1 a0_2 a0_3)) else (txn_is.j0 k true a0_0 a0_1 a0_2 a0_3))
set_option maxHeartbeats 8000000 in
set_option maxRecDepth 100000 in
theorem txn_is.calls (k : Nat) (a0_0 : Int) (a0_1 : ByteArray) (a0_2 : ByteArray) (a0_3 : Int) (r : Bool) (w : World) (h : txn_is.f k a0_0 a0_1 a0_2 a0_3 = some r) :
  Calls Tryz.prog 58 #[.agg #[.int .i64 a0_0, .string a0_1, .string a0_2, .int .u64 a0_3]] w fun e w' => e = .returned (.bool r) ∧ Below w.heap.size w w' := by
 have hu63 := Tryz.underlying63
 have HB := Aside0.mk (Below.refl w.heap.size w)
 have H : ((span_Key.f a0_1).bind fun t102 => (if t102 = 0 then ((num_Check.f a0_3).bind fun t103 => (txn_is.j0 k (t103 != 0) a0_0 a0_1 a0_2 a0_3)) else (txn_is.j0 k true a0_0 a0_1 a0_2 a0_3))) = some r := h
 clear h
 have HC2 := Aside0.mk H
 clear H
 go_enter Tryz.func58, Tryz.ntmps58
 go_upto_region 1 with (first | ((with_reducible refine gate_dst (N := 1) rfl ?_); refine box_event ?hg (N := 1) ?hd (cs := #[.int .i64 a0_0, .string a0_1, .string a0_2, .int .u64 a0_3]) (t := 63) ?hr ?_; (case hd => rfl); (case hg => rfl); (case hr => first | (go_simp; done) | (go_simp; rfl)); intro gb101 hg w3 hbox hb; have n0_ := Aside0.mk (below_step bB_ hb); have n1_ := Aside0.mk (hbox); have n2_ := Aside0.mk ((by rw [hg]; exact (below_size bB_) : w.heap.size ≤ gb101)); have n3_ := Aside0.mk ((by rw [hg]; exact (below_size bB_) : w.heap.size ≤ gb101)); clear HB; have HB := n0_; have BK101 := n1_; have GW101 := n2_; have GE101 := n3_; clear n0_ n1_ n2_ n3_; clear hb hbox hg))
 (try simp only [Act.put, List.setIfInBounds_toArray, List.set_cons_zero, List.set_cons_succ])
 go_cut [12] (fun v12 wc => ∃ (kq : Nat) (x12_1 : Bool), v12 = .bool x12_1 ∧ Aside0 (txn_is.j0 kq x12_1 a0_0 a0_1 a0_2 a0_3 = some r) ∧ Aside0 (kq ≤ k) ∧ Aside0 (wc.heap[gb101]? = some (.cells #[.int .i64 a0_0, .string a0_1, .string a0_2, .int .u64 a0_3] 63 (0, 0))) ∧ Aside0 (Below w.heap.size w wc))
 case first =>
  have H := HC2.out
  clear HC2
  replace H := Option.bind_eq_some_iff.mp H
  obtain ⟨t102, A40, H⟩ := H
  replace H : (if t102 = 0 then ((num_Check.f a0_3).bind fun t103 => (txn_is.j0 k (t103 != 0) a0_0 a0_1 a0_2 a0_3)) else (txn_is.j0 k true a0_0 a0_1 a0_2 a0_3)) = some r := H
  have A4 := Aside0.mk A40
  clear A40
  by_cases c5 : t102 = 0
  ·rw [if_pos c5] at H
   have c5b0 : (t102 == 0) = true := beq_iff_eq.mpr c5
   have c5b1 : (t102 != 0) = false := bne_eq_false_iff_eq.mpr c5
   clear c5
   (first | rw [c5b0] | (simp only [i64_w, i32_w]; rw [c5b0]) | skip)
   replace H := Option.bind_eq_some_iff.mp H
   obtain ⟨t103, A60, H⟩ := H
   replace H : (txn_is.j0 k (t103 != 0) a0_0 a0_1 a0_2 a0_3) = some r := H
   have A6 := Aside0.mk A60
   clear A60
   have H' := Aside0.mk H
   clear H
   have hcz7_0 : w3.cell? ⟨gb101, 0, none⟩ = some (.int .i64 a0_0) := (blk_cell BK101.out 0).trans rfl
   have hcz7_1 : w3.cell? ⟨gb101, 1, none⟩ = some (.string a0_1) := (blk_cell BK101.out 1).trans rfl
   have hcz7_2 : w3.cell? ⟨gb101, 2, none⟩ = some (.string a0_2) := (blk_cell BK101.out 2).trans rfl
   have hcz7_3 : w3.cell? ⟨gb101, 3, none⟩ = some (.int .u64 a0_3) := (blk_cell BK101.out 3).trans rfl
   have hfz7_0 := blk_frozen BK101.out 0
   have hfz7_1 := blk_frozen BK101.out 1
   have hfz7_2 := blk_frozen BK101.out 2
   have hfz7_3 := blk_frozen BK101.out 3
   go_wp2_with (first | ((with_reducible refine gate_callee (f := 103) rfl ?_); refine goesL_ (some 5) rfl rfl Tryz.func103 (by kernel_rfl) rfl #[.string a0_1] rfl (by (try simp only [List.map_toArray, List.map_cons, List.map_nil]); first | done | rfl | (simp only [List.length_drop, List.length_take]; rfl)) ?_; (with_reducible refine (span_Key.calls a0_1 t102 _ A4.out).mono ?_); rintro e w' ⟨rfl, ⟨nd, rfl⟩⟩; refine ⟨_, rfl, ?_⟩) | (go_at_call 104; (with_reducible refine (num_Check.calls a0_3 t103 _ A6.out).mono ?_); rintro e w' ⟨rfl, ⟨nd, rfl⟩⟩))
   first
   | (go_meet; case rel => exact ⟨_, ((t103 != 0)), (by first | rfl | (rw [bl_gt] <;> rfl) | (simp; done) | (simp [*]; done)), H', ⟨by first | omega | exact Nat.le_refl _⟩, ⟨by (with_reducible repeat (first | refine blk_drewN ?_ _ | refine blk_drew ?_ | refine blk_alloc ?_ _)); exact BK101.out⟩, ⟨by repeat (first | (with_reducible first | exact HB.out | apply below_alloc | apply pw_below_drewN | apply below_drew1 | refine below_set ?_ GE101.out) | exact HB.out)⟩⟩)
   | (refine Met.intro ?_; go_step; (repeat apply Exists.intro); refine ⟨?_, ?_⟩; rotate_left; (focus (simp only [c5b0]; try rfl)); exact ⟨_, ((t103 != 0)), (by first | rfl | (rw [bl_gt] <;> rfl) | (simp; done) | (simp [*]; done)), H', ⟨by first | omega | exact Nat.le_refl _⟩, ⟨by (with_reducible repeat (first | refine blk_drewN ?_ _ | refine blk_drew ?_ | refine blk_alloc ?_ _)); exact BK101.out⟩, ⟨by repeat (first | (with_reducible first | exact HB.out | apply below_alloc | apply pw_below_drewN | apply below_drew1 | refine below_set ?_ GE101.out) | exact HB.out)⟩⟩)
  ·rw [if_neg c5] at H
   have c5b0 : (t102 == 0) = false := beq_eq_false_iff_ne.mpr c5
   have c5b1 : (t102 != 0) = true := bne_iff_ne.mpr c5
   (first | rw [c5b0] | (simp only [i64_w, i32_w]; rw [c5b0]) | skip)
   have H' := Aside0.mk H
   clear H
   have hcz8_0 : w3.cell? ⟨gb101, 0, none⟩ = some (.int .i64 a0_0) := (blk_cell BK101.out 0).trans rfl
   have hcz8_1 : w3.cell? ⟨gb101, 1, none⟩ = some (.string a0_1) := (blk_cell BK101.out 1).trans rfl
   have hcz8_2 : w3.cell? ⟨gb101, 2, none⟩ = some (.string a0_2) := (blk_cell BK101.out 2).trans rfl
   have hcz8_3 : w3.cell? ⟨gb101, 3, none⟩ = some (.int .u64 a0_3) := (blk_cell BK101.out 3).trans rfl
   have hfz8_0 := blk_frozen BK101.out 0
   have hfz8_1 := blk_frozen BK101.out 1
   have hfz8_2 := blk_frozen BK101.out 2
   have hfz8_3 := blk_frozen BK101.out 3
   go_wp2_with (first | ((with_reducible refine gate_callee (f := 103) rfl ?_); refine goesL_ (some 5) rfl rfl Tryz.func103 (by kernel_rfl) rfl #[.string a0_1] rfl (by (try simp only [List.map_toArray, List.map_cons, List.map_nil]); first | done | rfl | (simp only [List.length_drop, List.length_take]; rfl)) ?_; (with_reducible refine (span_Key.calls a0_1 t102 _ A4.out).mono ?_); rintro e w' ⟨rfl, ⟨nd, rfl⟩⟩; refine ⟨_, rfl, ?_⟩))
   first
   | (go_meet; case rel => exact ⟨_, (true), (by first | rfl | (rw [bl_gt] <;> rfl) | (simp; done) | (simp [*]; done)), H', ⟨by first | omega | exact Nat.le_refl _⟩, ⟨by (with_reducible repeat (first | refine blk_drewN ?_ _ | refine blk_drew ?_ | refine blk_alloc ?_ _)); exact BK101.out⟩, ⟨by repeat (first | (with_reducible first | exact HB.out | apply below_alloc | apply pw_below_drewN | apply below_drew1 | refine below_set ?_ GE101.out) | exact HB.out)⟩⟩)
   | (refine Met.intro ?_; go_step; (repeat apply Exists.intro); refine ⟨?_, ?_⟩; rotate_left; (focus (simp only [c5b0]; try rfl)); exact ⟨_, (true), (by first | rfl | (rw [bl_gt] <;> rfl) | (simp; done) | (simp [*]; done)), H', ⟨by first | omega | exact Nat.le_refl _⟩, ⟨by (with_reducible repeat (first | refine blk_drewN ?_ _ | refine blk_drew ?_ | refine blk_alloc ?_ _)); exact BK101.out⟩, ⟨by repeat (first | (with_reducible first | exact HB.out | apply below_alloc | apply pw_below_drewN | apply below_drew1 | refine below_set ?_ GE101.out) | exact HB.out)⟩⟩)
 case rest =>
  clear HC2
  try clear c1
  try clear p2
  try clear c5
  try clear c5b0
  try clear c5b1
  try clear hcz7_0
  try clear hcz7_1
  try clear hcz7_2
  try clear hcz7_3
  try clear hcz8_0
  try clear hcz8_1
  try clear hcz8_2
  try clear hcz8_3
  try clear hfz7_0
  try clear hfz7_1
  try clear hfz7_2
  try clear hfz7_3
  try clear hfz8_0
  try clear hfz8_1
  try clear hfz8_2
  try clear hfz8_3
  obtain ⟨kq, x12_1, rfl, HA, HJ1, BK101, HB⟩ := hcut
  cases kq with
  | zero => exact absurd HA.out (by simp [txn_is.j0])
  | succ kj1 =>
   have H := HA.out
   clear HA
   simp only [txn_is.j0] at H
   by_cases c9 : x12_1 = true
   ·subst c9
    have H1 : (some false) = some r := by rw [if_pos rfl] at H; exact H
    clear H
    have H := H1
    clear H1
    obtain rfl := Option.some.inj H
    go_wp2
    go_ret
    exact ⟨by first | rfl | (rw [bl_gt] <;> rfl) | (simp [errW_none, errW_some] <;> rfl) | (simp [*, errW_none, errW_some] <;> rfl), by repeat (first | (with_reducible first | exact HB.out | apply below_alloc | apply pw_below_drewN | apply below_drew1 | refine below_set ?_ GE101.out) | exact HB.out)⟩
   ·replace c9 := Bool.eq_false_iff.mpr c9
    subst c9
    have H1 : (if a0_0 = 1 then (txn_is.j1 kj1 a0_0 (a0_0 == 1) a0_0 a0_1 a0_2 a0_3) else (txn_is.j1 kj1 a0_0 (a0_0 == 5) a0_0 a0_1 a0_2 a0_3)) = some r := by rw [if_neg (show ¬ (false = true) by decide)] at H; exact H
    clear H
    have H := H1
    clear H1
    have HC10 := Aside0.mk H
    clear H
    have hcz11_0 : wc.cell? ⟨gb101, 0, none⟩ = some (.int .i64 a0_0) := (blk_cell BK101.out 0).trans rfl
    have hcz11_1 : wc.cell? ⟨gb101, 1, none⟩ = some (.string a0_1) := (blk_cell BK101.out 1).trans rfl
    have hcz11_2 : wc.cell? ⟨gb101, 2, none⟩ = some (.string a0_2) := (blk_cell BK101.out 2).trans rfl
    have hcz11_3 : wc.cell? ⟨gb101, 3, none⟩ = some (.int .u64 a0_3) := (blk_cell BK101.out 3).trans rfl
    have hfz11_0 := blk_frozen BK101.out 0
    have hfz11_1 := blk_frozen BK101.out 1
    have hfz11_2 := blk_frozen BK101.out 2
    have hfz11_3 := blk_frozen BK101.out 3
    go_upto_if 15 with (fail)
    go_cut [15] (fun v15 wc => ∃ (kq : Nat) (x15_9 : Bool), v15 = .bool x15_9 ∧ Aside0 (txn_is.j1 kq a0_0 x15_9 a0_0 a0_1 a0_2 a0_3 = some r) ∧ Aside0 (kq ≤ kj1) ∧ Aside0 (wc.heap[gb101]? = some (.cells #[.int .i64 a0_0, .string a0_1, .string a0_2, .int .u64 a0_3] 63 (0, 0))) ∧ Aside0 (Below w.heap.size w wc))
    case first =>
     have H := HC10.out
     clear HC10
     by_cases c12 : a0_0 = 1
     ·rw [if_pos c12] at H
      have c12b0 : (a0_0 == 1) = true := beq_iff_eq.mpr c12
      have c12b1 : (a0_0 != 1) = false := bne_eq_false_iff_eq.mpr c12
      clear c12
      (first | rw [c12b0] | (simp only [i64_w, i32_w]; rw [c12b0]) | skip)
      have H' := Aside0.mk H
      clear H
      go_wp2
      first
      | (go_meet; case rel => exact ⟨_, ((a0_0 == 1)), (by first | rfl | (rw [bl_gt] <;> rfl) | (simp; done) | (simp [*]; done)), H', ⟨by have := HJ1.out; first | omega | exact Nat.le_refl _⟩, ⟨by (with_reducible repeat (first | refine blk_drewN ?_ _ | refine blk_drew ?_ | refine blk_alloc ?_ _)); exact BK101.out⟩, ⟨by repeat (first | (with_reducible first | exact HB.out | apply below_alloc | apply pw_below_drewN | apply below_drew1 | refine below_set ?_ GE101.out) | exact HB.out)⟩⟩)
      | (refine Met.intro ?_; go_step; (repeat apply Exists.intro); refine ⟨?_, ?_⟩; rotate_left; (focus (simp only [c12b0]; try rfl)); exact ⟨_, ((a0_0 == 1)), (by first | rfl | (rw [bl_gt] <;> rfl) | (simp; done) | (simp [*]; done)), H', ⟨by have := HJ1.out; first | omega | exact Nat.le_refl _⟩, ⟨by (with_reducible repeat (first | refine blk_drewN ?_ _ | refine blk_drew ?_ | refine blk_alloc ?_ _)); exact BK101.out⟩, ⟨by repeat (first | (with_reducible first | exact HB.out | apply below_alloc | apply pw_below_drewN | apply below_drew1 | refine below_set ?_ GE101.out) | exact HB.out)⟩⟩)
     ·rw [if_neg c12] at H
      have c12b0 : (a0_0 == 1) = false := beq_eq_false_iff_ne.mpr c12
      have c12b1 : (a0_0 != 1) = true := bne_iff_ne.mpr c12
      (first | rw [c12b0] | (simp only [i64_w, i32_w]; rw [c12b0]) | skip)
      have H' := Aside0.mk H
      clear H
      go_wp2
      first
      | (go_meet; case rel => exact ⟨_, ((a0_0 == 5)), (by first | rfl | (rw [bl_gt] <;> rfl) | (simp; done) | (simp [*]; done)), H', ⟨by have := HJ1.out; first | omega | exact Nat.le_refl _⟩, ⟨by (with_reducible repeat (first | refine blk_drewN ?_ _ | refine blk_drew ?_ | refine blk_alloc ?_ _)); exact BK101.out⟩, ⟨by repeat (first | (with_reducible first | exact HB.out | apply below_alloc | apply pw_below_drewN | apply below_drew1 | refine below_set ?_ GE101.out) | exact HB.out)⟩⟩)
      | (refine Met.intro ?_; go_step; (repeat apply Exists.intro); refine ⟨?_, ?_⟩; rotate_left; (focus (simp only [c12b0]; try rfl)); exact ⟨_, ((a0_0 == 5)), (by first | rfl | (rw [bl_gt] <;> rfl) | (simp; done) | (simp [*]; done)), H', ⟨by have := HJ1.out; first | omega | exact Nat.le_refl _⟩, ⟨by (with_reducible repeat (first | refine blk_drewN ?_ _ | refine blk_drew ?_ | refine blk_alloc ?_ _)); exact BK101.out⟩, ⟨by repeat (first | (with_reducible first | exact HB.out | apply below_alloc | apply pw_below_drewN | apply below_drew1 | refine below_set ?_ GE101.out) | exact HB.out)⟩⟩)
    case rest =>
     clear HC10
     try clear c1
     try clear p2
     try clear c5
     try clear c5b0
     try clear c5b1
     try clear c9
     try clear c10
     try clear c12
     try clear c12b0
     try clear c12b1
     try clear hcz11_0
     try clear hcz11_1
     try clear hcz11_2
     try clear hcz11_3
     try clear hcz7_0
     try clear hcz7_1
     try clear hcz7_2
     try clear hcz7_3
     try clear hcz8_0
     try clear hcz8_1
     try clear hcz8_2
     try clear hcz8_3
     try clear hfz11_0
     try clear hfz11_1
     try clear hfz11_2
     try clear hfz11_3
     try clear hfz7_0
     try clear hfz7_1
     try clear hfz7_2
     try clear hfz7_3
     try clear hfz8_0
     try clear hfz8_1
     try clear hfz8_2
     try clear hfz8_3
     try clear p2
     obtain ⟨kq, x15_9, rfl, HA, HJ9, BK101, HB⟩ := hcut
     cases kq with
     | zero => exact absurd HA.out (by simp [txn_is.j1])
     | succ kj9 =>
      have H := HA.out
      clear HA
      simp only [txn_is.j1] at H
      by_cases c13 : x15_9 = true
      ·subst c13
       have H1 : (if a0_2.toList = ([] : List UInt8) then (some (a0_3 == 0)) else (some false)) = some r := by rw [if_pos rfl] at H; exact H
       clear H
       have H := H1
       clear H1
       by_cases c14 : a0_2.toList = ([] : List UInt8)
       ·rw [if_pos c14] at H
        have c14b0 : (a0_2.toList == ([] : List UInt8)) = true := beq_iff_eq.mpr c14
        have c14b1 : (a0_2.toList != ([] : List UInt8)) = false := bne_eq_false_iff_eq.mpr c14
        clear c14
        obtain rfl := Option.some.inj H
        have hcz15_0 : wc.cell? ⟨gb101, 0, none⟩ = some (.int .i64 a0_0) := (blk_cell BK101.out 0).trans rfl
        have hcz15_1 : wc.cell? ⟨gb101, 1, none⟩ = some (.string a0_1) := (blk_cell BK101.out 1).trans rfl
        have hcz15_2 : wc.cell? ⟨gb101, 2, none⟩ = some (.string a0_2) := (blk_cell BK101.out 2).trans rfl
        have hcz15_3 : wc.cell? ⟨gb101, 3, none⟩ = some (.int .u64 a0_3) := (blk_cell BK101.out 3).trans rfl
        have hfz15_0 := blk_frozen BK101.out 0
        have hfz15_1 := blk_frozen BK101.out 1
        have hfz15_2 := blk_frozen BK101.out 2
        have hfz15_3 := blk_frozen BK101.out 3
        go_wp2
        go_ret
        exact ⟨by first | rfl | (rw [bl_gt] <;> rfl) | (simp [errW_none, errW_some] <;> rfl) | (simp [*, errW_none, errW_some] <;> rfl), by repeat (first | (with_reducible first | exact HB.out | apply below_alloc | apply pw_below_drewN | apply below_drew1 | refine below_set ?_ GE101.out) | exact HB.out)⟩
       ·rw [if_neg c14] at H
        have c14b0 : (a0_2.toList == ([] : List UInt8)) = false := beq_eq_false_iff_ne.mpr c14
        have c14b1 : (a0_2.toList != ([] : List UInt8)) = true := bne_iff_ne.mpr c14
        obtain rfl := Option.some.inj H
        have hcz16_0 : wc.cell? ⟨gb101, 0, none⟩ = some (.int .i64 a0_0) := (blk_cell BK101.out 0).trans rfl
        have hcz16_1 : wc.cell? ⟨gb101, 1, none⟩ = some (.string a0_1) := (blk_cell BK101.out 1).trans rfl
        have hcz16_2 : wc.cell? ⟨gb101, 2, none⟩ = some (.string a0_2) := (blk_cell BK101.out 2).trans rfl
        have hcz16_3 : wc.cell? ⟨gb101, 3, none⟩ = some (.int .u64 a0_3) := (blk_cell BK101.out 3).trans rfl
        have hfz16_0 := blk_frozen BK101.out 0
        have hfz16_1 := blk_frozen BK101.out 1
        have hfz16_2 := blk_frozen BK101.out 2
        have hfz16_3 := blk_frozen BK101.out 3
        go_wp2
        go_ret
        exact ⟨by first | rfl | (rw [bl_gt] <;> rfl) | (simp [errW_none, errW_some] <;> rfl) | (simp [*, errW_none, errW_some] <;> rfl), by repeat (first | (with_reducible first | exact HB.out | apply below_alloc | apply pw_below_drewN | apply below_drew1 | refine below_set ?_ GE101.out) | exact HB.out)⟩
      ·replace c13 := Bool.eq_false_iff.mpr c13
       subst c13
       have H1 : (if a0_0 = 3 then (txn_is.j2 kj9 a0_0 (a0_0 == 3) a0_0 a0_1 a0_2 a0_3) else (txn_is.j2 kj9 a0_0 (a0_0 == 4) a0_0 a0_1 a0_2 a0_3)) = some r := by rw [if_neg (show ¬ (false = true) by decide)] at H; exact H
       clear H
       have H := H1
       clear H1
       have HC17 := Aside0.mk H
       clear H
       go_upto_if 26 with (fail)
       go_cut [26] (fun v26 wc => ∃ (kq : Nat) (x26_16 : Bool), v26 = .bool x26_16 ∧ Aside0 (txn_is.j2 kq a0_0 x26_16 a0_0 a0_1 a0_2 a0_3 = some r) ∧ Aside0 (kq ≤ kj9) ∧ Aside0 (wc.heap[gb101]? = some (.cells #[.int .i64 a0_0, .string a0_1, .string a0_2, .int .u64 a0_3] 63 (0, 0))) ∧ Aside0 (Below w.heap.size w wc))
       case first =>
        have H := HC17.out
        clear HC17
        by_cases c18 : a0_0 = 3
        ·rw [if_pos c18] at H
         have c18b0 : (a0_0 == 3) = true := beq_iff_eq.mpr c18
         have c18b1 : (a0_0 != 3) = false := bne_eq_false_iff_eq.mpr c18
         clear c18
         (first | rw [c18b0] | (simp only [i64_w, i32_w]; rw [c18b0]) | skip)
         have H' := Aside0.mk H
         clear H
         go_wp2
         first
         | (go_meet; case rel => exact ⟨_, ((a0_0 == 3)), (by first | rfl | (rw [bl_gt] <;> rfl) | (simp; done) | (simp [*]; done)), H', ⟨by have := HJ1.out; have := HJ9.out; first | omega | exact Nat.le_refl _⟩, ⟨by (with_reducible repeat (first | refine blk_drewN ?_ _ | refine blk_drew ?_ | refine blk_alloc ?_ _)); exact BK101.out⟩, ⟨by repeat (first | (with_reducible first | exact HB.out | apply below_alloc | apply pw_below_drewN | apply below_drew1 | refine below_set ?_ GE101.out) | exact HB.out)⟩⟩)
         | (refine Met.intro ?_; go_step; (repeat apply Exists.intro); refine ⟨?_, ?_⟩; rotate_left; (focus (simp only [c18b0]; try rfl)); exact ⟨_, ((a0_0 == 3)), (by first | rfl | (rw [bl_gt] <;> rfl) | (simp; done) | (simp [*]; done)), H', ⟨by have := HJ1.out; have := HJ9.out; first | omega | exact Nat.le_refl _⟩, ⟨by (with_reducible repeat (first | refine blk_drewN ?_ _ | refine blk_drew ?_ | refine blk_alloc ?_ _)); exact BK101.out⟩, ⟨by repeat (first | (with_reducible first | exact HB.out | apply below_alloc | apply pw_below_drewN | apply below_drew1 | refine below_set ?_ GE101.out) | exact HB.out)⟩⟩)
        ·rw [if_neg c18] at H
         have c18b0 : (a0_0 == 3) = false := beq_eq_false_iff_ne.mpr c18
         have c18b1 : (a0_0 != 3) = true := bne_iff_ne.mpr c18
         (first | rw [c18b0] | (simp only [i64_w, i32_w]; rw [c18b0]) | skip)
         have H' := Aside0.mk H
         clear H
         go_wp2
         first
         | (go_meet; case rel => exact ⟨_, ((a0_0 == 4)), (by first | rfl | (rw [bl_gt] <;> rfl) | (simp; done) | (simp [*]; done)), H', ⟨by have := HJ1.out; have := HJ9.out; first | omega | exact Nat.le_refl _⟩, ⟨by (with_reducible repeat (first | refine blk_drewN ?_ _ | refine blk_drew ?_ | refine blk_alloc ?_ _)); exact BK101.out⟩, ⟨by repeat (first | (with_reducible first | exact HB.out | apply below_alloc | apply pw_below_drewN | apply below_drew1 | refine below_set ?_ GE101.out) | exact HB.out)⟩⟩)
         | (refine Met.intro ?_; go_step; (repeat apply Exists.intro); refine ⟨?_, ?_⟩; rotate_left; (focus (simp only [c18b0]; try rfl)); exact ⟨_, ((a0_0 == 4)), (by first | rfl | (rw [bl_gt] <;> rfl) | (simp; done) | (simp [*]; done)), H', ⟨by have := HJ1.out; have := HJ9.out; first | omega | exact Nat.le_refl _⟩, ⟨by (with_reducible repeat (first | refine blk_drewN ?_ _ | refine blk_drew ?_ | refine blk_alloc ?_ _)); exact BK101.out⟩, ⟨by repeat (first | (with_reducible first | exact HB.out | apply below_alloc | apply pw_below_drewN | apply below_drew1 | refine below_set ?_ GE101.out) | exact HB.out)⟩⟩)
       case rest =>
        clear HC17
        try clear c1
        try clear p2
        try clear c5
        try clear c5b0
        try clear c5b1
        try clear c9
        try clear c10
        try clear c12
        try clear c12b0
        try clear c12b1
        try clear c13
        try clear c14
        try clear c14b0
        try clear c14b1
        try clear c18
        try clear c18b0
        try clear c18b1
        try clear hcz11_0
        try clear hcz11_1
        try clear hcz11_2
        try clear hcz11_3
        try clear hcz15_0
        try clear hcz15_1
        try clear hcz15_2
        try clear hcz15_3
        try clear hcz16_0
        try clear hcz16_1
        try clear hcz16_2
        try clear hcz16_3
        try clear hcz7_0
        try clear hcz7_1
        try clear hcz7_2
        try clear hcz7_3
        try clear hcz8_0
        try clear hcz8_1
        try clear hcz8_2
        try clear hcz8_3
        try clear hfz11_0
        try clear hfz11_1
        try clear hfz11_2
        try clear hfz11_3
        try clear hfz15_0
        try clear hfz15_1
        try clear hfz15_2
        try clear hfz15_3
        try clear hfz16_0
        try clear hfz16_1
        try clear hfz16_2
        try clear hfz16_3
        try clear hfz7_0
        try clear hfz7_1
        try clear hfz7_2
        try clear hfz7_3
        try clear hfz8_0
        try clear hfz8_1
        try clear hfz8_2
        try clear hfz8_3
        try clear p2
        obtain ⟨kq, x26_16, rfl, HA, HJ16, BK101, HB⟩ := hcut
        cases kq with
        | zero => exact absurd HA.out (by simp [txn_is.j2])
        | succ kj16 =>
         have H := HA.out
         clear HA
         simp only [txn_is.j2] at H
         by_cases c19 : x26_16 = true
         ·subst c19
          have H1 : (some (a0_2.toList == ([] : List UInt8))) = some r := by rw [if_pos rfl] at H; exact H
          clear H
          have H := H1
          clear H1
          obtain rfl := Option.some.inj H
          have hcz20_0 : wc.cell? ⟨gb101, 0, none⟩ = some (.int .i64 a0_0) := (blk_cell BK101.out 0).trans rfl
          have hcz20_1 : wc.cell? ⟨gb101, 1, none⟩ = some (.string a0_1) := (blk_cell BK101.out 1).trans rfl
          have hcz20_2 : wc.cell? ⟨gb101, 2, none⟩ = some (.string a0_2) := (blk_cell BK101.out 2).trans rfl
          have hcz20_3 : wc.cell? ⟨gb101, 3, none⟩ = some (.int .u64 a0_3) := (blk_cell BK101.out 3).trans rfl
          have hfz20_0 := blk_frozen BK101.out 0
          have hfz20_1 := blk_frozen BK101.out 1
          have hfz20_2 := blk_frozen BK101.out 2
          have hfz20_3 := blk_frozen BK101.out 3
          go_wp2
          go_ret
          exact ⟨by first | rfl | (rw [bl_gt] <;> rfl) | (simp [errW_none, errW_some] <;> rfl) | (simp [*, errW_none, errW_some] <;> rfl), by repeat (first | (with_reducible first | exact HB.out | apply below_alloc | apply pw_below_drewN | apply below_drew1 | refine below_set ?_ GE101.out) | exact HB.out)⟩
         ·replace c19 := Bool.eq_false_iff.mpr c19
          subst c19
          have H1 : (if a0_0 = 2 then (if a0_3 = 0 then (if a0_2.toList = ([] : List UInt8) then (some true) else ((span_Key.f a0_2).bind fun t104 => (if t104 = 0 then (some (Op.bytesLess a0_1.toList a0_2.toList)) else (some false)))) else (some false)) else (if a0_0 = 6 then ((span_Key.f a0_2).bind fun t105 => (if t105 = 0 then (some (a0_2.toList != a0_1.toList)) else (some false))) else (some false))) = some r := by rw [if_neg (show ¬ (false = true) by decide)] at H; exact H
          clear H
          have H := H1
          clear H1
          by_cases c21 : a0_0 = 2
          ·rw [if_pos c21] at H
           have c21b0 : (a0_0 == 2) = true := beq_iff_eq.mpr c21
           have c21b1 : (a0_0 != 2) = false := bne_eq_false_iff_eq.mpr c21
           clear c21
           by_cases c22 : a0_3 = 0
           ·rw [if_pos c22] at H
            have c22b0 : (a0_3 == 0) = true := beq_iff_eq.mpr c22
            have c22b1 : (a0_3 != 0) = false := bne_eq_false_iff_eq.mpr c22
            clear c22
            by_cases c23 : a0_2.toList = ([] : List UInt8)
            ·rw [if_pos c23] at H
             have c23b0 : (a0_2.toList == ([] : List UInt8)) = true := beq_iff_eq.mpr c23
             have c23b1 : (a0_2.toList != ([] : List UInt8)) = false := bne_eq_false_iff_eq.mpr c23
             clear c23
             obtain rfl := Option.some.inj H
             have hcz24_0 : wc.cell? ⟨gb101, 0, none⟩ = some (.int .i64 a0_0) := (blk_cell BK101.out 0).trans rfl
             have hcz24_1 : wc.cell? ⟨gb101, 1, none⟩ = some (.string a0_1) := (blk_cell BK101.out 1).trans rfl
             have hcz24_2 : wc.cell? ⟨gb101, 2, none⟩ = some (.string a0_2) := (blk_cell BK101.out 2).trans rfl
             have hcz24_3 : wc.cell? ⟨gb101, 3, none⟩ = some (.int .u64 a0_3) := (blk_cell BK101.out 3).trans rfl
             have hfz24_0 := blk_frozen BK101.out 0
             have hfz24_1 := blk_frozen BK101.out 1
             have hfz24_2 := blk_frozen BK101.out 2
             have hfz24_3 := blk_frozen BK101.out 3
             go_wp2
             go_ret
             exact ⟨by first | rfl | (rw [bl_gt] <;> rfl) | (simp [errW_none, errW_some] <;> rfl) | (simp [*, errW_none, errW_some] <;> rfl), by repeat (first | (with_reducible first | exact HB.out | apply below_alloc | apply pw_below_drewN | apply below_drew1 | refine below_set ?_ GE101.out) | exact HB.out)⟩
            ·rw [if_neg c23] at H
             have c23b0 : (a0_2.toList == ([] : List UInt8)) = false := beq_eq_false_iff_ne.mpr c23
             have c23b1 : (a0_2.toList != ([] : List UInt8)) = true := bne_iff_ne.mpr c23
             replace H := Option.bind_eq_some_iff.mp H
             obtain ⟨t104, A250, H⟩ := H
             replace H : (if t104 = 0 then (some (Op.bytesLess a0_1.toList a0_2.toList)) else (some false)) = some r := H
             have A25 := Aside0.mk A250
             clear A250
             by_cases c26 : t104 = 0
             ·rw [if_pos c26] at H
              have c26b0 : (t104 == 0) = true := beq_iff_eq.mpr c26
              have c26b1 : (t104 != 0) = false := bne_eq_false_iff_eq.mpr c26
              clear c26
              obtain rfl := Option.some.inj H
              have hcz27_0 : wc.cell? ⟨gb101, 0, none⟩ = some (.int .i64 a0_0) := (blk_cell BK101.out 0).trans rfl
              have hcz27_1 : wc.cell? ⟨gb101, 1, none⟩ = some (.string a0_1) := (blk_cell BK101.out 1).trans rfl
              have hcz27_2 : wc.cell? ⟨gb101, 2, none⟩ = some (.string a0_2) := (blk_cell BK101.out 2).trans rfl
              have hcz27_3 : wc.cell? ⟨gb101, 3, none⟩ = some (.int .u64 a0_3) := (blk_cell BK101.out 3).trans rfl
              have hfz27_0 := blk_frozen BK101.out 0
              have hfz27_1 := blk_frozen BK101.out 1
              have hfz27_2 := blk_frozen BK101.out 2
              have hfz27_3 := blk_frozen BK101.out 3
              go_wp2_with (first | (go_at_call 103; (with_reducible refine (span_Key.calls a0_2 t104 _ A25.out).mono ?_); rintro e w' ⟨rfl, ⟨nd, rfl⟩⟩))
              go_ret
              exact ⟨by first | rfl | (rw [bl_gt] <;> rfl) | (simp [errW_none, errW_some] <;> rfl) | (simp [*, errW_none, errW_some] <;> rfl), by repeat (first | (with_reducible first | exact HB.out | apply below_alloc | apply pw_below_drewN | apply below_drew1 | refine below_set ?_ GE101.out) | exact HB.out)⟩
             ·rw [if_neg c26] at H
              have c26b0 : (t104 == 0) = false := beq_eq_false_iff_ne.mpr c26
              have c26b1 : (t104 != 0) = true := bne_iff_ne.mpr c26
              obtain rfl := Option.some.inj H
              have hcz28_0 : wc.cell? ⟨gb101, 0, none⟩ = some (.int .i64 a0_0) := (blk_cell BK101.out 0).trans rfl
              have hcz28_1 : wc.cell? ⟨gb101, 1, none⟩ = some (.string a0_1) := (blk_cell BK101.out 1).trans rfl
              have hcz28_2 : wc.cell? ⟨gb101, 2, none⟩ = some (.string a0_2) := (blk_cell BK101.out 2).trans rfl
              have hcz28_3 : wc.cell? ⟨gb101, 3, none⟩ = some (.int .u64 a0_3) := (blk_cell BK101.out 3).trans rfl
              have hfz28_0 := blk_frozen BK101.out 0
              have hfz28_1 := blk_frozen BK101.out 1
              have hfz28_2 := blk_frozen BK101.out 2
              have hfz28_3 := blk_frozen BK101.out 3
              go_wp2_with (first | (go_at_call 103; (with_reducible refine (span_Key.calls a0_2 t104 _ A25.out).mono ?_); rintro e w' ⟨rfl, ⟨nd, rfl⟩⟩))
              go_ret
              exact ⟨by first | rfl | (rw [bl_gt] <;> rfl) | (simp [errW_none, errW_some] <;> rfl) | (simp [*, errW_none, errW_some] <;> rfl), by repeat (first | (with_reducible first | exact HB.out | apply below_alloc | apply pw_below_drewN | apply below_drew1 | refine below_set ?_ GE101.out) | exact HB.out)⟩
           ·rw [if_neg c22] at H
            have c22b0 : (a0_3 == 0) = false := beq_eq_false_iff_ne.mpr c22
            have c22b1 : (a0_3 != 0) = true := bne_iff_ne.mpr c22
            obtain rfl := Option.some.inj H
            have hcz29_0 : wc.cell? ⟨gb101, 0, none⟩ = some (.int .i64 a0_0) := (blk_cell BK101.out 0).trans rfl
            have hcz29_1 : wc.cell? ⟨gb101, 1, none⟩ = some (.string a0_1) := (blk_cell BK101.out 1).trans rfl
            have hcz29_2 : wc.cell? ⟨gb101, 2, none⟩ = some (.string a0_2) := (blk_cell BK101.out 2).trans rfl
            have hcz29_3 : wc.cell? ⟨gb101, 3, none⟩ = some (.int .u64 a0_3) := (blk_cell BK101.out 3).trans rfl
            have hfz29_0 := blk_frozen BK101.out 0
            have hfz29_1 := blk_frozen BK101.out 1
            have hfz29_2 := blk_frozen BK101.out 2
            have hfz29_3 := blk_frozen BK101.out 3
            go_wp2
            go_ret
            exact ⟨by first | rfl | (rw [bl_gt] <;> rfl) | (simp [errW_none, errW_some] <;> rfl) | (simp [*, errW_none, errW_some] <;> rfl), by repeat (first | (with_reducible first | exact HB.out | apply below_alloc | apply pw_below_drewN | apply below_drew1 | refine below_set ?_ GE101.out) | exact HB.out)⟩
          ·rw [if_neg c21] at H
           have c21b0 : (a0_0 == 2) = false := beq_eq_false_iff_ne.mpr c21
           have c21b1 : (a0_0 != 2) = true := bne_iff_ne.mpr c21
           by_cases c30 : a0_0 = 6
           ·rw [if_pos c30] at H
            have c30b0 : (a0_0 == 6) = true := beq_iff_eq.mpr c30
            have c30b1 : (a0_0 != 6) = false := bne_eq_false_iff_eq.mpr c30
            clear c30
            replace H := Option.bind_eq_some_iff.mp H
            obtain ⟨t105, A310, H⟩ := H
            replace H : (if t105 = 0 then (some (a0_2.toList != a0_1.toList)) else (some false)) = some r := H
            have A31 := Aside0.mk A310
            clear A310
            by_cases c32 : t105 = 0
            ·rw [if_pos c32] at H
             have c32b0 : (t105 == 0) = true := beq_iff_eq.mpr c32
             have c32b1 : (t105 != 0) = false := bne_eq_false_iff_eq.mpr c32
             clear c32
             obtain rfl := Option.some.inj H
             have hcz33_0 : wc.cell? ⟨gb101, 0, none⟩ = some (.int .i64 a0_0) := (blk_cell BK101.out 0).trans rfl
             have hcz33_1 : wc.cell? ⟨gb101, 1, none⟩ = some (.string a0_1) := (blk_cell BK101.out 1).trans rfl
             have hcz33_2 : wc.cell? ⟨gb101, 2, none⟩ = some (.string a0_2) := (blk_cell BK101.out 2).trans rfl
             have hcz33_3 : wc.cell? ⟨gb101, 3, none⟩ = some (.int .u64 a0_3) := (blk_cell BK101.out 3).trans rfl
             have hfz33_0 := blk_frozen BK101.out 0
             have hfz33_1 := blk_frozen BK101.out 1
             have hfz33_2 := blk_frozen BK101.out 2
             have hfz33_3 := blk_frozen BK101.out 3
             go_wp2_with (first | ((with_reducible refine gate_callee (f := 103) rfl ?_); refine goesL_ (some 59) rfl rfl Tryz.func103 (by kernel_rfl) rfl #[.string a0_2] rfl (by (try simp only [List.map_toArray, List.map_cons, List.map_nil]); first | done | rfl | (simp only [List.length_drop, List.length_take]; rfl)) ?_; (with_reducible refine (span_Key.calls a0_2 t105 _ A31.out).mono ?_); rintro e w' ⟨rfl, ⟨nd, rfl⟩⟩; refine ⟨_, rfl, ?_⟩))
             go_ret
             exact ⟨by first | rfl | (rw [bl_gt] <;> rfl) | (simp [errW_none, errW_some] <;> rfl) | (simp [*, errW_none, errW_some] <;> rfl), by repeat (first | (with_reducible first | exact HB.out | apply below_alloc | apply pw_below_drewN | apply below_drew1 | refine below_set ?_ GE101.out) | exact HB.out)⟩
            ·rw [if_neg c32] at H
             have c32b0 : (t105 == 0) = false := beq_eq_false_iff_ne.mpr c32
             have c32b1 : (t105 != 0) = true := bne_iff_ne.mpr c32
             obtain rfl := Option.some.inj H
             have hcz34_0 : wc.cell? ⟨gb101, 0, none⟩ = some (.int .i64 a0_0) := (blk_cell BK101.out 0).trans rfl
             have hcz34_1 : wc.cell? ⟨gb101, 1, none⟩ = some (.string a0_1) := (blk_cell BK101.out 1).trans rfl
             have hcz34_2 : wc.cell? ⟨gb101, 2, none⟩ = some (.string a0_2) := (blk_cell BK101.out 2).trans rfl
             have hcz34_3 : wc.cell? ⟨gb101, 3, none⟩ = some (.int .u64 a0_3) := (blk_cell BK101.out 3).trans rfl
             have hfz34_0 := blk_frozen BK101.out 0
             have hfz34_1 := blk_frozen BK101.out 1
             have hfz34_2 := blk_frozen BK101.out 2
             have hfz34_3 := blk_frozen BK101.out 3
             go_wp2_with (first | ((with_reducible refine gate_callee (f := 103) rfl ?_); refine goesL_ (some 59) rfl rfl Tryz.func103 (by kernel_rfl) rfl #[.string a0_2] rfl (by (try simp only [List.map_toArray, List.map_cons, List.map_nil]); first | done | rfl | (simp only [List.length_drop, List.length_take]; rfl)) ?_; (with_reducible refine (span_Key.calls a0_2 t105 _ A31.out).mono ?_); rintro e w' ⟨rfl, ⟨nd, rfl⟩⟩; refine ⟨_, rfl, ?_⟩))
             go_ret
             exact ⟨by first | rfl | (rw [bl_gt] <;> rfl) | (simp [errW_none, errW_some] <;> rfl) | (simp [*, errW_none, errW_some] <;> rfl), by repeat (first | (with_reducible first | exact HB.out | apply below_alloc | apply pw_below_drewN | apply below_drew1 | refine below_set ?_ GE101.out) | exact HB.out)⟩
           ·rw [if_neg c30] at H
            have c30b0 : (a0_0 == 6) = false := beq_eq_false_iff_ne.mpr c30
            have c30b1 : (a0_0 != 6) = true := bne_iff_ne.mpr c30
            obtain rfl := Option.some.inj H
            go_wp2
            go_ret
            exact ⟨by first | rfl | (rw [bl_gt] <;> rfl) | (simp [errW_none, errW_some] <;> rfl) | (simp [*, errW_none, errW_some] <;> rfl), by repeat (first | (with_reducible first | exact HB.out | apply below_alloc | apply pw_below_drewN | apply below_drew1 | refine below_set ?_ GE101.out) | exact HB.out)⟩
end Go.Proofs.YtgmlenpcchhmbaaGreat.P
end
section
set_option linter.unusedVariables false
set_option linter.unusedSimpArgs false
namespace Go.Proofs.YtgmlenpcchhmbaaGreat.P
def idxP {α : Type} (p : α → Bool) (xs : List α) : Int := match xs.findIdx? p with | some i => (i : Int) | none => -1
theorem idxP_hit {α : Type} {p : α → Bool} {xs : List α} {k : Nat} (hk : k < xs.length) (h : ∀ j (hj : j < xs.length), j < k → p xs[j] = false) (ht : p xs[k] = true) : idxP p xs = k := by
  unfold idxP
  have : xs.findIdx? p = some k := by
    rw [List.findIdx?_eq_some_iff_getElem]
    exact ⟨hk, ht, fun j hj => by simpa using h j (by omega) hj⟩
  rw [this]
theorem idxP_none {α : Type} {p : α → Bool} {xs : List α} (h : ∀ j (hj : j < xs.length), p xs[j] = false) : idxP p xs = -1 := by
  unfold idxP
  have : xs.findIdx? p = none := by
    rw [List.findIdx?_eq_none_iff]
    intro x hx
    obtain ⟨j, hj, rfl⟩ := List.getElem_of_mem hx
    exact h j hj
  rw [this]
structure DelInv {α : Type} (p : α → Bool) (xs ys : List α) (i j : Nat) : Prop where
  len : ys.length = xs.length
  lt : i < j
  le : j ≤ xs.length
  low : ys.take i = (xs.take j).filter (fun x => !p x)
  high : ys.drop j = xs.drop j
theorem DelInv.start {α : Type} {p : α → Bool} {xs : List α} {k : Nat} (hk : k < xs.length) (h : ∀ j (hj : j < xs.length), j < k → p xs[j] = false) (ht : p xs[k] = true) : DelInv p xs xs k (k + 1) where
  len := rfl
  lt := Nat.lt_succ_self _
  le := hk
  low := by
    rw [List.take_succ_eq_append_getElem hk, List.filter_append, List.filter_cons_of_neg (by simp [ht]), List.filter_nil, List.append_nil, List.filter_eq_self.2]
    intro x hx
    obtain ⟨j, hj, rfl⟩ := List.getElem_of_mem hx
    rw [List.length_take] at hj
    rw [List.getElem_take]
    simp [h j (by omega) (by omega)]
  high := rfl
theorem DelInv.get {α : Type} {p : α → Bool} {xs ys : List α} {i j : Nat} (h : DelInv p xs ys i j) (hj : j < xs.length) : ys[j]'(by rw [h.len]; exact hj) = xs[j] := by
  have h1 : (ys.drop j)[0]? = (xs.drop j)[0]? := by rw [h.high]
  rw [List.getElem?_drop, List.getElem?_drop, Nat.add_zero, List.getElem?_eq_getElem (by rw [h.len]; exact hj), List.getElem?_eq_getElem hj] at h1
  exact Option.some.inj h1
theorem DelInv.skip {α : Type} {p : α → Bool} {xs ys : List α} {i j : Nat} (h : DelInv p xs ys i j) (hj : j < xs.length) (hp : p xs[j] = true) : DelInv p xs ys i (j + 1) where
  len := h.len
  lt := Nat.lt_succ_of_lt h.lt
  le := hj
  low := by rw [h.low, List.take_succ_eq_append_getElem hj, List.filter_append, List.filter_cons_of_neg (by simp [hp]), List.filter_nil, List.append_nil]
  high := by rw [← List.drop_drop, h.high, List.drop_drop]
theorem DelInv.keep {α : Type} {p : α → Bool} {xs ys : List α} {i j : Nat} (h : DelInv p xs ys i j) (hj : j < xs.length) (hp : p xs[j] = false) : DelInv p xs (ys.set i xs[j]) (i + 1) (j + 1) where
  len := by rw [List.length_set]; exact h.len
  lt := Nat.succ_lt_succ h.lt
  le := hj
  low := by
    have hi : i < (ys.set i xs[j]).length := by rw [List.length_set, h.len]; have := h.lt; omega
    rw [List.take_succ_eq_append_getElem hi, List.getElem_set_self, List.take_set_of_le (Nat.le_refl _), h.low, List.take_succ_eq_append_getElem hj, List.filter_append, List.filter_cons_of_pos (by simp [hp]), List.filter_nil]
  high := by
    rw [List.drop_set_of_lt (by have := h.lt; omega), ← List.drop_drop, h.high, List.drop_drop]
theorem DelInv.done {α : Type} {p : α → Bool} {xs ys : List α} {i : Nat} (h : DelInv p xs ys i xs.length) : ys.take i = xs.filter (fun x => !p x) := by
  rw [h.low, List.take_length]
theorem DelInv.size {α : Type} {p : α → Bool} {xs ys : List α} {i : Nat} (h : DelInv p xs ys i xs.length) : (xs.filter (fun x => !p x)).length = i := by
  rw [← h.done, List.length_take, h.len]; have := h.lt; omega
end Go.Proofs.YtgmlenpcchhmbaaGreat.P
end
section
set_option linter.unusedVariables false
set_option linter.unusedSimpArgs false
namespace Go.Proofs.YtgmlenpcchhmbaaGreat.P
open Go.RowKit Go.Proofs.YtgmlenpcchhmbaaGreatW.PrintWords Go.Proofs.YtgmlenpcchhmbaaGreatW.PrintLast Go.Proofs.YtgmlenpcchhmbaaGreatW.PrintMore
theorem toList_nil (a : ByteArray) : a.toList = ([] : List UInt8) ↔ a = emptyB := by
  rw [ByteArray.toList_eq]
  constructor
  · intro h; exact ba_ext (by rw [h]; rfl)
  · intro h; rw [h]; rfl
theorem toList_inj {a b : ByteArray} : a.toList = b.toList ↔ a = b := by
  rw [ByteArray.toList_eq, ByteArray.toList_eq]
  exact ⟨ba_ext, fun h => by rw [h]⟩
theorem klt_list (a b : ByteArray) : Op.bytesLess a.toList b.toList = klt a b := by rw [ByteArray.toList_eq, ByteArray.toList_eq]; rfl
def keyT (k : ByteArray) : Bool := decide (k ≠ emptyB) && decide (k.size ≤ 16)
theorem span_Key_f (k : ByteArray) : span_Key.f k = some (if keyT k = true then 0 else 30) := by
  unfold span_Key.f keyT
  by_cases h : k = emptyB
  · rw [if_pos ((toList_nil k).2 h)]; simp [h]
  · rw [if_neg (fun e => h ((toList_nil k).1 e))]
    by_cases h2 : k.size ≤ 16
    · rw [if_neg (by omega)]; simp [h, h2]
    · rw [if_pos (by omega)]; simp [h, h2]
def isT (o : S63) : Bool :=
  keyT o.f1 && numOk o.f3 &&
    (if o.f0 = 1 ∨ o.f0 = 5 then decide (o.f2 = emptyB) && decide (o.f3 = 0)
     else if o.f0 = 3 ∨ o.f0 = 4 then decide (o.f2 = emptyB)
     else if o.f0 = 2 then decide (o.f3 = 0) && (decide (o.f2 = emptyB) || (keyT o.f2 && klt o.f1 o.f2))
     else if o.f0 = 6 then keyT o.f2 && decide (o.f2 ≠ o.f1) else false)
theorem txn_is_f (o : S63) : txn_is.f 3 o.f0 o.f1 o.f2 o.f3 = some (isT o) := by
  obtain ⟨a, k, t, n⟩ := o
  unfold txn_is.f isT num_Check.f
  simp only [span_Key_f, Option.bind_some, klt_list, toList_nil, txn_is.j0, txn_is.j1, txn_is.j2]
  cases hk : keyT k with
  | false => simp
  | true =>
    cases hn : numOk n with
    | false => simp
    | true =>
      by_cases h1 : a = 1
      · subst h1; by_cases e : t = emptyB <;> by_cases e0 : n = 0 <;> simp [e, e0]
      by_cases h5 : a = 5
      · subst h5; by_cases e : t = emptyB <;> by_cases e0 : n = 0 <;> simp [e, e0]
      by_cases h3 : a = 3
      · subst h3; by_cases e : t = emptyB <;> simp [e, toList_nil]
      by_cases h4 : a = 4
      · subst h4; by_cases e : t = emptyB <;> simp [e, toList_nil]
      by_cases h2 : a = 2
      · subst h2; by_cases e : t = emptyB <;> by_cases e0 : n = 0 <;> cases hkt : keyT t <;> simp [e, e0]
      by_cases h6 : a = 6
      · subst h6; cases hkt : keyT t <;> by_cases e : t = k <;> simp [e, toList_inj]
      simp [h1, h2, h3, h4, h5, h6]
set_option maxHeartbeats 1000000 in
theorem oidx_any (g : Nat) (p : S63 → Bool) (eg : ∀ args w, (callFunc g args).run Tryz.prog w = .ok (.enter g args) w) (A : Option Addr) (c : Nat) (xs : List S63) (w : World) (hr : Kd.C k63 w A xs.length xs)
    (hp : ∀ (W : World) (s : S63), s ∈ xs → Below w.heap.size w W → Calls Tryz.prog g #[.agg #[.int .i64 s.f0, .string s.f1, .string s.f2, .int .u64 s.f3]] W fun e w' => e = .returned (.bool (p s)) ∧ Below W.heap.size W w') :
    Calls Tryz.prog 102 #[.slice A xs.length c, .func (.func g) #[] #[]] w fun e w' => e = .returned (.int .i64 (idxP p xs)) ∧ Below w.heap.size w w' := by
  have hm := Kd.C_max hr
  have HR := Lib.hid hr; clear hr
  have HP := Lib.hid hp; clear hp
  go_enter Tryz.func102, Tryz.ntmps102
  go_wp2
  go_loopw [5, 8] (fun _ i wr => ∃ k : Nat, i = .int .i64 k ∧ k ≤ xs.length ∧ Below w.heap.size w wr ∧ RowKit.Hid (∀ j (hj : j < xs.length), j < k → p xs[j] = false)) (fun _ i _ => xs.length - (intOf i).toNat)
  case atStart => exact ⟨0, rfl, Nat.zero_le _, Below.refl _ _, Lib.hid (fun j _ h => absurd h (Nat.not_lt_zero _))⟩
  case round =>
    obtain ⟨k, rfl, hk, hB, HN⟩ := hrel
    by_cases hlt : k < xs.length
    · obtain ⟨ad, hA, x0, x1, x2, x3⟩ := at_T63 (Kd.C_below HR.out hB) (k : Int) (by omega) (by omega)
      subst hA
      have hc := HP.out wr xs[k] (List.getElem_mem hlt) hB
      have er : rd_T63 xs (k : Int) = xs[k] := by
        unfold rd_T63
        rw [Int.toNat_natCast, List.getD_eq_getElem?_getD, List.getElem?_eq_getElem hlt]
        rfl
      rw [er] at x0 x1 x2 x3
      rw [Int.toNat_natCast] at x0 x1 x2 x3
      clear er
      generalize hu : xs[k] = u at *
      have HU := Lib.hid hu; clear hu
      cases hq : p u with
      | true =>
        rw [hq] at hc
        have HQ := Lib.hid hq; clear hq
        go_wp2_with (go_at_fn g; refine hc.mono ?_; rintro e w' ⟨rfl, hb⟩)
        go_ret
        refine ⟨?_, hB.trans (hb.mono hB.size)⟩
        rw [idxP_hit hlt HN.out (by rw [HU.out]; exact HQ.out)]
        rfl
      | false =>
        rw [hq] at hc
        have HQ := Lib.hid hq; clear hq
        go_wp2_with (go_at_fn g; refine hc.mono ?_; rintro e w' ⟨rfl, hb⟩)
        go_roundw
        case rel => exact ⟨k + 1, by go_num, by omega, hB.trans (hb.mono hB.size), Lib.hid (fun j hj h => by
          by_cases e : j = k
          · subst e; rw [HU.out]; exact HQ.out
          · exact HN.out j hj (by omega))⟩
        case measure => simp [intOf]; omega
    · obtain rfl : k = xs.length := by omega
      go_wp2
      go_ret
      refine ⟨?_, hB⟩
      rw [idxP_none (fun j hj => HN.out j hj (by omega))]
      rfl
theorem idxP_any {α : Type} (p : α → Bool) (xs : List α) : decide (idxP p xs ≥ 0) = xs.any p := by
  unfold idxP
  cases h : xs.findIdx? p with
  | none =>
    rw [List.findIdx?_eq_none_iff] at h
    simp; exact h
  | some i =>
    obtain ⟨hi, hp, _⟩ := List.findIdx?_eq_some_iff_getElem.1 h
    simp
    exact ⟨_, List.getElem_mem hi, hp⟩
set_option maxHeartbeats 1000000 in
theorem ocontains_any (g : Nat) (p : S63 → Bool) (eg : ∀ args w, (callFunc g args).run Tryz.prog w = .ok (.enter g args) w) (A : Option Addr) (c : Nat) (xs : List S63) (w : World) (hr : Kd.C k63 w A xs.length xs)
    (hp : ∀ (W : World) (s : S63), s ∈ xs → Below w.heap.size w W → Calls Tryz.prog g #[.agg #[.int .i64 s.f0, .string s.f1, .string s.f2, .int .u64 s.f3]] W fun e w' => e = .returned (.bool (p s)) ∧ Below W.heap.size W w') :
    Calls Tryz.prog 56 #[.slice A xs.length c, .func (.func g) #[] #[]] w fun e w' => e = .returned (.bool (xs.any p)) ∧ Below w.heap.size w w' := by
  have HC := Lib.hid (oidx_any g p eg A c xs w hr hp)
  rw [← idxP_any]
  clear hr hp
  generalize idxP p xs = i at *
  go_enter Tryz.func56, Tryz.ntmps56
  go_wp2_with fail
  refine HC.out.mono ?_
  rintro e w1 ⟨rfl, hb⟩
  have HB := Lib.hid hb; clear hb
  go_wp2
  go_ret
  exact ⟨rfl, HB.out⟩
theorem check1_any (s : S63) (w : World) : Calls Tryz.prog 57 #[.agg #[.int .i64 s.f0, .string s.f1, .string s.f2, .int .u64 s.f3]] w fun e w' => e = .returned (.bool (!isT s)) ∧ Below w.heap.size w w' := by
  obtain ⟨w1, hw1⟩ : ∃ w1, w.alloc (.cells #[.int .i64 s.f0, .string s.f1, .string s.f2, .int .u64 s.f3] 63) = w1 := ⟨_, rfl⟩
  have hb : Below w.heap.size w w1 := hw1 ▸ (Below.refl _ _).alloc (Nat.le_refl _) _
  have hT : Blk w1 w.heap.size 63 #[.int .i64 s.f0, .string s.f1, .string s.f2, .int .u64 s.f3] := hw1 ▸ Blk.new w 63 _
  have t0 : w1.cell? ⟨w.heap.size, 0, none⟩ = some (.int .i64 s.f0) := hT.cell 0
  have t1 : w1.cell? ⟨w.heap.size, 1, none⟩ = some (.string s.f1) := hT.cell 1
  have t2 : w1.cell? ⟨w.heap.size, 2, none⟩ = some (.string s.f2) := hT.cell 2
  have t3 : w1.cell? ⟨w.heap.size, 3, none⟩ = some (.int .u64 s.f3) := hT.cell 3
  have HC := Lib.hid (txn_is.calls 3 s.f0 s.f1 s.f2 s.f3 _ w1 (txn_is_f s))
  have HB := Lib.hid hb; clear hb hT
  generalize isT s = b at *
  go_enter Tryz.func57, Tryz.ntmps57
  go_wp2_with fail
  refine HC.out.mono ?_
  rintro e w2 ⟨rfl, hb2⟩
  have HB2 := Lib.hid (HB.out.trans (hb2.mono HB.out.size)); clear hb2
  go_wp2
  go_ret
  exact ⟨rfl, HB2.out⟩
def checkT (l : List S63) : Int := if 8 < l.length then 6 else if l.length = 0 ∨ l.any (fun o => !isT o) = true then 80 else 0
def txn_Check.f (l : List S63) : Option Int := some (checkT l)
set_option maxHeartbeats 1000000 in
theorem txn_Check.calls (A0 : Option Addr) (c0 : Nat) (l0 : List S63) (r : Int) (w : World) (hr0 : Kd.C k63 w A0 l0.length l0) (_hc0 : l0.length ≤ c0) (h : txn_Check.f l0 = some r) :
    Calls Tryz.prog 18 #[.slice A0 l0.length c0] w fun e w' => e = .returned (.int .i64 r) ∧ Below w.heap.size w w' := by
  injection h with h
  subst h
  have eg : ∀ args w, (callFunc 57 args).run Tryz.prog w = .ok (.enter 57 args) w := enters_of Tryz.func57 (by kernel_rfl) rfl
  have HC := Lib.hid (ocontains_any 57 (fun o => !isT o) eg A0 c0 l0 w hr0 (fun W s _ _ => check1_any s W))
  have hm := Kd.C_max hr0
  unfold checkT
  clear hr0
  generalize l0.any (fun o => !isT o) = b at *
  by_cases h8 : 8 < l0.length
  · rw [if_pos h8]
    go_enter Tryz.func18, Tryz.ntmps18
    go_wp2
    go_ret
    exact ⟨rfl, Below.refl _ _⟩
  · rw [if_neg h8]
    by_cases h0 : l0.length = 0
    · rw [if_pos (.inl h0)]
      have d : ((l0.length : Int) == 0) = true := by simp [h0]
      clear h0
      go_enter Tryz.func18, Tryz.ntmps18
      go_wp2
      go_ret
      exact ⟨rfl, Below.refl _ _⟩
    · have d : ((l0.length : Int) == 0) = false := beq_eq_false_iff_ne.2 (by omega)
      have hb : (if l0.length = 0 ∨ b = true then (80 : Int) else 0) = if b = true then 80 else 0 := by simp [h0]
      rw [hb]
      clear hb
      cases b with
      | true =>
        go_enter Tryz.func18, Tryz.ntmps18
        go_wp2_with fail
        refine HC.out.mono ?_
        rintro e w1 ⟨rfl, hb⟩
        have HB := Lib.hid hb; clear hb
        go_wp2
        go_ret
        exact ⟨rfl, HB.out⟩
      | false =>
        go_enter Tryz.func18, Tryz.ntmps18
        go_wp2_with fail
        refine HC.out.mono ?_
        rintro e w1 ⟨rfl, hb⟩
        have HB := Lib.hid hb; clear hb
        go_wp2
        go_ret
        exact ⟨rfl, HB.out⟩
end Go.Proofs.YtgmlenpcchhmbaaGreat.P
end
section
set_option linter.unusedVariables false
set_option linter.unusedSimpArgs false
namespace Go.Proofs.YtgmlenpcchhmbaaGreat.P
open Go.RowKit Go.Proofs.YtgmlenpcchhmbaaGreatW.PrintWords Go.Proofs.YtgmlenpcchhmbaaGreatW.PrintLast Go.Proofs.YtgmlenpcchhmbaaGreatW.PrintMore
attribute [local go_sem] max2_int min2_int max_two min_two max_three min_three max_four min_four   -- for this text's walks alone
def slices_Equal_byte_byte.l0 : Nat → List Int → List Int → Int → Int → Option (Bool)
 | 0, _, _, _, _ => none
 | k + 1, x0, x1, x12, x13 => if x13 < x12 then (if 0 ≤ x13 then (if x13 < (x0.length : Int) then (if x13 < (x1.length : Int) then (if (rd x0 x13) = (rd x1 x13) then (slices_Equal_byte_byte.l0 k x0 x1 x12 (wrap64 (x13 + 1))) else (some false)) else (none)) else (none)) else (none)) else (some true)
def slices_Equal_byte_byte.f (k : Nat) (l0 : List Int) (l1 : List Int) : Option (Bool) := if (l0.length : Int) = (l1.length : Int) then (slices_Equal_byte_byte.l0 k l0 l1 (l0.length : Int) 0) else (some false)
set_option maxHeartbeats 8000000 in
set_option maxRecDepth 100000 in
theorem slices_Equal_byte_byte.calls (k : Nat) (A0 : Option Addr) (c0 : Nat) (l0 : List Int) (A1 : Option Addr) (c1 : Nat) (l1 : List Int) (r : Bool) (w : World) (hr0 : Kd.C (Kd.int .u8) w A0 l0.length l0) (hc0 : l0.length ≤ c0) (hr1 : Kd.C (Kd.int .u8) w A1 l1.length l1) (hc1 : l1.length ≤ c1) (h : slices_Equal_byte_byte.f k l0 l1 = some r) :
  Calls Tryz.prog 52 #[.slice A0 l0.length c0, .slice A1 l1.length c1] w fun e w' => e = .returned (.bool r) ∧ Drawn0 w w' := by
 have HR0 := Aside0.mk hr0
 have HC0 := Aside0.mk hc0
 clear hr0 hc0
 have HR1 := Aside0.mk hr1
 have HC1 := Aside0.mk hc1
 clear hr1 hc1
 have H : (if (l0.length : Int) = (l1.length : Int) then (slices_Equal_byte_byte.l0 k l0 l1 (l0.length : Int) 0) else (some false)) = some r := h
 clear h
 by_cases c3 : (l0.length : Int) = (l1.length : Int)
 ·rw [if_pos c3] at H
  have c3b0 : ((l0.length : Int) == (l1.length : Int)) = true := beq_iff_eq.mpr c3
  have c3b1 : ((l0.length : Int) != (l1.length : Int)) = false := bne_eq_false_iff_eq.mpr c3
  have c3b2 : (l0.length == l1.length) = true := by first | simpa using c3 | (simp at c3 ⊢; omega)
  clear c3
  have H' := Aside0.mk H
  clear H
  go_enter Tryz.func52, Tryz.ntmps52
  go_wp2
  repeat (go_quiet (fail); try go_wp2)
  go_loopg [13] k (fun kq v13 w' => ∃ (x13_1 : Int), v13 = .int .i64 x13_1 ∧ Aside0 (slices_Equal_byte_byte.l0 kq l0 l1 (l0.length : Int) x13_1 = some r) ∧ Aside0 (kq ≤ k) ∧ Drawn0 w w')
  case atStart => exact ⟨(0), (by first | rfl | (rw [bl_gt] <;> rfl) | (simp; done) | (simp [*]; done)), H', ⟨Nat.le_refl _⟩, by repeat (first | exact Drawn0.refl _ | apply Drawn0.step)⟩
  case round =>
   clear H'
   try clear c1
   try clear p2
   try clear c3
   try clear c3b0
   try clear c3b1
   try clear c3b2
   obtain ⟨x13_1, rfl, HA, HK1, ⟨m1, rfl⟩⟩ := hrel
   cases gk with
   | zero => exact absurd HA.out (by simp [slices_Equal_byte_byte.l0])
   | succ k1 =>
    have H := HA.out
    clear HA
    simp only [slices_Equal_byte_byte.l0] at H
    by_cases c4 : x13_1 < (l0.length : Int)
    ·rw [if_pos c4] at H
     have c4b0 : decide (x13_1 < (l0.length : Int)) = true := decide_eq_true c4
     clear c4
     by_cases c5 : 0 ≤ x13_1
     ·rw [if_pos c5] at H
      have c5b0 : decide (0 ≤ x13_1) = true := decide_eq_true c5
      clear c5
      by_cases c6 : x13_1 < (l0.length : Int)
      ·rw [if_pos c6] at H
       have c6b0 : decide (x13_1 < (l0.length : Int)) = true := decide_eq_true c6
       clear c6
       by_cases c7 : x13_1 < (l1.length : Int)
       ·rw [if_pos c7] at H
        have c7b0 : decide (x13_1 < (l1.length : Int)) = true := decide_eq_true c7
        clear c7
        by_cases c8 : (rd l0 x13_1) = (rd l1 x13_1)
        ·rw [if_pos c8] at H
         have c8b0 : ((rd l0 x13_1) == (rd l1 x13_1)) = true := beq_iff_eq.mpr c8
         have c8b1 : ((rd l0 x13_1) != (rd l1 x13_1)) = false := bne_eq_false_iff_eq.mpr c8
         clear c8
         have H' := Aside0.mk H
         clear H
         have p109 : 0 ≤ (x13_1 : Int) := of_decide_eq_true (by first | (with_reducible assumption) | assumption)
         have q109 : x13_1 < (l0.length : Int) := of_decide_eq_true (by first | (with_reducible assumption) | assumption)
         obtain ⟨ad109, e109, hx109_0⟩ := Kd.at_int HR0.out x13_1 p109 q109
         cases e109
         replace p109 := eq_true p109
         replace q109 := eq_true q109
         have p110 : 0 ≤ (x13_1 : Int) := of_decide_eq_true (by first | (with_reducible assumption) | assumption)
         have q110 : x13_1 < (l1.length : Int) := of_decide_eq_true (by first | (with_reducible assumption) | assumption)
         obtain ⟨ad110, e110, hx110_0⟩ := Kd.at_int HR1.out x13_1 p110 q110
         cases e110
         replace p110 := eq_true p110
         replace q110 := eq_true q110
         go_wp2
         repeat (go_quiet (fail); try go_wp2)
         go_roundg k1
         case measure => have := HK1.out; omega
         case rel => exact ⟨(wrap64 (x13_1 + 1)), (by first | rfl | (rw [bl_gt] <;> rfl) | (simp; done) | (simp [*]; done)), H', ⟨by have := HK1.out; omega⟩, by repeat (first | exact Drawn0.refl _ | apply Drawn0.step)⟩
        ·rw [if_neg c8] at H
         have c8b0 : ((rd l0 x13_1) == (rd l1 x13_1)) = false := beq_eq_false_iff_ne.mpr c8
         have c8b1 : ((rd l0 x13_1) != (rd l1 x13_1)) = true := bne_iff_ne.mpr c8
         obtain rfl := Option.some.inj H
         have p109 : 0 ≤ (x13_1 : Int) := of_decide_eq_true (by first | (with_reducible assumption) | assumption)
         have q109 : x13_1 < (l0.length : Int) := of_decide_eq_true (by first | (with_reducible assumption) | assumption)
         obtain ⟨ad109, e109, hx109_0⟩ := Kd.at_int HR0.out x13_1 p109 q109
         cases e109
         replace p109 := eq_true p109
         replace q109 := eq_true q109
         have p110 : 0 ≤ (x13_1 : Int) := of_decide_eq_true (by first | (with_reducible assumption) | assumption)
         have q110 : x13_1 < (l1.length : Int) := of_decide_eq_true (by first | (with_reducible assumption) | assumption)
         obtain ⟨ad110, e110, hx110_0⟩ := Kd.at_int HR1.out x13_1 p110 q110
         cases e110
         replace p110 := eq_true p110
         replace q110 := eq_true q110
         go_wp2
         repeat (go_quiet (fail); try go_wp2)
         go_ret
         exact ⟨by first | rfl | (simp; done) | (simp [*]; done), by repeat (first | exact Drawn0.refl _ | apply Drawn0.step)⟩
       ·rw [if_neg c7] at H
        exact absurd H (by simp)
      ·rw [if_neg c6] at H
       exact absurd H (by simp)
     ·rw [if_neg c5] at H
      exact absurd H (by simp)
    ·rw [if_neg c4] at H
     have c4b0 : decide (x13_1 < (l0.length : Int)) = false := decide_eq_false c4
     clear c4
     obtain rfl := Option.some.inj H
     go_wp2
     repeat (go_quiet (fail); try go_wp2)
     go_ret
     exact ⟨by first | rfl | (simp; done) | (simp [*]; done), by repeat (first | exact Drawn0.refl _ | apply Drawn0.step)⟩
 ·rw [if_neg c3] at H
  have c3b0 : ((l0.length : Int) == (l1.length : Int)) = false := beq_eq_false_iff_ne.mpr c3
  have c3b1 : ((l0.length : Int) != (l1.length : Int)) = true := bne_iff_ne.mpr c3
  have c3b2 : (l0.length == l1.length) = false := by first | simpa using c3 | (simp at c3 ⊢; omega)
  obtain rfl := Option.some.inj H
  go_enter Tryz.func52, Tryz.ntmps52
  go_wp2
  repeat (go_quiet (fail); try go_wp2)
  go_ret
  exact ⟨by first | rfl | (simp; done) | (simp [*]; done), by repeat (first | exact Drawn0.refl _ | apply Drawn0.step)⟩
end Go.Proofs.YtgmlenpcchhmbaaGreat.P
end
