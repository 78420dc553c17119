/- what the claim's row stands on, part 10. -/
import Derived.Test.YtaedlmeaconflaaGreatZc9
import Derived.Test.YtaedlmeaconflaaGreatZc5
import Derived.Test.YtaedlmeaconflaaGreatZc7
import Derived.Lib.Bytes
section
set_option linter.unusedVariables false
set_option linter.unusedSimpArgs false
namespace Go.Proofs.YtaedlmeaconflaaGreat.P
open Go.RowKit Go.Proofs.YtaedlmeaconflaaGreatW.PrintWords Go.Proofs.YtaedlmeaconflaaGreatW.PrintLast Go.Proofs.YtaedlmeaconflaaGreatW.PrintMore
def RE (w : World) (g ab : Nat) (B : List Int) (s : Sight) : Prop := ∃ i, REyeIs w g ab B i s.2 ∧ s.1 = B.drop i
section
variable {w w' : World} {g ab : Nat} {B : List Int} {s : Sight}
theorem RE.upd {S : Nat → Prop} (h : RE w g ab B s) (hu : Upd w w' S) (hg : ¬ S g) (ha : ¬ S ab) : RE w' g ab B s := by
  obtain ⟨i, h, e⟩ := h; exact ⟨i, h.upd hu hg ha, e⟩
theorem RE.below (h : RE w g ab B s) (hb : Below w.heap.size w w') : RE w' g ab B s := h.upd (Upd.of_below hb (fun _ => False)) (fun h => h) (fun h => h)
theorem RE.lt (h : RE w g ab B s) : g < w.heap.size := by obtain ⟨i, h, _⟩ := h; exact h.lt
theorem RE.oldb (h : RE w g ab B s) : ab < w.heap.size := by obtain ⟨i, h, _⟩ := h; exact h.old
theorem RE.blind (h : RE w g ab B s) : w.cell? ⟨g, 2, none⟩ = some (.bool s.2) := by
  obtain ⟨i, h, _⟩ := h
  obtain ⟨A, c, hB, _⟩ := h.ex
  exact hB.cell 2
theorem retake_bad (h : RE w g ab B s) (n : Nat) (hn : s.2 = true ∨ s.1.length < n) : Calls Tryz.prog 107 #[ptr g, .int .i64 (n : Int)] w fun e w' => e = .returned (.tuple #[.slice none 0 0, .bool false]) ∧ RE w' g ab B (s.1, true) ∧ Upd w w' (· = g) := by
  obtain ⟨i, h, e⟩ := h
  exact (rftake_bad h (n : Int) (hn.imp id fun h2 => by rw [e, List.length_drop] at h2; omega)).mono fun e2 w' ⟨he, hE, hu⟩ => ⟨he, ⟨i, hE, e⟩, hu⟩
theorem retake_ok {xs : List Int} (h : RE w g ab B (xs, false)) (n : Nat) (hn : n ≤ xs.length) : Calls Tryz.prog 107 #[ptr g, .int .i64 (n : Int)] w fun e w' => ∃ A1 c1, e = .returned (.tuple #[.slice A1 n c1, .bool true]) ∧ n ≤ c1 ∧ Kd.C (Kd.int .u8) w' A1 n (xs.take n) ∧ RE w' g ab B (xs.drop n, false) ∧ Upd w w' (· = g) := by
  obtain ⟨i, h, e⟩ := h
  have e : xs = B.drop i := e
  refine (rftake_ok h n (by rw [e, List.length_drop] at hn; exact hn)).mono fun e2 w' ⟨A1, c1, he, hc, hF, hE, hu⟩ => ⟨A1, c1, he, hc, by rw [e]; exact Kd.F_now hF, ⟨i + n, hE, by show xs.drop n = B.drop (i + n); rw [e, List.drop_drop]⟩, hu⟩
theorem rfnumber_any (A : Option Addr) (c : Nat) (xs : List Int) (w : World) (h : Kd.C (Kd.int .u8) w A xs.length xs) (hc : xs.length ≤ c) (hb : bytesOk xs) (h8 : xs.length ≤ 8) : Calls Tryz.prog 108 #[.slice A xs.length c] w fun e w' => e = .returned (.int .u64 (leNum xs : Nat)) ∧ Below w.heap.size w w' := by
  obtain ⟨k, hk⟩ := (ev_number xs hb h8).get
  exact (folkmootref02_number.calls k A c xs _ w h hc hk).mono fun e w' ⟨he, hd⟩ => ⟨he, hd.below⟩
set_option maxHeartbeats 1000000 in
theorem rfInt_any (h : RE w g ab B s) (hx : bytesOk s.1) : Calls Tryz.prog 83 #[ptr g] w fun e w' => e = .returned (.int .i64 (sInt s).1) ∧ RE w' g ab B (sInt s).2 ∧ Upd w w' (· = g) := by
  by_cases hbad : s.2 = true ∨ s.1.length < 8
  · rw [sInt_bad hbad]
    have ht := retake_bad h 8 hbad
    have HT := Lib.hid ht
    clear ht h hx hbad
    go_enter Tryz.func83, Tryz.ntmps83
    go_wp2_with fail
    refine HT.out.mono ?_
    rintro e w2 ⟨rfl, hE, hu⟩
    have HE := Lib.hid (And.intro hE hu)
    clear hE hu
    go_wp2
    go_ret
    exact ⟨rfl, HE.out⟩
  · obtain ⟨xs, bl⟩ := s
    have hl : 8 ≤ xs.length := by
      rcases Nat.lt_or_ge xs.length 8 with h | h
      · exact absurd (.inr h) hbad
      · exact h
    obtain rfl : bl = false := by
      cases bl with
      | true => exact absurd (.inl rfl) hbad
      | false => rfl
    rw [sInt_ok hl]
    have ht := retake_ok h 8 hl
    have hi := i64_wrap (n := numOf xs 8) (numOf_lt hx 8)
    have hxl : (xs.take 8).length = 8 := by rw [List.length_take]; omega
    have HN := Lib.hid (fun (A1 : Option Addr) (c1 : Nat) (W : World) (hC : Kd.C (Kd.int .u8) W A1 8 (xs.take 8)) (hc1 : 8 ≤ c1) => rfnumber_any A1 c1 (xs.take 8) W (by rw [hxl]; exact hC) (by omega) (bytesOk_take hx 8) (by omega))
    rw [hxl] at HN
    have hno : leNum (xs.take 8) = numOf xs 8 := rfl
    rw [hno] at HN
    simp only
    generalize numOf xs 8 = m at *
    have HT := Lib.hid ht
    clear ht h hx hbad hno hxl hl
    go_enter Tryz.func83, Tryz.ntmps83
    go_wp2_with fail
    refine HT.out.mono ?_
    rintro e w2 ⟨A1, c1, rfl, hc1, hC, hE, hu⟩
    have HE := Lib.hid (And.intro hC (And.intro hE hu))
    clear hC hE hu
    go_wp2_with fail
    refine (HN.out A1 c1 _ HE.out.1 hc1).mono ?_
    rintro e w3 ⟨rfl, hb⟩
    have HB := Lib.hid hb
    clear hb
    go_wp2
    go_ret
    exact ⟨by first | rfl | rw [hi], HE.out.2.1.below HB.out, HE.out.2.2.then_below HB.out⟩
theorem C_take8 {w : World} {A : Option Addr} {c : Nat} {ys : List Int} (h : Kd.C (Kd.int .u8) w A 16 ys) (_hc : 16 ≤ c) : Kd.C (Kd.int .u8) w A 8 (ys.take 8) := by
  have hl : ys.length = 16 := h.1
  have := Kd.C_take (m := 8) (by rw [hl]; exact h : Kd.C (Kd.int .u8) w A ys.length ys) (by omega)
  rwa [List.length_take, show min 8 ys.length = 8 by omega] at this
theorem C_drop8 {w : World} {A : Option Addr} {c : Nat} {ys : List Int} (h : Kd.C (Kd.int .u8) w A 16 ys) (hc : 16 ≤ c) : Kd.C (Kd.int .u8) w (A.map (·.add 8)) 8 (ys.drop 8) := by
  have hl : ys.length = 16 := h.1
  have := Kd.C_drop (m := 8) (c := c) (by rw [hl]; exact h : Kd.C (Kd.int .u8) w A ys.length ys) (by omega) (by omega)
  rw [if_neg (by omega), List.length_drop, show ys.length - 8 = 8 by omega] at this
  exact this
set_option maxHeartbeats 2000000 in
set_option maxRecDepth 100000 in
theorem rfStamp_ok {xs : List Int} (h : RE w g ab B (xs, false)) (hx : bytesOk xs) (hl : 16 ≤ xs.length) : Calls Tryz.prog 109 #[ptr g] w fun e w' => e = .returned (.agg #[.int .i64 (readS xs).f0, .int .i64 (readS xs).f1]) ∧ RE w' g ab B (xs.drop 16, false) ∧ Upd w w' (· = g) := by
  obtain ⟨w1, hw1⟩ : ∃ w1, w.alloc (.cells #[.int .i64 0, .int .i64 0] 41) = w1 := ⟨_, rfl⟩
  have hb1 : Below w.heap.size w w1 := hw1 ▸ (Below.refl _ _).alloc (Nat.le_refl _) _
  have hT : Blk w1 w.heap.size 41 #[.int .i64 0, .int .i64 0] := hw1 ▸ Blk.new w 41 _
  have hlt := h.lt; have hab := h.oldb
  have ht := retake_ok (h.below hb1) 16 hl
  have hi := i64_wrap (n := numOf xs 8) (numOf_lt hx 8)
  have hi2 := i64_wrap (n := numOf (xs.drop 8) 8) (numOf_lt (bytesOk_drop hx 8) 8)
  have hrs : readS xs = ⟨i64 (numOf xs 8), i64 (numOf (xs.drop 8) 8)⟩ := rfl
  rw [hrs]
  have e1 : (xs.take 16).take 8 = xs.take 8 := by rw [List.take_take]; rfl
  have e2 : (xs.take 16).drop 8 = (xs.drop 8).take 8 := by rw [List.drop_take]
  have l1 : (xs.take 8).length = 8 := by rw [List.length_take]; omega
  have l2 : ((xs.drop 8).take 8).length = 8 := by rw [List.length_take, List.length_drop]; omega
  have HN := Lib.hid (fun (A1 : Option Addr) (c1 : Nat) (W : World) (hC : Kd.C (Kd.int .u8) W A1 16 (xs.take 16)) (hc1 : 16 ≤ c1) => And.intro
    (show Calls Tryz.prog 108 #[.slice A1 8 c1] W fun e w' => e = .returned (.int .u64 (numOf xs 8 : Nat)) ∧ Below W.heap.size W w' from by
      have := rfnumber_any A1 c1 (xs.take 8) W (by rw [l1, ← e1]; exact C_take8 hC hc1) (by omega) (bytesOk_take hx 8) (by omega)
      rwa [l1] at this)
    (show Calls Tryz.prog 108 #[.slice (A1.map (·.add 8)) 8 (c1 - 8)] W fun e w' => e = .returned (.int .u64 (numOf (xs.drop 8) 8 : Nat)) ∧ Below W.heap.size W w' from by
      have := rfnumber_any (A1.map (·.add 8)) (c1 - 8) ((xs.drop 8).take 8) W (by rw [l2, ← e2]; exact C_drop8 hC hc1) (by omega) (bytesOk_take (bytesOk_drop hx 8) 8) (by omega)
      rwa [l2] at this))
  have HX := Lib.hid (And.intro hb1 (And.intro hT (And.intro hlt hab)))
  have HT := Lib.hid ht
  clear ht h hx hrs e1 e2 l1 l2 hb1 hT hlt hab
  generalize numOf xs 8 = m at *
  generalize numOf (xs.drop 8) 8 = m2 at *
  go_enter Tryz.func109, Tryz.ntmps109
  go_wp2_with fail
  refine HT.out.mono ?_
  rintro e w2 ⟨A1, c1, rfl, hc1, hC, hE, hu⟩
  have hB2 := HX.out.2.1.upd hu (fun e => by have := HX.out.2.2.1; omega)
  have HE := Lib.hid (And.intro hC (And.intro hE (And.intro hu hB2)))
  clear hC hE hu hB2
  have h8c : (8 : Int) ≤ (c1 : Int) := by omega
  have h8n : ¬ c1 = 8 := by omega
  have h16 : (8 : Int) ≤ 16 := by omega
  go_upto_region 4 with fail
  refine wp_region_last1_held (S := (fun W => Below w2.heap.size w2 W)) (l := [_, _, _, _, _, _, _, _, _]) (o := _) (by kernel_rfl) (by kernel_rfl) ?_;simp only [List.size_toArray, List.length_cons, List.length_nil, Nat.zero_add, Nat.reduceAdd]
  have hHeld : ((fun W => Below w2.heap.size w2 W)) w2.drew := below_drew (Below.refl _ _)
  refine wpAnyH_take (i := 0) (v := ?_) rfl (by kernel_rfl) (by kernel_rfl) (by kernel_rfl) (fun _ _ _ h => h) (Or.inl ⟨by rfl, ?_⟩) (by assumption) ?_;rotate_left
  · (intro w hSw; (try dsimp only at hSw); go_split_ands; go_simp; try with_reducible rfl)
  try simp only [List.getElem_toArray, List.getElem_cons_succ, List.getElem_cons_zero, Act.put, List.setIfInBounds_toArray, List.set_cons_zero, List.set_cons_succ]
  refine wpAnyH_take (i := 1) (v := ?_) rfl (by kernel_rfl) (by kernel_rfl) (by kernel_rfl) (fun _ _ _ h => h) (Or.inl ⟨by rfl, ?_⟩) (by assumption) ?_;rotate_left
  · (intro w hSw; (try dsimp only at hSw); go_split_ands; go_simp; try with_reducible rfl)
  try simp only [List.getElem_toArray, List.getElem_cons_succ, List.getElem_cons_zero, Act.put, List.setIfInBounds_toArray, List.set_cons_zero, List.set_cons_succ]
  refine wpAnyH_take (i := 4) (v := ?_) rfl (by kernel_rfl) (by kernel_rfl) (by kernel_rfl) (fun _ _ _ h => h) (Or.inl ⟨by rfl, ?_⟩) (by assumption) ?_;rotate_left
  · (intro w hSw; (try dsimp only at hSw); go_split_ands; go_simp; try with_reducible rfl)
  try simp only [List.getElem_toArray, List.getElem_cons_succ, List.getElem_cons_zero, Act.put, List.setIfInBounds_toArray, List.set_cons_zero, List.set_cons_succ]
  refine wpAnyH_take (i := 5) (v := ?_) rfl (by kernel_rfl) (by kernel_rfl) (by kernel_rfl) (fun _ _ _ h => h) (Or.inl ⟨by rfl, ?_⟩) (by assumption) ?_;rotate_left
  · (intro w hSw; (try dsimp only at hSw); go_split_ands; go_simp; try with_reducible rfl)
  try simp only [List.getElem_toArray, List.getElem_cons_succ, List.getElem_cons_zero, Act.put, List.setIfInBounds_toArray, List.set_cons_zero, List.set_cons_succ]
  refine wpAnyH_ready (rs := [2]) (by kernel_rfl) (by simp) ?_;refine (AllReadyH.cons rfl (fun K hK => ?_) AllReadyH.nil);go_simp;refine (HN.out A1 c1 _ (Kd.C_below HE.out.1 hHeld) hc1).1.mono ?_
  rintro e w3 ⟨rfl, hb3⟩
  refine hK.out _ _ ?_ (fun hHeld => ?_)
  · exact hHeld.trans (hb3.mono hHeld.size)
  clear hK K hb3
  try simp only [List.getElem_toArray, List.getElem_cons_succ, List.getElem_cons_zero, Act.put, List.setIfInBounds_toArray, List.set_cons_zero, List.set_cons_succ]
  refine wpAnyH_take (i := 3) (v := ?_) rfl (by kernel_rfl) (by kernel_rfl) (by kernel_rfl) (fun _ _ _ h => h) (Or.inl ⟨by rfl, ?_⟩) (by assumption) ?_;rotate_left
  · (intro w hSw; (try dsimp only at hSw); go_split_ands; go_simp; try with_reducible rfl)
  try simp only [List.getElem_toArray, List.getElem_cons_succ, List.getElem_cons_zero, Act.put, List.setIfInBounds_toArray, List.set_cons_zero, List.set_cons_succ]
  refine wpAnyH_ready (rs := [6]) (by kernel_rfl) (by simp) ?_;refine (AllReadyH.cons rfl (fun K hK => ?_) AllReadyH.nil);go_simp;refine (HN.out A1 c1 _ (Kd.C_below HE.out.1 hHeld) hc1).2.mono ?_
  rintro e w4 ⟨rfl, hb4⟩
  refine hK.out _ _ ?_ (fun hHeld => ?_)
  · exact hHeld.trans (hb4.mono hHeld.size)
  clear hK K hb4
  try simp only [List.getElem_toArray, List.getElem_cons_succ, List.getElem_cons_zero, Act.put, List.setIfInBounds_toArray, List.set_cons_zero, List.set_cons_succ]
  refine wpAnyH_take (i := 7) (v := ?_) rfl (by kernel_rfl) (by kernel_rfl) (by kernel_rfl) (fun _ _ _ h => h) (Or.inl ⟨by rfl, ?_⟩) (by assumption) ?_;rotate_left
  · (intro w hSw; (try dsimp only at hSw); go_split_ands; go_simp; try with_reducible rfl)
  try simp only [List.getElem_toArray, List.getElem_cons_succ, List.getElem_cons_zero, Act.put, List.setIfInBounds_toArray, List.set_cons_zero, List.set_cons_succ]
  refine wpAnyH_take (i := 8) (v := ?_) rfl (by kernel_rfl) (by kernel_rfl) (by kernel_rfl) (fun _ _ _ h => h) (Or.inl ⟨by rfl, ?_⟩) (by assumption) ?_;rotate_left
  · (intro w hSw; (try dsimp only at hSw); go_split_ands; go_simp; try with_reducible rfl)
  try simp only [List.getElem_toArray, List.getElem_cons_succ, List.getElem_cons_zero, Act.put, List.setIfInBounds_toArray, List.set_cons_zero, List.set_cons_succ]
  refine wpAnyH_done (by kernel_rfl) ?_ _;refine lastPost_wp ?_
  have hB4 := HE.out.2.2.2.below hHeld HE.out.2.2.2.lt
  have hE4 := HE.out.2.1.below hHeld
  have hu4 := HE.out.2.2.1.then_below hHeld
  have hc0 := (hB4.cell 0 : _ = some (Value.int .i64 0))
  have hc1 := (hB4.cell 1 : _ = some (Value.int .i64 0))
  have hz0 := hB4.frozen 0
  have hz1 := hB4.frozen 1
  have HQ := Lib.hid (And.intro hB4 (And.intro hE4 hu4))
  clear hB4 hE4 hu4
  go_wp2_with fail
  have hB5 := (HQ.out.1.set_ 0 (.int .i64 (i64 m))).set_ 1 (.int .i64 (i64 m2))
  obtain ⟨hbA, _, hlt, hab⟩ := HX.out
  refine bodyPost_ret (results_cell_row (by rfl) _ _ w.heap.size 41 #[.int .i64 (i64 m), .int .i64 (i64 m2)] (0, 0) _ (by rfl) hB5 Tryz.underlying41 (by rfl) (by kernel_rfl)) rfl ?_
  have hu5 := fun (W : World) => ((Upd.refl W (· = w.heap.size)).setCell (p := ⟨w.heap.size, 0, none⟩) (.inl rfl) (.int .i64 (i64 m))).setCell (p := ⟨w.heap.size, 1, none⟩) (.inl rfl) (.int .i64 (i64 m2))
  exact ⟨rfl, HQ.out.2.1.upd (hu5 _) (fun e => by omega) (fun e => by omega), ((Upd.of_below hbA (· = g)).trans HQ.out.2.2).then_new ((hu5 _).mono fun k _ hk => .inr (by omega))⟩
set_option maxHeartbeats 1000000 in
theorem rfDone_any (h : RE w g ab B s) : Calls Tryz.prog 43 #[ptr g] w fun e w' => e = .returned (.int .i64 (if s.2 = true ∨ s.1.length ≠ 0 then 20 else 0)) ∧ Below w.heap.size w w' := by
  obtain ⟨xs, bl⟩ := s
  obtain ⟨i, h, e⟩ := h
  obtain ⟨A, c, hB, hc, hm, _⟩ := h.ex
  have hle := h.le
  have e : xs = B.drop i := e
  have hc0 : w.cell? ⟨g, 0, none⟩ = some (.slice A B.length c) := hB.cell 0
  have hc1 : w.cell? ⟨g, 1, none⟩ = some (.int .i64 i) := hB.cell 1
  have hc2 : w.cell? ⟨g, 2, none⟩ = some (.bool bl) := hB.cell 2
  have hl : xs.length = B.length - i := by rw [e, List.length_drop]
  clear h hB hm hc e
  cases bl with
  | true =>
    rw [if_pos (.inl rfl)]
    clear hl hle
    go_enter Tryz.func43, Tryz.ntmps43
    go_upto_region 1 with fail
    refine wp_region_held (S := (fun W => W.cell? ⟨g, 2, none⟩ = some (.bool true))) (by kernel_rfl) ?_;simp only [List.size_toArray, List.length_cons, List.length_nil, Nat.zero_add, Nat.reduceAdd]
    have hHeld : ((fun W => W.cell? ⟨g, 2, none⟩ = some (.bool true))) w.drew := hc2
    refine wpAnyH_take (i := 0) (v := ?_) rfl (by kernel_rfl) (by kernel_rfl) (by kernel_rfl) (fun _ _ _ h => h) (Or.inl ⟨by rfl, ?_⟩) (by assumption) ?_;rotate_left
    · (intro w hSw; (try dsimp only at hSw); go_split_ands; go_simp; try with_reducible rfl)
    try simp only [List.getElem_toArray, List.getElem_cons_succ, List.getElem_cons_zero, Act.put, List.setIfInBounds_toArray, List.set_cons_zero, List.set_cons_succ]
    refine wpAnyH_take (i := 1) (v := ?_) rfl (by kernel_rfl) (by kernel_rfl) (by kernel_rfl) (fun _ _ _ h => h) (Or.inl ⟨by rfl, ?_⟩) (by assumption) ?_;rotate_left
    · (intro w hSw; (try dsimp only at hSw); go_split_ands; go_simp; try with_reducible rfl)
    try simp only [List.getElem_toArray, List.getElem_cons_succ, List.getElem_cons_zero, Act.put, List.setIfInBounds_toArray, List.set_cons_zero, List.set_cons_succ]
    refine wpAnyH_take (i := 2) (v := ?_) rfl (by kernel_rfl) (by kernel_rfl) (by kernel_rfl) (fun _ _ _ h => h) (Or.inl ⟨by rfl, ?_⟩) (by assumption) ?_;rotate_left
    · (intro w hSw; (try dsimp only at hSw); go_split_ands; go_simp; try with_reducible rfl)
    try simp only [List.getElem_toArray, List.getElem_cons_succ, List.getElem_cons_zero, Act.put, List.setIfInBounds_toArray, List.set_cons_zero, List.set_cons_succ]
    refine wpAnyH_take (i := 3) (v := ?_) rfl (by kernel_rfl) (by kernel_rfl) (by kernel_rfl) (fun _ _ _ h => h) (Or.inl ⟨by rfl, ?_⟩) (by assumption) ?_;rotate_left
    · (intro w hSw; (try dsimp only at hSw); go_split_ands; go_simp; try with_reducible rfl)
    try simp only [List.getElem_toArray, List.getElem_cons_succ, List.getElem_cons_zero, Act.put, List.setIfInBounds_toArray, List.set_cons_zero, List.set_cons_succ]
    refine wpAnyH_take (i := 4) (v := ?_) rfl (by kernel_rfl) (by kernel_rfl) (by kernel_rfl) (fun _ _ _ h => h) (Or.inl ⟨by rfl, ?_⟩) (by assumption) ?_;rotate_left
    · (intro w hSw; (try dsimp only at hSw); go_split_ands; go_simp; try with_reducible rfl)
    try simp only [List.getElem_toArray, List.getElem_cons_succ, List.getElem_cons_zero, Act.put, List.setIfInBounds_toArray, List.set_cons_zero, List.set_cons_succ]
    refine wpAnyH_take (i := 5) (v := undef) rfl (by kernel_rfl) (by kernel_rfl) (by kernel_rfl) (fun _ _ _ h => h) (Or.inr ⟨by rfl, rfl⟩) (by assumption) ?_
    try simp only [List.getElem_toArray, List.getElem_cons_succ, List.getElem_cons_zero, Act.put, List.setIfInBounds_toArray, List.set_cons_zero, List.set_cons_succ]
    refine wpAnyH_take (i := 6) (v := undef) rfl (by kernel_rfl) (by kernel_rfl) (by kernel_rfl) (fun _ _ _ h => h) (Or.inr ⟨by rfl, rfl⟩) (by assumption) ?_
    try simp only [List.getElem_toArray, List.getElem_cons_succ, List.getElem_cons_zero, Act.put, List.setIfInBounds_toArray, List.set_cons_zero, List.set_cons_succ]
    refine wpAnyH_take (i := 7) (v := undef) rfl (by kernel_rfl) (by kernel_rfl) (by kernel_rfl) (fun _ _ _ h => h) (Or.inr ⟨by rfl, rfl⟩) (by assumption) ?_
    try simp only [List.getElem_toArray, List.getElem_cons_succ, List.getElem_cons_zero, Act.put, List.setIfInBounds_toArray, List.set_cons_zero, List.set_cons_succ]
    refine wpAnyH_take (i := 8) (v := undef) rfl (by kernel_rfl) (by kernel_rfl) (by kernel_rfl) (fun _ _ _ h => h) (Or.inr ⟨by rfl, rfl⟩) (by assumption) ?_
    try simp only [List.getElem_toArray, List.getElem_cons_succ, List.getElem_cons_zero, Act.put, List.setIfInBounds_toArray, List.set_cons_zero, List.set_cons_succ]
    refine wpAnyH_take (i := 9) (v := undef) rfl (by kernel_rfl) (by kernel_rfl) (by kernel_rfl) (fun _ _ _ h => h) (Or.inr ⟨by rfl, rfl⟩) (by assumption) ?_
    try simp only [List.getElem_toArray, List.getElem_cons_succ, List.getElem_cons_zero, Act.put, List.setIfInBounds_toArray, List.set_cons_zero, List.set_cons_succ]
    refine wpAnyH_take (i := 10) (v := undef) rfl (by kernel_rfl) (by kernel_rfl) (by kernel_rfl) (fun _ _ _ h => h) (Or.inr ⟨by rfl, rfl⟩) (by assumption) ?_
    try simp only [List.getElem_toArray, List.getElem_cons_succ, List.getElem_cons_zero, Act.put, List.setIfInBounds_toArray, List.set_cons_zero, List.set_cons_succ]
    refine wpAnyH_take (i := 11) (v := undef) rfl (by kernel_rfl) (by kernel_rfl) (by kernel_rfl) (fun _ _ _ h => h) (Or.inr ⟨by rfl, rfl⟩) (by assumption) ?_
    try simp only [List.getElem_toArray, List.getElem_cons_succ, List.getElem_cons_zero, Act.put, List.setIfInBounds_toArray, List.set_cons_zero, List.set_cons_succ]
    refine wpAnyH_take (i := 12) (v := undef) rfl (by kernel_rfl) (by kernel_rfl) (by kernel_rfl) (fun _ _ _ h => h) (Or.inr ⟨by rfl, rfl⟩) (by assumption) ?_
    try simp only [List.getElem_toArray, List.getElem_cons_succ, List.getElem_cons_zero, Act.put, List.setIfInBounds_toArray, List.set_cons_zero, List.set_cons_succ]
    refine wpAnyH_take (i := 13) (v := undef) rfl (by kernel_rfl) (by kernel_rfl) (by kernel_rfl) (fun _ _ _ h => h) (Or.inr ⟨by rfl, rfl⟩) (by assumption) ?_
    try simp only [List.getElem_toArray, List.getElem_cons_succ, List.getElem_cons_zero, Act.put, List.setIfInBounds_toArray, List.set_cons_zero, List.set_cons_succ]
    refine wpAnyH_take (i := 14) (v := undef) rfl (by kernel_rfl) (by kernel_rfl) (by kernel_rfl) (fun _ _ _ h => h) (Or.inr ⟨by rfl, rfl⟩) (by assumption) ?_
    try simp only [List.getElem_toArray, List.getElem_cons_succ, List.getElem_cons_zero, Act.put, List.setIfInBounds_toArray, List.set_cons_zero, List.set_cons_succ]
    refine wpAnyH_take (i := 15) (v := ?_) rfl (by kernel_rfl) (by kernel_rfl) (by kernel_rfl) (fun _ _ _ h => h) (Or.inl ⟨by rfl, ?_⟩) (by assumption) ?_;rotate_left
    · (intro w hSw; (try dsimp only at hSw); go_split_ands; go_simp; try with_reducible rfl)
    try simp only [List.getElem_toArray, List.getElem_cons_succ, List.getElem_cons_zero, Act.put, List.setIfInBounds_toArray, List.set_cons_zero, List.set_cons_succ]
    refine wpAnyH_done (by kernel_rfl) ?_ _
    go_wp2
    go_ret
    exact ⟨rfl, below_drew (Below.refl _ _)⟩
  | false =>
    by_cases hz : xs.length = 0
    · have d1 : decide ((i : Int) < (B.length : Int)) = false := decide_eq_false (by omega)
      have d2 : decide (i < B.length) = false := decide_eq_false (by omega)
      rw [if_neg (by simp only; simp [hz])]
      clear hl hle hz
      go_enter Tryz.func43, Tryz.ntmps43
      go_upto_region 1 with fail
      refine wp_region_held (S := (fun W => W.cell? ⟨g, 2, none⟩ = some (.bool false) ∧ W.cell? ⟨g, 0, none⟩ = some (.slice A B.length c) ∧ W.cell? ⟨g, 1, none⟩ = some (.int .i64 i))) (by kernel_rfl) ?_;simp only [List.size_toArray, List.length_cons, List.length_nil, Nat.zero_add, Nat.reduceAdd]
      have hHeld : ((fun W => W.cell? ⟨g, 2, none⟩ = some (.bool false) ∧ W.cell? ⟨g, 0, none⟩ = some (.slice A B.length c) ∧ W.cell? ⟨g, 1, none⟩ = some (.int .i64 i))) w.drew := ⟨hc2, hc0, hc1⟩
      refine wpAnyH_take (i := 0) (v := ?_) rfl (by kernel_rfl) (by kernel_rfl) (by kernel_rfl) (fun _ _ _ h => h) (Or.inl ⟨by rfl, ?_⟩) (by assumption) ?_;rotate_left
      · (intro w hSw; (try dsimp only at hSw); go_split_ands; go_simp; try with_reducible rfl)
      try simp only [List.getElem_toArray, List.getElem_cons_succ, List.getElem_cons_zero, Act.put, List.setIfInBounds_toArray, List.set_cons_zero, List.set_cons_succ]
      refine wpAnyH_take (i := 1) (v := ?_) rfl (by kernel_rfl) (by kernel_rfl) (by kernel_rfl) (fun _ _ _ h => h) (Or.inl ⟨by rfl, ?_⟩) (by assumption) ?_;rotate_left
      · (intro w hSw; (try dsimp only at hSw); go_split_ands; go_simp; try with_reducible rfl)
      try simp only [List.getElem_toArray, List.getElem_cons_succ, List.getElem_cons_zero, Act.put, List.setIfInBounds_toArray, List.set_cons_zero, List.set_cons_succ]
      refine wpAnyH_take (i := 2) (v := ?_) rfl (by kernel_rfl) (by kernel_rfl) (by kernel_rfl) (fun _ _ _ h => h) (Or.inl ⟨by rfl, ?_⟩) (by assumption) ?_;rotate_left
      · (intro w hSw; (try dsimp only at hSw); go_split_ands; go_simp; try with_reducible rfl)
      try simp only [List.getElem_toArray, List.getElem_cons_succ, List.getElem_cons_zero, Act.put, List.setIfInBounds_toArray, List.set_cons_zero, List.set_cons_succ]
      refine wpAnyH_take (i := 3) (v := ?_) rfl (by kernel_rfl) (by kernel_rfl) (by kernel_rfl) (fun _ _ _ h => h) (Or.inl ⟨by rfl, ?_⟩) (by assumption) ?_;rotate_left
      · (intro w hSw; (try dsimp only at hSw); go_split_ands; go_simp; try with_reducible rfl)
      try simp only [List.getElem_toArray, List.getElem_cons_succ, List.getElem_cons_zero, Act.put, List.setIfInBounds_toArray, List.set_cons_zero, List.set_cons_succ]
      refine wpAnyH_take (i := 4) (v := ?_) rfl (by kernel_rfl) (by kernel_rfl) (by kernel_rfl) (fun _ _ _ h => h) (Or.inl ⟨by rfl, ?_⟩) (by assumption) ?_;rotate_left
      · (intro w hSw; (try dsimp only at hSw); go_split_ands; go_simp; try with_reducible rfl)
      try simp only [List.getElem_toArray, List.getElem_cons_succ, List.getElem_cons_zero, Act.put, List.setIfInBounds_toArray, List.set_cons_zero, List.set_cons_succ]
      refine wpAnyH_take (i := 5) (v := ?_) rfl (by kernel_rfl) (by kernel_rfl) (by kernel_rfl) (fun _ _ _ h => h) (Or.inl ⟨by rfl, ?_⟩) (by assumption) ?_;rotate_left
      · (intro w hSw; (try dsimp only at hSw); go_split_ands; go_simp; try with_reducible rfl)
      try simp only [List.getElem_toArray, List.getElem_cons_succ, List.getElem_cons_zero, Act.put, List.setIfInBounds_toArray, List.set_cons_zero, List.set_cons_succ]
      refine wpAnyH_take (i := 6) (v := ?_) rfl (by kernel_rfl) (by kernel_rfl) (by kernel_rfl) (fun _ _ _ h => h) (Or.inl ⟨by rfl, ?_⟩) (by assumption) ?_;rotate_left
      · (intro w hSw; (try dsimp only at hSw); go_split_ands; go_simp; try with_reducible rfl)
      try simp only [List.getElem_toArray, List.getElem_cons_succ, List.getElem_cons_zero, Act.put, List.setIfInBounds_toArray, List.set_cons_zero, List.set_cons_succ]
      refine wpAnyH_take (i := 7) (v := ?_) rfl (by kernel_rfl) (by kernel_rfl) (by kernel_rfl) (fun _ _ _ h => h) (Or.inl ⟨by rfl, ?_⟩) (by assumption) ?_;rotate_left
      · (intro w hSw; (try dsimp only at hSw); go_split_ands; go_simp; try with_reducible rfl)
      try simp only [List.getElem_toArray, List.getElem_cons_succ, List.getElem_cons_zero, Act.put, List.setIfInBounds_toArray, List.set_cons_zero, List.set_cons_succ]
      refine wpAnyH_take (i := 8) (v := ?_) rfl (by kernel_rfl) (by kernel_rfl) (by kernel_rfl) (fun _ _ _ h => h) (Or.inl ⟨by rfl, ?_⟩) (by assumption) ?_;rotate_left
      · (intro w hSw; (try dsimp only at hSw); go_split_ands; go_simp; try with_reducible rfl)
      try simp only [List.getElem_toArray, List.getElem_cons_succ, List.getElem_cons_zero, Act.put, List.setIfInBounds_toArray, List.set_cons_zero, List.set_cons_succ]
      refine wpAnyH_take (i := 9) (v := ?_) rfl (by kernel_rfl) (by kernel_rfl) (by kernel_rfl) (fun _ _ _ h => h) (Or.inl ⟨by rfl, ?_⟩) (by assumption) ?_;rotate_left
      · (intro w hSw; (try dsimp only at hSw); go_split_ands; go_simp; try with_reducible rfl)
      try simp only [List.getElem_toArray, List.getElem_cons_succ, List.getElem_cons_zero, Act.put, List.setIfInBounds_toArray, List.set_cons_zero, List.set_cons_succ]
      refine wpAnyH_take (i := 10) (v := ?_) rfl (by kernel_rfl) (by kernel_rfl) (by kernel_rfl) (fun _ _ _ h => h) (Or.inl ⟨by rfl, ?_⟩) (by assumption) ?_;rotate_left
      · (intro w hSw; (try dsimp only at hSw); go_split_ands; go_simp; try with_reducible rfl)
      try simp only [List.getElem_toArray, List.getElem_cons_succ, List.getElem_cons_zero, Act.put, List.setIfInBounds_toArray, List.set_cons_zero, List.set_cons_succ]
      refine wpAnyH_take (i := 11) (v := ?_) rfl (by kernel_rfl) (by kernel_rfl) (by kernel_rfl) (fun _ _ _ h => h) (Or.inl ⟨by rfl, ?_⟩) (by assumption) ?_;rotate_left
      · (intro w hSw; (try dsimp only at hSw); go_split_ands; go_simp; try with_reducible rfl)
      try simp only [List.getElem_toArray, List.getElem_cons_succ, List.getElem_cons_zero, Act.put, List.setIfInBounds_toArray, List.set_cons_zero, List.set_cons_succ]
      refine wpAnyH_take (i := 12) (v := ?_) rfl (by kernel_rfl) (by kernel_rfl) (by kernel_rfl) (fun _ _ _ h => h) (Or.inl ⟨by rfl, ?_⟩) (by assumption) ?_;rotate_left
      · (intro w hSw; (try dsimp only at hSw); go_split_ands; go_simp; try with_reducible rfl)
      try simp only [List.getElem_toArray, List.getElem_cons_succ, List.getElem_cons_zero, Act.put, List.setIfInBounds_toArray, List.set_cons_zero, List.set_cons_succ]
      refine wpAnyH_take (i := 13) (v := ?_) rfl (by kernel_rfl) (by kernel_rfl) (by kernel_rfl) (fun _ _ _ h => h) (Or.inl ⟨by rfl, ?_⟩) (by assumption) ?_;rotate_left
      · (intro w hSw; (try dsimp only at hSw); go_split_ands; go_simp; try with_reducible rfl)
      try simp only [List.getElem_toArray, List.getElem_cons_succ, List.getElem_cons_zero, Act.put, List.setIfInBounds_toArray, List.set_cons_zero, List.set_cons_succ]
      refine wpAnyH_take (i := 14) (v := ?_) rfl (by kernel_rfl) (by kernel_rfl) (by kernel_rfl) (fun _ _ _ h => h) (Or.inl ⟨by rfl, ?_⟩) (by assumption) ?_;rotate_left
      · (intro w hSw; (try dsimp only at hSw); go_split_ands; go_simp; try with_reducible rfl)
      try simp only [List.getElem_toArray, List.getElem_cons_succ, List.getElem_cons_zero, Act.put, List.setIfInBounds_toArray, List.set_cons_zero, List.set_cons_succ]
      refine wpAnyH_take (i := 15) (v := ?_) rfl (by kernel_rfl) (by kernel_rfl) (by kernel_rfl) (fun _ _ _ h => h) (Or.inl ⟨by rfl, ?_⟩) (by assumption) ?_;rotate_left
      · (intro w hSw; (try dsimp only at hSw); go_split_ands; go_simp; try with_reducible rfl)
      try simp only [List.getElem_toArray, List.getElem_cons_succ, List.getElem_cons_zero, Act.put, List.setIfInBounds_toArray, List.set_cons_zero, List.set_cons_succ]
      refine wpAnyH_done (by kernel_rfl) ?_ _
      go_wp2
      go_ret
      exact ⟨rfl, below_drew (Below.refl _ _)⟩
    · have d1 : decide ((i : Int) < (B.length : Int)) = true := decide_eq_true (by omega)
      have d2 : decide (i < B.length) = true := decide_eq_true (by omega)
      rw [if_pos (.inr hz)]
      clear hl hle hz
      go_enter Tryz.func43, Tryz.ntmps43
      go_upto_region 1 with fail
      refine wp_region_held (S := (fun W => W.cell? ⟨g, 2, none⟩ = some (.bool false) ∧ W.cell? ⟨g, 0, none⟩ = some (.slice A B.length c) ∧ W.cell? ⟨g, 1, none⟩ = some (.int .i64 i))) (by kernel_rfl) ?_;simp only [List.size_toArray, List.length_cons, List.length_nil, Nat.zero_add, Nat.reduceAdd]
      have hHeld : ((fun W => W.cell? ⟨g, 2, none⟩ = some (.bool false) ∧ W.cell? ⟨g, 0, none⟩ = some (.slice A B.length c) ∧ W.cell? ⟨g, 1, none⟩ = some (.int .i64 i))) w.drew := ⟨hc2, hc0, hc1⟩
      refine wpAnyH_take (i := 0) (v := ?_) rfl (by kernel_rfl) (by kernel_rfl) (by kernel_rfl) (fun _ _ _ h => h) (Or.inl ⟨by rfl, ?_⟩) (by assumption) ?_;rotate_left
      · (intro w hSw; (try dsimp only at hSw); go_split_ands; go_simp; try with_reducible rfl)
      try simp only [List.getElem_toArray, List.getElem_cons_succ, List.getElem_cons_zero, Act.put, List.setIfInBounds_toArray, List.set_cons_zero, List.set_cons_succ]
      refine wpAnyH_take (i := 1) (v := ?_) rfl (by kernel_rfl) (by kernel_rfl) (by kernel_rfl) (fun _ _ _ h => h) (Or.inl ⟨by rfl, ?_⟩) (by assumption) ?_;rotate_left
      · (intro w hSw; (try dsimp only at hSw); go_split_ands; go_simp; try with_reducible rfl)
      try simp only [List.getElem_toArray, List.getElem_cons_succ, List.getElem_cons_zero, Act.put, List.setIfInBounds_toArray, List.set_cons_zero, List.set_cons_succ]
      refine wpAnyH_take (i := 2) (v := ?_) rfl (by kernel_rfl) (by kernel_rfl) (by kernel_rfl) (fun _ _ _ h => h) (Or.inl ⟨by rfl, ?_⟩) (by assumption) ?_;rotate_left
      · (intro w hSw; (try dsimp only at hSw); go_split_ands; go_simp; try with_reducible rfl)
      try simp only [List.getElem_toArray, List.getElem_cons_succ, List.getElem_cons_zero, Act.put, List.setIfInBounds_toArray, List.set_cons_zero, List.set_cons_succ]
      refine wpAnyH_take (i := 3) (v := ?_) rfl (by kernel_rfl) (by kernel_rfl) (by kernel_rfl) (fun _ _ _ h => h) (Or.inl ⟨by rfl, ?_⟩) (by assumption) ?_;rotate_left
      · (intro w hSw; (try dsimp only at hSw); go_split_ands; go_simp; try with_reducible rfl)
      try simp only [List.getElem_toArray, List.getElem_cons_succ, List.getElem_cons_zero, Act.put, List.setIfInBounds_toArray, List.set_cons_zero, List.set_cons_succ]
      refine wpAnyH_take (i := 4) (v := ?_) rfl (by kernel_rfl) (by kernel_rfl) (by kernel_rfl) (fun _ _ _ h => h) (Or.inl ⟨by rfl, ?_⟩) (by assumption) ?_;rotate_left
      · (intro w hSw; (try dsimp only at hSw); go_split_ands; go_simp; try with_reducible rfl)
      try simp only [List.getElem_toArray, List.getElem_cons_succ, List.getElem_cons_zero, Act.put, List.setIfInBounds_toArray, List.set_cons_zero, List.set_cons_succ]
      refine wpAnyH_take (i := 5) (v := ?_) rfl (by kernel_rfl) (by kernel_rfl) (by kernel_rfl) (fun _ _ _ h => h) (Or.inl ⟨by rfl, ?_⟩) (by assumption) ?_;rotate_left
      · (intro w hSw; (try dsimp only at hSw); go_split_ands; go_simp; try with_reducible rfl)
      try simp only [List.getElem_toArray, List.getElem_cons_succ, List.getElem_cons_zero, Act.put, List.setIfInBounds_toArray, List.set_cons_zero, List.set_cons_succ]
      refine wpAnyH_take (i := 6) (v := ?_) rfl (by kernel_rfl) (by kernel_rfl) (by kernel_rfl) (fun _ _ _ h => h) (Or.inl ⟨by rfl, ?_⟩) (by assumption) ?_;rotate_left
      · (intro w hSw; (try dsimp only at hSw); go_split_ands; go_simp; try with_reducible rfl)
      try simp only [List.getElem_toArray, List.getElem_cons_succ, List.getElem_cons_zero, Act.put, List.setIfInBounds_toArray, List.set_cons_zero, List.set_cons_succ]
      refine wpAnyH_take (i := 7) (v := ?_) rfl (by kernel_rfl) (by kernel_rfl) (by kernel_rfl) (fun _ _ _ h => h) (Or.inl ⟨by rfl, ?_⟩) (by assumption) ?_;rotate_left
      · (intro w hSw; (try dsimp only at hSw); go_split_ands; go_simp; try with_reducible rfl)
      try simp only [List.getElem_toArray, List.getElem_cons_succ, List.getElem_cons_zero, Act.put, List.setIfInBounds_toArray, List.set_cons_zero, List.set_cons_succ]
      refine wpAnyH_take (i := 8) (v := ?_) rfl (by kernel_rfl) (by kernel_rfl) (by kernel_rfl) (fun _ _ _ h => h) (Or.inl ⟨by rfl, ?_⟩) (by assumption) ?_;rotate_left
      · (intro w hSw; (try dsimp only at hSw); go_split_ands; go_simp; try with_reducible rfl)
      try simp only [List.getElem_toArray, List.getElem_cons_succ, List.getElem_cons_zero, Act.put, List.setIfInBounds_toArray, List.set_cons_zero, List.set_cons_succ]
      refine wpAnyH_take (i := 9) (v := ?_) rfl (by kernel_rfl) (by kernel_rfl) (by kernel_rfl) (fun _ _ _ h => h) (Or.inl ⟨by rfl, ?_⟩) (by assumption) ?_;rotate_left
      · (intro w hSw; (try dsimp only at hSw); go_split_ands; go_simp; try with_reducible rfl)
      try simp only [List.getElem_toArray, List.getElem_cons_succ, List.getElem_cons_zero, Act.put, List.setIfInBounds_toArray, List.set_cons_zero, List.set_cons_succ]
      refine wpAnyH_take (i := 10) (v := ?_) rfl (by kernel_rfl) (by kernel_rfl) (by kernel_rfl) (fun _ _ _ h => h) (Or.inl ⟨by rfl, ?_⟩) (by assumption) ?_;rotate_left
      · (intro w hSw; (try dsimp only at hSw); go_split_ands; go_simp; try with_reducible rfl)
      try simp only [List.getElem_toArray, List.getElem_cons_succ, List.getElem_cons_zero, Act.put, List.setIfInBounds_toArray, List.set_cons_zero, List.set_cons_succ]
      refine wpAnyH_take (i := 11) (v := ?_) rfl (by kernel_rfl) (by kernel_rfl) (by kernel_rfl) (fun _ _ _ h => h) (Or.inl ⟨by rfl, ?_⟩) (by assumption) ?_;rotate_left
      · (intro w hSw; (try dsimp only at hSw); go_split_ands; go_simp; try with_reducible rfl)
      try simp only [List.getElem_toArray, List.getElem_cons_succ, List.getElem_cons_zero, Act.put, List.setIfInBounds_toArray, List.set_cons_zero, List.set_cons_succ]
      refine wpAnyH_take (i := 12) (v := ?_) rfl (by kernel_rfl) (by kernel_rfl) (by kernel_rfl) (fun _ _ _ h => h) (Or.inl ⟨by rfl, ?_⟩) (by assumption) ?_;rotate_left
      · (intro w hSw; (try dsimp only at hSw); go_split_ands; go_simp; try with_reducible rfl)
      try simp only [List.getElem_toArray, List.getElem_cons_succ, List.getElem_cons_zero, Act.put, List.setIfInBounds_toArray, List.set_cons_zero, List.set_cons_succ]
      refine wpAnyH_take (i := 13) (v := ?_) rfl (by kernel_rfl) (by kernel_rfl) (by kernel_rfl) (fun _ _ _ h => h) (Or.inl ⟨by rfl, ?_⟩) (by assumption) ?_;rotate_left
      · (intro w hSw; (try dsimp only at hSw); go_split_ands; go_simp; try with_reducible rfl)
      try simp only [List.getElem_toArray, List.getElem_cons_succ, List.getElem_cons_zero, Act.put, List.setIfInBounds_toArray, List.set_cons_zero, List.set_cons_succ]
      refine wpAnyH_take (i := 14) (v := ?_) rfl (by kernel_rfl) (by kernel_rfl) (by kernel_rfl) (fun _ _ _ h => h) (Or.inl ⟨by rfl, ?_⟩) (by assumption) ?_;rotate_left
      · (intro w hSw; (try dsimp only at hSw); go_split_ands; go_simp; try with_reducible rfl)
      try simp only [List.getElem_toArray, List.getElem_cons_succ, List.getElem_cons_zero, Act.put, List.setIfInBounds_toArray, List.set_cons_zero, List.set_cons_succ]
      refine wpAnyH_take (i := 15) (v := ?_) rfl (by kernel_rfl) (by kernel_rfl) (by kernel_rfl) (fun _ _ _ h => h) (Or.inl ⟨by rfl, ?_⟩) (by assumption) ?_;rotate_left
      · (intro w hSw; (try dsimp only at hSw); go_split_ands; go_simp; try with_reducible rfl)
      try simp only [List.getElem_toArray, List.getElem_cons_succ, List.getElem_cons_zero, Act.put, List.setIfInBounds_toArray, List.set_cons_zero, List.set_cons_succ]
      refine wpAnyH_done (by kernel_rfl) ?_ _
      go_wp2
      go_ret
      exact ⟨rfl, below_drew (Below.refl _ _)⟩
set_option maxHeartbeats 1000000 in
theorem rfOpen_any (A : Option Addr) (c : Nat) (xs : List Int) (w : World) (hr : Kd.C (Kd.int .u8) w A xs.length xs) (hb : xs.length ≤ 1000000000) :
    Calls Tryz.prog 41 #[.slice A xs.length c] w fun e w' => ∃ g ab, e = .returned (ptr g) ∧ w.heap.size ≤ g ∧ w.heap.size ≤ ab ∧ RE w' g ab xs (xs, false) ∧ Below w.heap.size w w' := by
  have HR := Lib.hid (Kd.reads_of_C (enc := Value.int .u8) (d := (0 : Int)) (h1 := fun _ => rfl) hr)
  clear hr
  go_enter Tryz.func41, Tryz.ntmps41
  go_wp2_with (first | ((with_reducible refine gate_builtin (b := .append) (xs := #[.tmp 3, .tmp 4]) rfl ?_); at_builtin; refine stop_append rfl ?_))
  refine Lib.hid ?_;refine print_append_row (w0 := w) w.heap.size rfl (.tmp 3) (.tmp 4) 23 5 .u8 1 rfl Tryz.underlying23 infoB (by decide) (.slice (some ⟨w.heap.size, 0, none⟩) 0 0) [] xs A xs.length c rfl rfl (own_lit0 w (Nat.le_refl _)) ((readsInt_of.2 HR.out).below ((Below.refl _ _).alloc (Nat.le_refl _) _)) ((Below.refl _ _).alloc (Nat.le_refl _) _) (by simp) (by simp; omega) ?_;intro v1 w1 ho hb1 _ _
  simp only [List.nil_append] at ho
  have HO := Lib.hid (And.intro ho hb1)
  obtain ⟨A1, c1, rfl, _⟩ := own_reads ho
  clear ho hb1
  go_wp2_with fail
  go_ret
  obtain ⟨ho, hb1⟩ := HO.out
  obtain ⟨w2, hw2⟩ : ∃ w2, w1.alloc (.cells #[.slice A1 xs.length c1, .int .i64 0, .bool false] 111) = w2 := ⟨_, rfl⟩
  rw [hw2]
  have hb2 : Below w1.heap.size w1 w2 := hw2 ▸ (Below.refl _ _).alloc (Nat.le_refl _) _
  have hB2 : Blk w2 w1.heap.size 111 #[.slice A1 xs.length c1, .int .i64 ((0 : Nat) : Int), .bool false] := hw2 ▸ Blk.new w1 111 _
  have hE : ∃ ab, w.heap.size ≤ ab ∧ REyeIs w2 w1.heap.size ab xs 0 false := by
    obtain ⟨A0, c0, e0, hrd⟩ := own_reads ho
    injection e0 with e1 e2 e3
    subst e1 e3
    have hcm : c1 ≤ 9223372036854775807 ∧ (xs = [] ∨ xs.length ≤ c1) := by
      obtain ⟨_, h⟩ := ho
      rcases h with ⟨e, hn⟩ | ⟨g', cap, cur, e, h1, h2, h3, h4, _⟩
      · injection e with _ _ e
        exact ⟨by omega, .inl (List.eq_nil_of_length_eq_zero hn)⟩
      · injection e with _ _ e
        exact ⟨by rw [e]; simpa [maxLen] using h4, .inr (by omega)⟩
    by_cases hx : xs = []
    · subst hx
      exact ⟨w1.heap.size, hb1.size, .inr rfl, hB2.lt, by simp, A1, c1, hB2, by simp, hcm.1, F_zero _⟩
    · have hcc := hcm.2.resolve_left hx
      obtain ⟨ad, hA, hcell⟩ := hrd.2.2 (by have := List.length_pos_iff.2 hx; omega)
      subst hA
      have hlt : ad.block < w1.heap.size := by
        have := hcell 0 (List.length_pos_iff.2 hx)
        exact World.block_lt_of_cell? w1 _ this
      refine ⟨ad.block, (RowB.ge (v := .slice (some ad) xs.length c1) ho ad.block rfl).1, .inl (by omega), Nat.lt_of_lt_of_le hlt hb2.size, by omega, some ad, c1, hB2, hcc, hcm.1, ?_⟩
      intro W hW
      refine C_of_int ⟨hrd.1, hrd.2.1, fun hn => ⟨ad, rfl, fun j hj => ?_⟩⟩
      have hj' := (hrd.below hb2).2.2 hn
      obtain ⟨ad', e, h⟩ := hj'
      injection e with e
      subst e
      have hc := h j hj
      have hbl : (ad.add j).block = ad.block := by unfold Addr.add; split <;> rfl
      exact (World.cell?_of_block (w := w2) (hW _ hbl (World.block_lt_of_cell? w2 _ hc))).trans hc
  obtain ⟨ab, hab, hE⟩ := hE
  exact ⟨w1.heap.size, ab, rfl, hb1.size, hab, ⟨0, hE, rfl⟩, hb1.trans (hb2.mono hb1.size)⟩
end
end Go.Proofs.YtaedlmeaconflaaGreat.P
end
section
set_option linter.unusedVariables false
set_option linter.unusedSimpArgs false
namespace Go.Proofs.YtaedlmeaconflaaGreat.P
open Go.RowKit Go.Proofs.YtaedlmeaconflaaGreatW.PrintWords Go.Proofs.YtaedlmeaconflaaGreatW.PrintLast Go.Proofs.YtaedlmeaconflaaGreatW.PrintMore
section
variable {w w' : World} {g ab : Nat} {B : List Int} {s : Sight}
set_option maxHeartbeats 2000000 in
set_option maxRecDepth 100000 in
theorem rfStamps_any (h : RE w g ab B s) (hx : bytesOk s.1) (hBl : B.length ≤ 1000000000) : Calls Tryz.prog 84 #[ptr g] w fun e w' => ∃ v, e = .returned v ∧ RowS w' w.heap.size v (sStamps s).1 ∧ RE w' g ab B (sStamps s).2 ∧ Upd w w' (· = g) := by
  obtain ⟨i, hR, ei⟩ := h
  have hI := rfInt_any ⟨i, hR, ei⟩ hx
  have hG := hR.lt;have hA := hR.old;have hle := hR.le
  obtain ⟨A, c, hB, hc, hm, hF⟩ := hR.ex
  have hc1 : w.cell? ⟨g, 1, none⟩ = some (.int .i64 (i : Int)) := hB.cell 1
  have HG := Lib.hid (And.intro hG hA)
  by_cases hbad : s.2 = true ∨ s.1.length < 8
  · have hss : sStamps s = ([], (s.1, true)) := by
      unfold sStamps
      rw [if_pos]
      rcases hbad with k | k
      · exact .inl k
      · refine .inr ?_
        unfold stOk
        exact decide_eq_false (by omega)
    rw [sInt_bad hbad] at hI
    rw [hss]
    have HI := Lib.hid hI
    clear hI hB hF hR hbad hss hx ei hG hA
    go_enter Tryz.func84, Tryz.ntmps84
    go_wp2_with fail
    refine HI.out.mono ?_
    rintro e w2 ⟨rfl, hE, hu⟩
    have hb2 := hE.blind
    have HE := Lib.hid (And.intro hE hu)
    clear hE hu
    go_wp2
    go_ret
    exact ⟨_, rfl, rowS_nil _ _, HE.out⟩
  · obtain ⟨xs, bl⟩ := s
    have hl : 8 ≤ xs.length := by
      rcases Nat.lt_or_ge xs.length 8 with k | k
      · exact absurd (.inr k) hbad
      · exact k
    obtain rfl : bl = false := by
      cases bl with
      | true => exact absurd (.inl rfl) hbad
      | false => rfl
    have ei : xs = B.drop i := ei
    rw [sInt_ok hl] at hI
    have hxl : xs.length = B.length - i := by rw [ei, List.length_drop]
    obtain ⟨n, hn⟩ : ∃ n, i64 (numOf xs 8) = n := ⟨_, rfl⟩
    have hst : sStamps (xs, false) = if 0 ≤ n ∧ n ≤ ((xs.length - 8) / 16 : Nat) then (readSs n.toNat (xs.drop 8), (xs.drop (8 + 16 * n.toNat), false)) else ([], (xs, true)) := by
      unfold sStamps stOk
      simp only [hn]
      by_cases k : 0 ≤ n ∧ n ≤ ((xs.length - 8) / 16 : Nat)
      · rw [if_pos k, if_neg]
        rintro (h1 | h1)
        · cases h1
        · have := of_decide_eq_false h1; exact this ⟨hl, k⟩
      · rw [if_neg k, if_pos]
        exact .inr (decide_eq_false fun h1 => k h1.2)
    rw [hn] at hI
    obtain ⟨R, hRR⟩ : ∃ R, (if 0 ≤ n ∧ n ≤ ((xs.length - 8) / 16 : Nat) then (readSs n.toNat (xs.drop 8), (xs.drop (8 + 16 * n.toNat), false)) else ([], (xs, true))) = R := ⟨_, rfl⟩
    rw [hst, hRR]
    have HRR := Lib.hid hRR
    clear hRR
    have HI := Lib.hid (And.intro hI (And.intro hx (And.intro ei (And.intro hle hl))))
    clear hI hB hF hR hbad hst hx ei hG hA hle
    go_enter Tryz.func84, Tryz.ntmps84
    go_wp2_with fail
    refine HI.out.1.mono ?_
    rintro e w2 ⟨rfl, hE, hu⟩
    have hb2 := hE.blind
    obtain ⟨i', hR2, e2⟩ := hE
    have e2 : xs.drop 8 = B.drop i' := e2
    obtain ⟨A2, c2, hB2, hcc2, hmm2, hF2⟩ := hR2.ex
    have d0 : w2.cell? ⟨g, 0, none⟩ = some (.slice A2 B.length c2) := hB2.cell 0
    have d1 : w2.cell? ⟨g, 1, none⟩ = some (.int .i64 (i' : Int)) := hB2.cell 1
    have z1 := hB2.frozen 1
    have z2 := hB2.frozen 2
    have hle2 := hR2.le
    have hm2 : B.length - i' = xs.length - 8 := by
      have := congrArg List.length e2
      rw [List.length_drop, List.length_drop] at this
      omega
    have q1 : IntKind.i64.wrap ((B.length : Int) - i') = ((xs.length - 8 : Nat) : Int) := by rw [Go.IntWalk.i64_in _ (by omega)]; omega
    have HE := Lib.hid (And.intro hR2 hu)
    have HB2 := Lib.hid hB2
    have HF := Lib.hid (And.intro hcc2 (And.intro hmm2 hF2))
    have HII := Lib.hid (And.intro HI.out.2.2.1 HI.out.2.2.2.1)
    have HX2 := Lib.hid e2
    clear hR2 hu hB2 hcc2 hmm2 hF2 e2
    obtain ⟨m, hm⟩ : ∃ m, xs.length - 8 = m := ⟨_, rfl⟩
    rw [hm] at hm2 q1
    have HM := Lib.hid (And.intro hm hm2)
    clear hm2
    by_cases hn0 : n < 0
    case pos =>
      have HRC := Lib.hid (HRR.out.symm.trans (if_neg (by omega)))
      have k0 : decide (n < 0) = true := decide_eq_true hn0
      go_upto_region 5 with fail
      refine wp_region_held (S := (fun W => W.cell? ⟨g, 0, none⟩ = some (.slice A2 B.length c2) ∧ W.cell? ⟨g, 1, none⟩ = some (.int .i64 (i' : Int)))) (by kernel_rfl) ?_;simp only [List.size_toArray, List.length_cons, List.length_nil, Nat.zero_add, Nat.reduceAdd]
      have hHeld : ((fun W => W.cell? ⟨g, 0, none⟩ = some (.slice A2 B.length c2) ∧ W.cell? ⟨g, 1, none⟩ = some (.int .i64 (i' : Int)))) w2.drew := ⟨d0, d1⟩
      refine wpAnyH_take (i := 0) (v := ?_) rfl (by kernel_rfl) (by kernel_rfl) (by kernel_rfl) (fun _ _ _ h => h) (Or.inl ⟨by rfl, ?_⟩) (by assumption) ?_;rotate_left
      · (intro w hSw; (try dsimp only at hSw); go_split_ands; go_simp; try with_reducible rfl)
      try simp only [List.getElem_toArray, List.getElem_cons_succ, List.getElem_cons_zero, Act.put, List.setIfInBounds_toArray, List.set_cons_zero, List.set_cons_succ]
      refine wpAnyH_take (i := 1) (v := ?_) rfl (by kernel_rfl) (by kernel_rfl) (by kernel_rfl) (fun _ _ _ h => h) (Or.inl ⟨by rfl, ?_⟩) (by assumption) ?_;rotate_left
      · (intro w hSw; (try dsimp only at hSw); go_split_ands; go_simp; try with_reducible rfl)
      try simp only [List.getElem_toArray, List.getElem_cons_succ, List.getElem_cons_zero, Act.put, List.setIfInBounds_toArray, List.set_cons_zero, List.set_cons_succ]
      refine wpAnyH_take (i := 2) (v := ?_) rfl (by kernel_rfl) (by kernel_rfl) (by kernel_rfl) (fun _ _ _ h => h) (Or.inl ⟨by rfl, ?_⟩) (by assumption) ?_;rotate_left
      · (intro w hSw; (try dsimp only at hSw); go_split_ands; go_simp; try with_reducible rfl)
      try simp only [List.getElem_toArray, List.getElem_cons_succ, List.getElem_cons_zero, Act.put, List.setIfInBounds_toArray, List.set_cons_zero, List.set_cons_succ]
      refine wpAnyH_take (i := 3) (v := undef) rfl (by kernel_rfl) (by kernel_rfl) (by kernel_rfl) (fun _ _ _ h => h) (Or.inr ⟨by rfl, rfl⟩) (by assumption) ?_
      try simp only [List.getElem_toArray, List.getElem_cons_succ, List.getElem_cons_zero, Act.put, List.setIfInBounds_toArray, List.set_cons_zero, List.set_cons_succ]
      refine wpAnyH_take (i := 4) (v := undef) rfl (by kernel_rfl) (by kernel_rfl) (by kernel_rfl) (fun _ _ _ h => h) (Or.inr ⟨by rfl, rfl⟩) (by assumption) ?_
      try simp only [List.getElem_toArray, List.getElem_cons_succ, List.getElem_cons_zero, Act.put, List.setIfInBounds_toArray, List.set_cons_zero, List.set_cons_succ]
      refine wpAnyH_take (i := 5) (v := undef) rfl (by kernel_rfl) (by kernel_rfl) (by kernel_rfl) (fun _ _ _ h => h) (Or.inr ⟨by rfl, rfl⟩) (by assumption) ?_
      try simp only [List.getElem_toArray, List.getElem_cons_succ, List.getElem_cons_zero, Act.put, List.setIfInBounds_toArray, List.set_cons_zero, List.set_cons_succ]
      refine wpAnyH_take (i := 6) (v := undef) rfl (by kernel_rfl) (by kernel_rfl) (by kernel_rfl) (fun _ _ _ h => h) (Or.inr ⟨by rfl, rfl⟩) (by assumption) ?_
      try simp only [List.getElem_toArray, List.getElem_cons_succ, List.getElem_cons_zero, Act.put, List.setIfInBounds_toArray, List.set_cons_zero, List.set_cons_succ]
      refine wpAnyH_take (i := 7) (v := undef) rfl (by kernel_rfl) (by kernel_rfl) (by kernel_rfl) (fun _ _ _ h => h) (Or.inr ⟨by rfl, rfl⟩) (by assumption) ?_
      try simp only [List.getElem_toArray, List.getElem_cons_succ, List.getElem_cons_zero, Act.put, List.setIfInBounds_toArray, List.set_cons_zero, List.set_cons_succ]
      refine wpAnyH_take (i := 8) (v := undef) rfl (by kernel_rfl) (by kernel_rfl) (by kernel_rfl) (fun _ _ _ h => h) (Or.inr ⟨by rfl, rfl⟩) (by assumption) ?_
      try simp only [List.getElem_toArray, List.getElem_cons_succ, List.getElem_cons_zero, Act.put, List.setIfInBounds_toArray, List.set_cons_zero, List.set_cons_succ]
      refine wpAnyH_take (i := 9) (v := undef) rfl (by kernel_rfl) (by kernel_rfl) (by kernel_rfl) (fun _ _ _ h => h) (Or.inr ⟨by rfl, rfl⟩) (by assumption) ?_
      try simp only [List.getElem_toArray, List.getElem_cons_succ, List.getElem_cons_zero, Act.put, List.setIfInBounds_toArray, List.set_cons_zero, List.set_cons_succ]
      refine wpAnyH_take (i := 10) (v := undef) rfl (by kernel_rfl) (by kernel_rfl) (by kernel_rfl) (fun _ _ _ h => h) (Or.inr ⟨by rfl, rfl⟩) (by assumption) ?_
      try simp only [List.getElem_toArray, List.getElem_cons_succ, List.getElem_cons_zero, Act.put, List.setIfInBounds_toArray, List.set_cons_zero, List.set_cons_succ]
      refine wpAnyH_take (i := 11) (v := undef) rfl (by kernel_rfl) (by kernel_rfl) (by kernel_rfl) (fun _ _ _ h => h) (Or.inr ⟨by rfl, rfl⟩) (by assumption) ?_
      try simp only [List.getElem_toArray, List.getElem_cons_succ, List.getElem_cons_zero, Act.put, List.setIfInBounds_toArray, List.set_cons_zero, List.set_cons_succ]
      refine wpAnyH_take (i := 12) (v := undef) rfl (by kernel_rfl) (by kernel_rfl) (by kernel_rfl) (fun _ _ _ h => h) (Or.inr ⟨by rfl, rfl⟩) (by assumption) ?_
      try simp only [List.getElem_toArray, List.getElem_cons_succ, List.getElem_cons_zero, Act.put, List.setIfInBounds_toArray, List.set_cons_zero, List.set_cons_succ]
      refine wpAnyH_take (i := 13) (v := undef) rfl (by kernel_rfl) (by kernel_rfl) (by kernel_rfl) (fun _ _ _ h => h) (Or.inr ⟨by rfl, rfl⟩) (by assumption) ?_
      try simp only [List.getElem_toArray, List.getElem_cons_succ, List.getElem_cons_zero, Act.put, List.setIfInBounds_toArray, List.set_cons_zero, List.set_cons_succ]
      refine wpAnyH_take (i := 14) (v := undef) rfl (by kernel_rfl) (by kernel_rfl) (by kernel_rfl) (fun _ _ _ h => h) (Or.inr ⟨by rfl, rfl⟩) (by assumption) ?_
      try simp only [List.getElem_toArray, List.getElem_cons_succ, List.getElem_cons_zero, Act.put, List.setIfInBounds_toArray, List.set_cons_zero, List.set_cons_succ]
      refine wpAnyH_take (i := 15) (v := undef) rfl (by kernel_rfl) (by kernel_rfl) (by kernel_rfl) (fun _ _ _ h => h) (Or.inr ⟨by rfl, rfl⟩) (by assumption) ?_
      try simp only [List.getElem_toArray, List.getElem_cons_succ, List.getElem_cons_zero, Act.put, List.setIfInBounds_toArray, List.set_cons_zero, List.set_cons_succ]
      refine wpAnyH_take (i := 16) (v := ?_) rfl (by kernel_rfl) (by kernel_rfl) (by kernel_rfl) (fun _ _ _ h => h) (Or.inl ⟨by rfl, ?_⟩) (by assumption) ?_;rotate_left
      · (intro w hSw; (try dsimp only at hSw); go_split_ands; go_simp; try with_reducible rfl)
      try simp only [List.getElem_toArray, List.getElem_cons_succ, List.getElem_cons_zero, Act.put, List.setIfInBounds_toArray, List.set_cons_zero, List.set_cons_succ]
      refine wpAnyH_done (by kernel_rfl) ?_ _
      go_wp2
      go_ret
      have hB3 := (HB2.out.drew.set_ 1 (.int .i64 (i : Int))).set_ 2 (.bool true)
      have hu3 := (((Upd.refl w2 (· = g)).drew).setCell (p := ⟨g, 1, none⟩) (.inl rfl) (.int .i64 (i : Int))).setCell (p := ⟨g, 2, none⟩) (.inl rfl) (.bool true)
      refine ⟨_, rfl, by rw [HRC.out]; exact rowS_nil _ _, ?_, HE.out.2.trans hu3⟩
      rw [HRC.out]
      exact ⟨i, REyeIs.turn (j := i) (bl' := true) HE.out.1 hu3 hB3 HII.out.2 HF.out.1 HF.out.2.1 HF.out.2.2, HII.out.1⟩
    case neg =>
      have k0 : decide (n < 0) = false := decide_eq_false hn0
      have q2 : Int.tdiv (m : Int) 16 = ((m / 16 : Nat) : Int) := by
        rw [Int.tdiv_eq_ediv_of_nonneg (by omega)]; omega
      obtain ⟨p, hp⟩ : ∃ p : Nat, m / 16 = p := ⟨_, rfl⟩
      have q3 : IntKind.i64.wrap ((m : Int) / 16) = (p : Int) := by rw [Go.IntWalk.i64_in _ (by omega)]; omega
      by_cases hnm : n ≤ ((m / 16 : Nat) : Int)
      case neg =>
        have HRC := Lib.hid (HRR.out.symm.trans (if_neg (by rw [hm]; omega)))
        have k1 : decide ((p : Int) < n) = true := decide_eq_true (by omega)
        clear hp
        go_upto_region 5 with fail
        refine wp_region_held (S := (fun W => W.cell? ⟨g, 0, none⟩ = some (.slice A2 B.length c2) ∧ W.cell? ⟨g, 1, none⟩ = some (.int .i64 (i' : Int)))) (by kernel_rfl) ?_;simp only [List.size_toArray, List.length_cons, List.length_nil, Nat.zero_add, Nat.reduceAdd]
        have hHeld : ((fun W => W.cell? ⟨g, 0, none⟩ = some (.slice A2 B.length c2) ∧ W.cell? ⟨g, 1, none⟩ = some (.int .i64 (i' : Int)))) w2.drew := ⟨d0, d1⟩
        refine wpAnyH_take (i := 0) (v := ?_) rfl (by kernel_rfl) (by kernel_rfl) (by kernel_rfl) (fun _ _ _ h => h) (Or.inl ⟨by rfl, ?_⟩) (by assumption) ?_;rotate_left
        · (intro w hSw; (try dsimp only at hSw); go_split_ands; go_simp; try with_reducible rfl)
        try simp only [List.getElem_toArray, List.getElem_cons_succ, List.getElem_cons_zero, Act.put, List.setIfInBounds_toArray, List.set_cons_zero, List.set_cons_succ]
        refine wpAnyH_take (i := 1) (v := ?_) rfl (by kernel_rfl) (by kernel_rfl) (by kernel_rfl) (fun _ _ _ h => h) (Or.inl ⟨by rfl, ?_⟩) (by assumption) ?_;rotate_left
        · (intro w hSw; (try dsimp only at hSw); go_split_ands; go_simp; try with_reducible rfl)
        try simp only [List.getElem_toArray, List.getElem_cons_succ, List.getElem_cons_zero, Act.put, List.setIfInBounds_toArray, List.set_cons_zero, List.set_cons_succ]
        refine wpAnyH_take (i := 2) (v := ?_) rfl (by kernel_rfl) (by kernel_rfl) (by kernel_rfl) (fun _ _ _ h => h) (Or.inl ⟨by rfl, ?_⟩) (by assumption) ?_;rotate_left
        · (intro w hSw; (try dsimp only at hSw); go_split_ands; go_simp; try with_reducible rfl)
        try simp only [List.getElem_toArray, List.getElem_cons_succ, List.getElem_cons_zero, Act.put, List.setIfInBounds_toArray, List.set_cons_zero, List.set_cons_succ]
        refine wpAnyH_take (i := 3) (v := ?_) rfl (by kernel_rfl) (by kernel_rfl) (by kernel_rfl) (fun _ _ _ h => h) (Or.inl ⟨by rfl, ?_⟩) (by assumption) ?_;rotate_left
        · (intro w hSw; (try dsimp only at hSw); go_split_ands; go_simp; try with_reducible rfl)
        try simp only [List.getElem_toArray, List.getElem_cons_succ, List.getElem_cons_zero, Act.put, List.setIfInBounds_toArray, List.set_cons_zero, List.set_cons_succ]
        refine wpAnyH_take (i := 4) (v := ?_) rfl (by kernel_rfl) (by kernel_rfl) (by kernel_rfl) (fun _ _ _ h => h) (Or.inl ⟨by rfl, ?_⟩) (by assumption) ?_;rotate_left
        · (intro w hSw; (try dsimp only at hSw); go_split_ands; go_simp; try with_reducible rfl)
        try simp only [List.getElem_toArray, List.getElem_cons_succ, List.getElem_cons_zero, Act.put, List.setIfInBounds_toArray, List.set_cons_zero, List.set_cons_succ]
        refine wpAnyH_take (i := 5) (v := ?_) rfl (by kernel_rfl) (by kernel_rfl) (by kernel_rfl) (fun _ _ _ h => h) (Or.inl ⟨by rfl, ?_⟩) (by assumption) ?_;rotate_left
        · (intro w hSw; (try dsimp only at hSw); go_split_ands; go_simp; try with_reducible rfl)
        try simp only [List.getElem_toArray, List.getElem_cons_succ, List.getElem_cons_zero, Act.put, List.setIfInBounds_toArray, List.set_cons_zero, List.set_cons_succ]
        refine wpAnyH_take (i := 6) (v := ?_) rfl (by kernel_rfl) (by kernel_rfl) (by kernel_rfl) (fun _ _ _ h => h) (Or.inl ⟨by rfl, ?_⟩) (by assumption) ?_;rotate_left
        · (intro w hSw; (try dsimp only at hSw); go_split_ands; go_simp; try with_reducible rfl)
        try simp only [List.getElem_toArray, List.getElem_cons_succ, List.getElem_cons_zero, Act.put, List.setIfInBounds_toArray, List.set_cons_zero, List.set_cons_succ]
        refine wpAnyH_take (i := 7) (v := ?_) rfl (by kernel_rfl) (by kernel_rfl) (by kernel_rfl) (fun _ _ _ h => h) (Or.inl ⟨by rfl, ?_⟩) (by assumption) ?_;rotate_left
        · (intro w hSw; (try dsimp only at hSw); go_split_ands; go_simp; try with_reducible rfl)
        try simp only [List.getElem_toArray, List.getElem_cons_succ, List.getElem_cons_zero, Act.put, List.setIfInBounds_toArray, List.set_cons_zero, List.set_cons_succ]
        refine wpAnyH_take (i := 8) (v := ?_) rfl (by kernel_rfl) (by kernel_rfl) (by kernel_rfl) (fun _ _ _ h => h) (Or.inl ⟨by rfl, ?_⟩) (by assumption) ?_;rotate_left
        · (intro w hSw; (try dsimp only at hSw); go_split_ands; go_simp; try with_reducible rfl)
        try simp only [List.getElem_toArray, List.getElem_cons_succ, List.getElem_cons_zero, Act.put, List.setIfInBounds_toArray, List.set_cons_zero, List.set_cons_succ]
        refine wpAnyH_take (i := 9) (v := ?_) rfl (by kernel_rfl) (by kernel_rfl) (by kernel_rfl) (fun _ _ _ h => h) (Or.inl ⟨by rfl, ?_⟩) (by assumption) ?_;rotate_left
        · (intro w hSw; (try dsimp only at hSw); go_split_ands; go_simp; try with_reducible rfl)
        try simp only [List.getElem_toArray, List.getElem_cons_succ, List.getElem_cons_zero, Act.put, List.setIfInBounds_toArray, List.set_cons_zero, List.set_cons_succ]
        refine wpAnyH_take (i := 10) (v := ?_) rfl (by kernel_rfl) (by kernel_rfl) (by kernel_rfl) (fun _ _ _ h => h) (Or.inl ⟨by rfl, ?_⟩) (by assumption) ?_;rotate_left
        · (intro w hSw; (try dsimp only at hSw); go_split_ands; go_simp; try with_reducible rfl)
        try simp only [List.getElem_toArray, List.getElem_cons_succ, List.getElem_cons_zero, Act.put, List.setIfInBounds_toArray, List.set_cons_zero, List.set_cons_succ]
        refine wpAnyH_take (i := 11) (v := ?_) rfl (by kernel_rfl) (by kernel_rfl) (by kernel_rfl) (fun _ _ _ h => h) (Or.inl ⟨by rfl, ?_⟩) (by assumption) ?_;rotate_left
        · (intro w hSw; (try dsimp only at hSw); go_split_ands; go_simp; try with_reducible rfl)
        try simp only [List.getElem_toArray, List.getElem_cons_succ, List.getElem_cons_zero, Act.put, List.setIfInBounds_toArray, List.set_cons_zero, List.set_cons_succ]
        refine wpAnyH_take (i := 12) (v := ?_) rfl (by kernel_rfl) (by kernel_rfl) (by kernel_rfl) (fun _ _ _ h => h) (Or.inl ⟨by rfl, ?_⟩) (by assumption) ?_;rotate_left
        · (intro w hSw; (try dsimp only at hSw); go_split_ands; go_simp; try with_reducible rfl)
        try simp only [List.getElem_toArray, List.getElem_cons_succ, List.getElem_cons_zero, Act.put, List.setIfInBounds_toArray, List.set_cons_zero, List.set_cons_succ]
        refine wpAnyH_take (i := 13) (v := ?_) rfl (by kernel_rfl) (by kernel_rfl) (by kernel_rfl) (fun _ _ _ h => h) (Or.inl ⟨by rfl, ?_⟩) (by assumption) ?_;rotate_left
        · (intro w hSw; (try dsimp only at hSw); go_split_ands; go_simp; try with_reducible rfl)
        try simp only [List.getElem_toArray, List.getElem_cons_succ, List.getElem_cons_zero, Act.put, List.setIfInBounds_toArray, List.set_cons_zero, List.set_cons_succ]
        refine wpAnyH_take (i := 14) (v := ?_) rfl (by kernel_rfl) (by kernel_rfl) (by kernel_rfl) (fun _ _ _ h => h) (Or.inl ⟨by rfl, ?_⟩) (by assumption) ?_;rotate_left
        · (intro w hSw; (try dsimp only at hSw); go_split_ands; go_simp; try with_reducible rfl)
        try simp only [List.getElem_toArray, List.getElem_cons_succ, List.getElem_cons_zero, Act.put, List.setIfInBounds_toArray, List.set_cons_zero, List.set_cons_succ]
        refine wpAnyH_take (i := 15) (v := ?_) rfl (by kernel_rfl) (by kernel_rfl) (by kernel_rfl) (fun _ _ _ h => h) (Or.inl ⟨by rfl, ?_⟩) (by assumption) ?_;rotate_left
        · (intro w hSw; (try dsimp only at hSw); go_split_ands; go_simp; try with_reducible rfl)
        try simp only [List.getElem_toArray, List.getElem_cons_succ, List.getElem_cons_zero, Act.put, List.setIfInBounds_toArray, List.set_cons_zero, List.set_cons_succ]
        refine wpAnyH_take (i := 16) (v := ?_) rfl (by kernel_rfl) (by kernel_rfl) (by kernel_rfl) (fun _ _ _ h => h) (Or.inl ⟨by rfl, ?_⟩) (by assumption) ?_;rotate_left
        · (intro w hSw; (try dsimp only at hSw); go_split_ands; go_simp; try with_reducible rfl)
        try simp only [List.getElem_toArray, List.getElem_cons_succ, List.getElem_cons_zero, Act.put, List.setIfInBounds_toArray, List.set_cons_zero, List.set_cons_succ]
        refine wpAnyH_done (by kernel_rfl) ?_ _;clear q1 q2 q3
        go_wp2
        go_ret
        have hB3 := (HB2.out.drew.set_ 1 (.int .i64 (i : Int))).set_ 2 (.bool true)
        have hu3 := (((Upd.refl w2 (· = g)).drew).setCell (p := ⟨g, 1, none⟩) (.inl rfl) (.int .i64 (i : Int))).setCell (p := ⟨g, 2, none⟩) (.inl rfl) (.bool true)
        refine ⟨_, rfl, by rw [HRC.out]; exact rowS_nil _ _, ?_, HE.out.2.trans hu3⟩
        rw [HRC.out]
        exact ⟨i, REyeIs.turn (j := i) (bl' := true) HE.out.1 hu3 hB3 HII.out.2 HF.out.1 HF.out.2.1 HF.out.2.2, HII.out.1⟩
      case pos =>
        have k1 : decide ((p : Int) < n) = false := decide_eq_false (by omega)
        have HRC := Lib.hid (HRR.out.symm.trans (if_pos (by rw [hm]; omega)))
        obtain ⟨N, rfl⟩ : ∃ N : Nat, n = (N : Int) := ⟨n.toNat, by omega⟩
        rw [Int.toNat_natCast] at HRC
        have HL := Lib.hid (show 8 + 16 * N ≤ xs.length by omega)
        have hNs : N ≤ 100000000 := by omega
        have k2 : decide (p < N) = false := decide_eq_false (by omega)
        clear hp
        go_upto_region 5 with fail
        refine wp_region_held (S := (fun W => W.cell? ⟨g, 0, none⟩ = some (.slice A2 B.length c2) ∧ W.cell? ⟨g, 1, none⟩ = some (.int .i64 (i' : Int)))) (by kernel_rfl) ?_;simp only [List.size_toArray, List.length_cons, List.length_nil, Nat.zero_add, Nat.reduceAdd]
        have hHeld : ((fun W => W.cell? ⟨g, 0, none⟩ = some (.slice A2 B.length c2) ∧ W.cell? ⟨g, 1, none⟩ = some (.int .i64 (i' : Int)))) w2.drew := ⟨d0, d1⟩
        refine wpAnyH_take (i := 0) (v := ?_) rfl (by kernel_rfl) (by kernel_rfl) (by kernel_rfl) (fun _ _ _ h => h) (Or.inl ⟨by rfl, ?_⟩) (by assumption) ?_;rotate_left
        · (intro w hSw; (try dsimp only at hSw); go_split_ands; go_simp; try with_reducible rfl)
        try simp only [List.getElem_toArray, List.getElem_cons_succ, List.getElem_cons_zero, Act.put, List.setIfInBounds_toArray, List.set_cons_zero, List.set_cons_succ]
        refine wpAnyH_take (i := 1) (v := ?_) rfl (by kernel_rfl) (by kernel_rfl) (by kernel_rfl) (fun _ _ _ h => h) (Or.inl ⟨by rfl, ?_⟩) (by assumption) ?_;rotate_left
        · (intro w hSw; (try dsimp only at hSw); go_split_ands; go_simp; try with_reducible rfl)
        try simp only [List.getElem_toArray, List.getElem_cons_succ, List.getElem_cons_zero, Act.put, List.setIfInBounds_toArray, List.set_cons_zero, List.set_cons_succ]
        refine wpAnyH_take (i := 2) (v := ?_) rfl (by kernel_rfl) (by kernel_rfl) (by kernel_rfl) (fun _ _ _ h => h) (Or.inl ⟨by rfl, ?_⟩) (by assumption) ?_;rotate_left
        · (intro w hSw; (try dsimp only at hSw); go_split_ands; go_simp; try with_reducible rfl)
        try simp only [List.getElem_toArray, List.getElem_cons_succ, List.getElem_cons_zero, Act.put, List.setIfInBounds_toArray, List.set_cons_zero, List.set_cons_succ]
        refine wpAnyH_take (i := 3) (v := ?_) rfl (by kernel_rfl) (by kernel_rfl) (by kernel_rfl) (fun _ _ _ h => h) (Or.inl ⟨by rfl, ?_⟩) (by assumption) ?_;rotate_left
        · (intro w hSw; (try dsimp only at hSw); go_split_ands; go_simp; try with_reducible rfl)
        try simp only [List.getElem_toArray, List.getElem_cons_succ, List.getElem_cons_zero, Act.put, List.setIfInBounds_toArray, List.set_cons_zero, List.set_cons_succ]
        refine wpAnyH_take (i := 4) (v := ?_) rfl (by kernel_rfl) (by kernel_rfl) (by kernel_rfl) (fun _ _ _ h => h) (Or.inl ⟨by rfl, ?_⟩) (by assumption) ?_;rotate_left
        · (intro w hSw; (try dsimp only at hSw); go_split_ands; go_simp; try with_reducible rfl)
        try simp only [List.getElem_toArray, List.getElem_cons_succ, List.getElem_cons_zero, Act.put, List.setIfInBounds_toArray, List.set_cons_zero, List.set_cons_succ]
        refine wpAnyH_take (i := 5) (v := ?_) rfl (by kernel_rfl) (by kernel_rfl) (by kernel_rfl) (fun _ _ _ h => h) (Or.inl ⟨by rfl, ?_⟩) (by assumption) ?_;rotate_left
        · (intro w hSw; (try dsimp only at hSw); go_split_ands; go_simp; try with_reducible rfl)
        try simp only [List.getElem_toArray, List.getElem_cons_succ, List.getElem_cons_zero, Act.put, List.setIfInBounds_toArray, List.set_cons_zero, List.set_cons_succ]
        refine wpAnyH_take (i := 6) (v := ?_) rfl (by kernel_rfl) (by kernel_rfl) (by kernel_rfl) (fun _ _ _ h => h) (Or.inl ⟨by rfl, ?_⟩) (by assumption) ?_;rotate_left
        · (intro w hSw; (try dsimp only at hSw); go_split_ands; go_simp; try with_reducible rfl)
        try simp only [List.getElem_toArray, List.getElem_cons_succ, List.getElem_cons_zero, Act.put, List.setIfInBounds_toArray, List.set_cons_zero, List.set_cons_succ]
        refine wpAnyH_take (i := 7) (v := ?_) rfl (by kernel_rfl) (by kernel_rfl) (by kernel_rfl) (fun _ _ _ h => h) (Or.inl ⟨by rfl, ?_⟩) (by assumption) ?_;rotate_left
        · (intro w hSw; (try dsimp only at hSw); go_split_ands; go_simp; try with_reducible rfl)
        try simp only [List.getElem_toArray, List.getElem_cons_succ, List.getElem_cons_zero, Act.put, List.setIfInBounds_toArray, List.set_cons_zero, List.set_cons_succ]
        refine wpAnyH_take (i := 8) (v := ?_) rfl (by kernel_rfl) (by kernel_rfl) (by kernel_rfl) (fun _ _ _ h => h) (Or.inl ⟨by rfl, ?_⟩) (by assumption) ?_;rotate_left
        · (intro w hSw; (try dsimp only at hSw); go_split_ands; go_simp; try with_reducible rfl)
        try simp only [List.getElem_toArray, List.getElem_cons_succ, List.getElem_cons_zero, Act.put, List.setIfInBounds_toArray, List.set_cons_zero, List.set_cons_succ]
        refine wpAnyH_take (i := 9) (v := ?_) rfl (by kernel_rfl) (by kernel_rfl) (by kernel_rfl) (fun _ _ _ h => h) (Or.inl ⟨by rfl, ?_⟩) (by assumption) ?_;rotate_left
        · (intro w hSw; (try dsimp only at hSw); go_split_ands; go_simp; try with_reducible rfl)
        try simp only [List.getElem_toArray, List.getElem_cons_succ, List.getElem_cons_zero, Act.put, List.setIfInBounds_toArray, List.set_cons_zero, List.set_cons_succ]
        refine wpAnyH_take (i := 10) (v := ?_) rfl (by kernel_rfl) (by kernel_rfl) (by kernel_rfl) (fun _ _ _ h => h) (Or.inl ⟨by rfl, ?_⟩) (by assumption) ?_;rotate_left
        · (intro w hSw; (try dsimp only at hSw); go_split_ands; go_simp; try with_reducible rfl)
        try simp only [List.getElem_toArray, List.getElem_cons_succ, List.getElem_cons_zero, Act.put, List.setIfInBounds_toArray, List.set_cons_zero, List.set_cons_succ]
        refine wpAnyH_take (i := 11) (v := ?_) rfl (by kernel_rfl) (by kernel_rfl) (by kernel_rfl) (fun _ _ _ h => h) (Or.inl ⟨by rfl, ?_⟩) (by assumption) ?_;rotate_left
        · (intro w hSw; (try dsimp only at hSw); go_split_ands; go_simp; try with_reducible rfl)
        try simp only [List.getElem_toArray, List.getElem_cons_succ, List.getElem_cons_zero, Act.put, List.setIfInBounds_toArray, List.set_cons_zero, List.set_cons_succ]
        refine wpAnyH_take (i := 12) (v := ?_) rfl (by kernel_rfl) (by kernel_rfl) (by kernel_rfl) (fun _ _ _ h => h) (Or.inl ⟨by rfl, ?_⟩) (by assumption) ?_;rotate_left
        · (intro w hSw; (try dsimp only at hSw); go_split_ands; go_simp; try with_reducible rfl)
        try simp only [List.getElem_toArray, List.getElem_cons_succ, List.getElem_cons_zero, Act.put, List.setIfInBounds_toArray, List.set_cons_zero, List.set_cons_succ]
        refine wpAnyH_take (i := 13) (v := ?_) rfl (by kernel_rfl) (by kernel_rfl) (by kernel_rfl) (fun _ _ _ h => h) (Or.inl ⟨by rfl, ?_⟩) (by assumption) ?_;rotate_left
        · (intro w hSw; (try dsimp only at hSw); go_split_ands; go_simp; try with_reducible rfl)
        try simp only [List.getElem_toArray, List.getElem_cons_succ, List.getElem_cons_zero, Act.put, List.setIfInBounds_toArray, List.set_cons_zero, List.set_cons_succ]
        refine wpAnyH_take (i := 14) (v := ?_) rfl (by kernel_rfl) (by kernel_rfl) (by kernel_rfl) (fun _ _ _ h => h) (Or.inl ⟨by rfl, ?_⟩) (by assumption) ?_;rotate_left
        · (intro w hSw; (try dsimp only at hSw); go_split_ands; go_simp; try with_reducible rfl)
        try simp only [List.getElem_toArray, List.getElem_cons_succ, List.getElem_cons_zero, Act.put, List.setIfInBounds_toArray, List.set_cons_zero, List.set_cons_succ]
        refine wpAnyH_take (i := 15) (v := ?_) rfl (by kernel_rfl) (by kernel_rfl) (by kernel_rfl) (fun _ _ _ h => h) (Or.inl ⟨by rfl, ?_⟩) (by assumption) ?_;rotate_left
        · (intro w hSw; (try dsimp only at hSw); go_split_ands; go_simp; try with_reducible rfl)
        try simp only [List.getElem_toArray, List.getElem_cons_succ, List.getElem_cons_zero, Act.put, List.setIfInBounds_toArray, List.set_cons_zero, List.set_cons_succ]
        refine wpAnyH_take (i := 16) (v := ?_) rfl (by kernel_rfl) (by kernel_rfl) (by kernel_rfl) (fun _ _ _ h => h) (Or.inl ⟨by rfl, ?_⟩) (by assumption) ?_;rotate_left
        · (intro w hSw; (try dsimp only at hSw); go_split_ands; go_simp; try with_reducible rfl)
        try simp only [List.getElem_toArray, List.getElem_cons_succ, List.getElem_cons_zero, Act.put, List.setIfInBounds_toArray, List.set_cons_zero, List.set_cons_succ]
        refine wpAnyH_done (by kernel_rfl) ?_ _;clear q1 q2 q3 d0 d1 z1 z2 hHeld hb2
        go_wp2
        clear k1 k2 k0 hn0 hnm
        go_loopw [5, 6] (fun so si wr => ∃ (k : Nat) (A' : Option Addr) (c' : Nat), so = .slice A' k c' ∧ si = .int .i64 (k : Int) ∧ k ≤ N ∧ RowKit.Hid (RowS wr w.heap.size (.slice A' k c') (readSs k (xs.drop 8)) ∧ RE wr g ab B (xs.drop (8 + 16 * k), false) ∧ Upd w wr (· = g))) (fun _ si _ => N - (intOf si).toNat)
        case atStart => exact ⟨0, none, 0, rfl, rfl, by omega, Lib.hid ⟨by simpa [readSs] using rowS_nil _ w.heap.size, RE.below ⟨i', HE.out.1, HX2.out⟩ (below_drew (Below.refl _ _)), HE.out.2.drew⟩⟩
        case round =>
          obtain ⟨k, A', c', rfl, rfl, hk, HS⟩ := hrel
          by_cases hlt : k < N
          · have hst := rfStamp_ok HS.out.2.1 (bytesOk_drop HI.out.2.1 _) (by rw [List.length_drop]; have := HL.out; omega)
            rw [List.drop_drop] at hst
            have hsn := readSs_snoc k (xs.drop 8)
            rw [List.drop_drop] at hsn
            generalize readS (xs.drop (8 + 16 * k)) = x at *
            obtain ⟨x0, x1⟩ := x
            have HST := Lib.hid (And.intro hst hsn)
            clear hst hsn
            go_wp2_with fail
            refine HST.out.1.mono ?_
            rintro e w3 ⟨rfl, hE3, hu3⟩
            have hvg : ∀ q, (Value.slice A' k c').ownBlock = some q → ¬ q = g := fun q hq e => by have := (HS.out.1.lt q hq).1; have := HG.out.1; omega
            have hv3 : RowS w3 w.heap.size (.slice A' k c') (readSs k (xs.drop 8)) := own_move HS.out.1 (fun q hq => hu3.block q (HS.out.1.lt q hq).2 (hvg q hq))
            have HN3 := Lib.hid (And.intro hE3 (And.intro (HS.out.2.2.trans hu3) (And.intro hv3 hvg)))
            clear hE3 hu3 hv3 hvg
            go_wp2_with (first | ((with_reducible refine gate_builtin (b := .append) (xs := #[.tmp 46, .tmp 49]) rfl ?_); at_builtin; refine stop_append rfl ?_))
            refine Lib.hid ?_;refine Kd.R_append k41 (w0 := w3) w.heap.size rfl (.tmp 46) (.tmp 49) 24 41 (.agg #[.int .i64 0, .int .i64 0]) 16 rfl Tryz.underlying24 info41 rfl (by decide) (by decide) (.slice A' k c') (readSs k (xs.drop 8)) ⟨x0, x1⟩ [.int .i64 x0, .int .i64 x1] (fun _ => True) (fun _ => False) rfl rfl (k41_mkM _ _ _ _) (fun _ h => h.elim) (fun _ _ => trivial) (RowS.R HN3.out.2.2.1) (Below.refl _ _) HN3.out.2.1.size (by rw [readSs_len]; omega) ?_;intro v4 w4 hR4 hB4 hg4 hat4
            rw [← HST.out.2] at hR4
            obtain ⟨A4, c4, rfl⟩ := Kd.R_slice hR4
            have hu4 : Upd w3 w4 (fun q => w.heap.size ≤ q) := Upd.of_grown hg4 (fun q hq => (HN3.out.2.2.1.lt q hq).1)
            have HN4 := Lib.hid (And.intro (RowS.of_R hR4) hu4)
            rw [readSs_len] at HN4
            rw [readSs_len]
            clear hR4 hB4 hg4 hat4 hu4
            go_wp2_with fail
            go_roundw
            case rel => exact ⟨k + 1, A4, c4, rfl, by go_num, by omega, Lib.hid ⟨HN4.out.1, by
              have := HN3.out.1.upd HN4.out.2 (fun h => by have := HG.out.1; omega) (fun h => by have := HG.out.2; omega)
              rwa [show 8 + 16 * k + 16 = 8 + 16 * (k + 1) by omega] at this, HN3.out.2.1.then_new (HN4.out.2.mono fun q _ hq => .inr hq)⟩⟩
            case measure => simp [intOf]; omega
          · obtain rfl : k = N := by omega
            go_wp2
            go_ret
            exact ⟨_, rfl, by rw [HRC.out]; exact HS.out.1, by rw [HRC.out]; exact HS.out.2.1, HS.out.2.2⟩
end
end Go.Proofs.YtaedlmeaconflaaGreat.P
end
section
set_option linter.unusedVariables false
set_option linter.unusedSimpArgs false
namespace Go.Proofs.YtaedlmeaconflaaGreat.P
open Go.RowKit Go.Proofs.YtaedlmeaconflaaGreatW.PrintWords Go.Proofs.YtaedlmeaconflaaGreatW.PrintLast Go.Proofs.YtaedlmeaconflaaGreatW.PrintMore
def rLoop : Nat → Int → Sight → List S26 × Sight
  | 0, _, s => ([], s)
  | k + 1, n, s => if 0 < n ∧ s.2 = false then (⟨(sInt s).1, (sStamps (sInt s).2).1⟩ :: (rLoop k (n - 1) (sStamps (sInt s).2).2).1, (rLoop k (n - 1) (sStamps (sInt s).2).2).2) else ([], s)
section
variable {g ab : Nat} {B : List Int}
set_option maxHeartbeats 4000000 in
set_option maxRecDepth 100000 in
theorem rfRead_any {w : World} (s : Sight) (h : RE w g ab B s) (hx : bytesOk s.1) (hBl : B.length ≤ 1000000000) (hsl : s.1.length ≤ 1000000000) : Calls Tryz.prog 42 #[ptr g] w fun e w' => ∃ v, e = .returned v ∧ Kd.S k26 26 w' w.heap.size (fun _ => True) v (rLoop 9 (sInt s).1 (sInt s).2).1 ∧ RE w' g ab B (rLoop 9 (sInt s).1 (sInt s).2).2 ∧ Upd w w' (· = g) := by
  have hI := rfInt_any h hx
  have hn0 := sInt_bnd hx
  have hx1 := sInt_bytes hx
  have hl1 := Nat.le_trans (sInt_le s) hsl
  have HG := Lib.hid (And.intro h.lt (And.intro h.oldb hBl))
  generalize sInt s = s0 at *
  obtain ⟨n0, s0⟩ := s0
  simp only at hn0 hx1 hl1 hI ⊢
  obtain ⟨PA, hPA⟩ : ∃ PA, rLoop 9 n0 s0 = PA := ⟨_, rfl⟩
  rw [hPA]
  have HI := Lib.hid (And.intro hI (And.intro hx1 (And.intro hl1 hPA)))
  clear hI h hx hx1 hl1 hPA hBl hsl
  go_enter Tryz.func42, Tryz.ntmps42
  go_wp2_with fail
  refine HI.out.1.mono ?_
  rintro e w2 ⟨rfl, hE, hu⟩
  have HE := Lib.hid (And.intro hE hu)
  clear hE hu
  go_wp2
  go_loopw [4, 5] (fun so si wr => ∃ (ds : List S26) (A' : Option Addr) (c' : Nat) (s : Sight), so = .slice A' ds.length c' ∧ si = .int .i64 (ds.length : Int) ∧ ds.length ≤ 9 ∧ RowKit.Hid (Kd.S k26 26 wr w.heap.size (fun q => w.heap.size ≤ q) (.slice A' ds.length c') ds ∧ RE wr g ab B s ∧ Upd w wr (· = g) ∧ bytesOk s.1 ∧ s.1.length ≤ 1000000000 ∧ ds ++ (rLoop (9 - ds.length) (n0 - ds.length) s).1 = PA.1 ∧ (rLoop (9 - ds.length) (n0 - ds.length) s).2 = PA.2)) (fun so _ _ => 10 - (lenV so))
  case atStart => exact ⟨[], none, 0, s0, rfl, rfl, by simp, Lib.hid ⟨Kd.S_nil _ _ _ _ _, HE.out.1, HE.out.2, HI.out.2.1, HI.out.2.2.1, by rw [← HI.out.2.2.2]; simp, by rw [← HI.out.2.2.2]; simp⟩⟩
  case round =>
    obtain ⟨ds, A', c', s, rfl, rfl, hk, HS⟩ := hrel
    have hbl := HS.out.2.1.blind
    by_cases hn : (ds.length : Int) < n0 ∧ s.2 = false ∧ ds.length ≤ 8
    · obtain ⟨hn, hs2, h8⟩ := hn
      obtain ⟨k, hk9⟩ : ∃ k, 9 - ds.length = k + 1 := ⟨8 - ds.length, by omega⟩
      obtain ⟨hS, hE, hB, hby, hle, hp1, hp2⟩ := HS.out
      rw [hk9, rLoop, if_pos ⟨by omega, hs2⟩] at hp1 hp2
      have hI := rfInt_any hE hby
      have hby1 := sInt_bytes hby
      have hle1 := Nat.le_trans (sInt_le s) hle
      have hSt := fun (W : World) (h : RE W g ab B (sInt s).2) => rfStamps_any h hby1 HG.out.2.2
      have hby2 := sStamps_bytes hby1
      have hle2 := Nat.le_trans (sStamps_le (sInt s).2) hle1
      have hbb := sInt_bnd hby
      rw [hs2] at hbl
      generalize sStamps (sInt s).2 = st at *
      generalize sInt s = xI at *
      obtain ⟨x0, s1⟩ := xI
      obtain ⟨l, s2⟩ := st
      simp only at hp1 hp2 hI hSt hby2 hle2
      have HY := Lib.hid (And.intro hS (And.intro hB (And.intro hby2 (And.intro hle2 (And.intro hp1 (And.intro hp2 hk9))))))
      have HI2 := Lib.hid hI; have HST := Lib.hid hSt
      have dn : decide ((ds.length : Int) < n0) = true := decide_eq_true hn
      have d8 : decide ((ds.length : Int) ≤ 8) = true := decide_eq_true (by omega)
      have d9 : decide (ds.length ≤ 8) = true := decide_eq_true h8
      clear hS hE hB hby hle hp1 hp2 hI hSt hby1 hle1 hby2 hle2 hbb hk9 HS hs2
      go_wp2_with fail
      refine HI2.out.mono ?_
      rintro e w3 ⟨rfl, hE3, hu3⟩
      have HST3 := Lib.hid (And.intro (HST.out w3 hE3) hu3)
      clear hE3 hu3
      go_wp2_with fail
      refine HST3.out.1.mono ?_
      rintro e w4 ⟨v4, rfl, hv4, hE4, hu4⟩
      obtain ⟨A4, c4, rfl⟩ := own_slice hv4
      have HN := Lib.hid (And.intro hv4 (And.intro hE4 (HST3.out.2.trans hu4)))
      clear hv4 hE4 hu4
      go_wp2_with (first | ((with_reducible refine gate_builtin (b := .append) (xs := #[.tmp 24, .tmp 30]) rfl ?_); at_builtin; refine stop_append rfl ?_))
      refine Lib.hid ?_
      have hsz3 : wr.heap.size ≤ w3.heap.size := HST3.out.2.size
      have hszr := HY.out.2.1.size;have hg := HG.out.1
      have hu0 : Upd w w4 (· = g) := HY.out.2.1.trans HN.out.2.2
      refine Kd.S_append k26 (w0 := w4) w.heap.size rfl (.tmp 24) (.tmp 30) 22 26 (.agg #[.int .i64 0, .slice none 0 0]) 32 rfl Tryz.underlying22 infoD rfl (by decide) (by decide) (.slice A' ds.length c') ds ⟨x0, l⟩ [.int .i64 x0, .slice A4 l.length c4] (fun q => w.heap.size ≤ q) (fun q => w3.heap.size ≤ q) rfl rfl ?_ ?_ ?_ ?_ (Below.refl _ _) hu0.size ?_ ?_
      · exact k26_mkM _ _ _ _ (Kd.R_lower (Kd.R_mono (Kd.R_bound (RowS.R HN.out.1)) (fun q hq => hq.2.1)) (Nat.le_trans hszr hsz3))
      · intro q hq
        exact ⟨by omega, fun e => by have := Kd.S_lt HY.out.1 q e.symm; omega⟩
      · intro q hq
        have := HN.out.2.2.size
        omega
      · exact Kd.S_step (Kd.S_mono (Kd.S_bound HY.out.1) (fun q hq => ⟨hq.1, by have := hq.2.2.1; omega⟩)) (fun q hq hql => HN.out.2.2.block q hql (by have := hq.1; omega))
      · omega
      intro v5 w5 hS5 hB5 hg5 hat5
      have hln : (ds ++ [(⟨x0, l⟩ : S26)]).length = ds.length + 1 := by simp
      obtain ⟨A5, c5, e5⟩ := Kd.S_slice hS5
      have hu5 : Upd w4 w5 (fun q => w.heap.size ≤ q) := Upd.of_grown hg5 (fun q hq => (Kd.S_R HY.out.1).1 q hq)
      have hE5 : RE w5 g ab B s2 := HN.out.2.1.upd hu5 (by have := HG.out.1; omega) (by have := HG.out.2.1; omega)
      have HN5 := Lib.hid (And.intro hS5 (And.intro (hu0.then_new (hu5.mono fun q _ hq => .inr hq)) hE5))
      rw [e5, hln] at HN5
      rw [e5, hln]
      clear hS5 hB5 hg5 hat5 e5 hE5 hu0 hu5 hsz3 hszr hg
      go_wp2_with fail
      go_roundw
      case rel =>
        refine ⟨ds ++ [⟨x0, l⟩], A5, c5, s2, by rw [hln], by rw [hln]; go_num, by omega, Lib.hid ⟨by rw [hln]; exact HN5.out.1, HN5.out.2.2, HN5.out.2.1, HY.out.2.2.1, HY.out.2.2.2.1, ?_, ?_⟩⟩
        · rw [hln, show 9 - (ds.length + 1) = k by have := HY.out.2.2.2.2.2.2; omega, List.append_assoc, show n0 - ((ds.length + 1 : Nat) : Int) = n0 - ds.length - 1 by omega]; exact HY.out.2.2.2.2.1
        · rw [hln, show 9 - (ds.length + 1) = k by have := HY.out.2.2.2.2.2.2; omega, show n0 - ((ds.length + 1 : Nat) : Int) = n0 - ds.length - 1 by omega]; exact HY.out.2.2.2.2.2.1
      case measure => simp [lenV]; omega
    · obtain ⟨hS, hE, hB, hby, hle, hp1, hp2⟩ := HS.out
      have hz : rLoop (9 - ds.length) (n0 - ds.length) s = ([], s) := by
        rcases Nat.lt_or_ge ds.length 9 with h | h
        · obtain ⟨k, hk9⟩ : ∃ k, 9 - ds.length = k + 1 := ⟨8 - ds.length, by omega⟩
          rw [hk9, rLoop, if_neg (fun hh => hn ⟨by omega, hh.2, by omega⟩)]
        · rw [show 9 - ds.length = 0 by omega]; rfl
      rw [hz] at hp1 hp2
      simp only [List.append_nil] at hp1 hp2
      obtain ⟨D, F⟩ := PA
      simp only at hp1 hp2
      subst hp1 hp2
      have HF := Lib.hid (And.intro (Kd.S_mono hS (fun _ _ => trivial) : Kd.S k26 26 wr w.heap.size (fun _ => True) (.slice A' ds.length c') ds) (And.intro hE hB))
      obtain ⟨qs, hqs⟩ : ∃ q, s.2 = q := ⟨_, rfl⟩
      rw [hqs] at hbl hn
      clear hS hE hB hby hle hz HS hqs
      by_cases h1 : (ds.length : Int) < n0
      · have dn : decide ((ds.length : Int) < n0) = true := decide_eq_true h1
        cases qs with
        | true =>
          go_wp2
          go_ret
          exact ⟨_, rfl, HF.out⟩
        | false =>
          have h9 : ¬ ds.length ≤ 8 := fun h => hn ⟨h1, rfl, h⟩
          have d8 : decide ((ds.length : Int) ≤ 8) = false := decide_eq_false (by omega)
          have d9 : decide (ds.length ≤ 8) = false := decide_eq_false h9
          go_wp2
          go_ret
          exact ⟨_, rfl, HF.out⟩
      · have dn : decide ((ds.length : Int) < n0) = false := decide_eq_false h1
        go_wp2
        go_ret
        exact ⟨_, rfl, HF.out⟩
end
end Go.Proofs.YtaedlmeaconflaaGreat.P
end
section
set_option linter.unusedVariables false
set_option linter.unusedSimpArgs false
namespace Go.Proofs.YtaedlmeaconflaaGreat.P
open Go.RowKit Go.Proofs.YtaedlmeaconflaaGreatW.PrintWords Go.Proofs.YtaedlmeaconflaaGreatW.PrintLast Go.Proofs.YtaedlmeaconflaaGreatW.PrintMore
abbrev RowU (w : World) (base : Nat) (v : Value) (xs : List Int) : Prop := Kd.R (Kd.int .u8) 5 w base (fun k => base ≤ k) v xs
theorem rInt_any (v : Value) (xs : List Int) (x : Int) (w0 w : World) (hB : Below w0.heap.size w0 w) (ho : RowU w w0.heap.size v xs) (hx : xs.length ≤ 1000000000000) :
    Calls Tryz.prog 51 #[v, .int .i64 x] w fun e w' => ∃ v', e = .returned v' ∧ RowU w' w0.heap.size v' (xs ++ laidI x) ∧ Below w0.heap.size w0 w' := by
  obtain ⟨k, hk⟩ := (ev_rInt x xs hx).get
  exact (folkmootref02_Int.calls k _ v xs x _ w0 w hB ho hk).mono fun e w' ⟨v', he, h, hb, _⟩ => ⟨v', he, Kd.R_mono h (fun k hk => hk.elim id fun h2 => Nat.le_trans hB.size h2), hb⟩
theorem rStamps_any (v : Value) (xs : List Int) (A : Option Addr) (c : Nat) (l : List S41) (w0 w : World) (hB : Below w0.heap.size w0 w) (ho : RowU w w0.heap.size v xs) (hr : Kd.C k41 w0 A l.length l) (hc : l.length ≤ c) (hx : xs.length + 8 + 16 * l.length ≤ 10000000000) :
    Calls Tryz.prog 52 #[v, .slice A l.length c] w fun e w' => ∃ v', e = .returned v' ∧ RowU w' w0.heap.size v' (xs ++ laidStamps l) ∧ Below w0.heap.size w0 w' := by
  obtain ⟨k, hk⟩ := (ev_rStamps l xs hx).get
  have hF := Kd.C_F k41_heap hr
  exact (folkmootref02_Stamps.calls k _ v xs A c l _ w0 w hB ho (fun W hW => hF W fun q hq hlt => (hW.2 q (Nat.lt_of_lt_of_le hlt hB.size) (by simp only; omega)).trans (hB.block q hlt)) hc hk).mono fun e w' ⟨v', he, h, hb, _⟩ => ⟨v', he, Kd.R_mono h (fun k hk => hk.elim id fun h2 => Nat.le_trans hB.size h2), hb⟩
set_option maxHeartbeats 2000000 in
set_option maxRecDepth 100000 in
theorem rLay_any (A : Option Addr) (c : Nat) (ds : List S26) (w : World) (hr : Kd.C k26 w A ds.length ds) (hl : (laidDeps ds).length ≤ 1000000000) :
    Calls Tryz.prog 16 #[.slice none 0 0, .slice A ds.length c] w fun e w' => ∃ v, e = .returned v ∧ Kd.R (Kd.int .u8) 5 w' w.heap.size (fun _ => True) v (laidDeps ds) ∧ Below w.heap.size w w' := by
  have hmx := Kd.C_max hr
  have HR := Lib.hid hr; have HL := Lib.hid hl
  clear hr hl
  go_enter Tryz.func16, Tryz.ntmps16
  go_wp2_with fail
  refine (rInt_any (.slice none 0 0) [] (ds.length : Int) w w (Below.refl _ _) (Kd.R_nil _ _ _ _ _) (by simp)).mono ?_
  rintro e w1 ⟨v1, rfl, ho1, hb1⟩
  rw [List.nil_append] at ho1
  obtain ⟨A1, c1, rfl⟩ := Kd.R_slice ho1
  have HO := Lib.hid (And.intro ho1 hb1)
  clear ho1 hb1
  go_wp2
  go_loopw [0, 5] (fun so si wr => ∃ (k n : Nat) (A' : Option Addr) (c' : Nat), so = .slice A' n c' ∧ si = .int .i64 (k : Int) ∧ k ≤ ds.length ∧ RowKit.Hid (n = (laidI (ds.length : Int) ++ laidDs (ds.take k)).length ∧ RowU wr w.heap.size (.slice A' n c') (laidI (ds.length : Int) ++ laidDs (ds.take k)) ∧ Below w.heap.size w wr)) (fun _ si _ => ds.length - (intOf si).toNat)
  case atStart => exact ⟨0, _, _, _, rfl, rfl, by omega, Lib.hid ⟨by simp [laidDs], by simpa [laidDs] using HO.out.1, HO.out.2⟩⟩
  case round =>
    obtain ⟨k, n, A', c', rfl, rfl, hk, HS⟩ := hrel
    by_cases hlt : k < ds.length
    · rcases A with _ | ad
      · exact absurd (HR.out.2.2 (by omega)) (by simp)
      obtain ⟨A2, c2, d0, d1, hlc, hCx⟩ := C_atD (Kd.C_below HR.out HS.out.2.2) k hlt
      obtain ⟨A3, c3, d0', d1', hlc', hCx'⟩ := C_atD HR.out k hlt
      have e1 := (pw_cell_below HS.out.2.2 d1').symm.trans d1
      injection e1 with e1
      injection e1 with eA _ ec
      subst eA ec
      have hsn := laidDs_snoc ds hlt
      have htl := laidDs_take_le ds (k + 1)
      have hLL := HL.out
      unfold laidDeps at hLL
      rw [List.length_append, laidI_len] at hLL
      generalize ds[k] = x at *
      obtain ⟨x0, l⟩ := x
      have HD0 := Lib.hid (And.intro d0' d1')
      have HX := Lib.hid (And.intro hsn (And.intro hCx' (And.intro hlc' (show (laidDs (ds.take (k + 1))).length ≤ 1000000000 by omega))))
      clear hsn hCx hCx' hlc hlc' d0' d1' htl hLL
      obtain ⟨Y, hY⟩ : ∃ Y, laidI (ds.length : Int) ++ laidDs (ds.take k) = Y := ⟨_, rfl⟩
      have hYl : Y.length ≤ 1000000008 := by
        rw [← hY, List.length_append, laidI_len]
        have h1 := HX.out.2.2.2
        rw [HX.out.1, List.length_append] at h1
        omega
      have hsz : Y.length + 8 + 8 + 16 * l.length ≤ 2000000100 := by
        have h1 := HX.out.2.2.2
        rw [HX.out.1, List.length_append, laidD_len] at h1
        simp only at h1
        omega
      have HYY := Lib.hid (And.intro hY (And.intro hYl hsz))
      have HS2 := Lib.hid (show n = Y.length ∧ RowU wr w.heap.size (.slice A' n c') Y ∧ Below w.heap.size w wr from by rw [← hY]; exact HS.out)
      clear hY hYl hsz
      obtain ⟨Y1, hY1⟩ : ∃ Z, Y ++ laidI x0 = Z := ⟨_, rfl⟩
      obtain ⟨Z, hZ⟩ : ∃ Z, Y1 ++ laidStamps l = Z := ⟨_, rfl⟩
      have HZ := Lib.hid (And.intro hY1 hZ)
      clear hY1 hZ
      have HDD := Lib.hid (And.intro d0 d1)
      have hkl : (k : Int) < (ds.length : Int) := by omega
      have h0k : (0 : Int) ≤ (k : Int) := by omega
      go_upto_region 5 with fail
      refine wp_region_held (S := (fun W => W.cell? (ad.add (k * 2)) = some (.int .i64 x0) ∧ W.cell? ⟨(ad.add (k * 2)).block, (ad.add (k * 2)).off + 1, none⟩ = some (.slice A3 l.length c3))) (by kernel_rfl) ?_;simp only [List.size_toArray, List.length_cons, List.length_nil, Nat.zero_add, Nat.reduceAdd]
      have hHeld : ((fun W => W.cell? (ad.add (k * 2)) = some (.int .i64 x0) ∧ W.cell? ⟨(ad.add (k * 2)).block, (ad.add (k * 2)).off + 1, none⟩ = some (.slice A3 l.length c3))) wr.drew := ⟨d0, d1⟩
      refine wpAnyH_take (i := 0) (v := ?_) rfl (by kernel_rfl) (by kernel_rfl) (by kernel_rfl) (fun _ _ _ h => h) (Or.inl ⟨by rfl, ?_⟩) (by assumption) ?_;rotate_left
      · (intro w hSw; (try dsimp only at hSw); go_split_ands; go_simp; try with_reducible rfl)
      try simp only [List.getElem_toArray, List.getElem_cons_succ, List.getElem_cons_zero, Act.put, List.setIfInBounds_toArray, List.set_cons_zero, List.set_cons_succ]
      refine wpAnyH_take (i := 1) (v := ?_) rfl (by kernel_rfl) (by kernel_rfl) (by kernel_rfl) (fun _ _ _ h => h) (Or.inl ⟨by rfl, ?_⟩) (by assumption) ?_;rotate_left
      · (intro w hSw; (try dsimp only at hSw); go_split_ands; go_simp; try with_reducible rfl)
      try simp only [List.getElem_toArray, List.getElem_cons_succ, List.getElem_cons_zero, Act.put, List.setIfInBounds_toArray, List.set_cons_zero, List.set_cons_succ]
      refine wpAnyH_take (i := 2) (v := ?_) rfl (by kernel_rfl) (by kernel_rfl) (by kernel_rfl) (fun _ _ _ h => h) (Or.inl ⟨by rfl, ?_⟩) (by assumption) ?_;rotate_left
      · (intro w hSw; (try dsimp only at hSw); go_split_ands; go_simp; try with_reducible rfl)
      try simp only [List.getElem_toArray, List.getElem_cons_succ, List.getElem_cons_zero, Act.put, List.setIfInBounds_toArray, List.set_cons_zero, List.set_cons_succ]
      refine wpAnyH_take (i := 3) (v := ?_) rfl (by kernel_rfl) (by kernel_rfl) (by kernel_rfl) (fun _ _ _ h => h) (Or.inl ⟨by rfl, ?_⟩) (by assumption) ?_;rotate_left
      · (intro w hSw; (try dsimp only at hSw); go_split_ands; go_simp; try with_reducible rfl)
      try simp only [List.getElem_toArray, List.getElem_cons_succ, List.getElem_cons_zero, Act.put, List.setIfInBounds_toArray, List.set_cons_zero, List.set_cons_succ]
      refine wpAnyH_take (i := 4) (v := ?_) rfl (by kernel_rfl) (by kernel_rfl) (by kernel_rfl) (fun _ _ _ h => h) (Or.inl ⟨by rfl, ?_⟩) (by assumption) ?_;rotate_left
      · (intro w hSw; (try dsimp only at hSw); go_split_ands; go_simp; try with_reducible rfl)
      try simp only [List.getElem_toArray, List.getElem_cons_succ, List.getElem_cons_zero, Act.put, List.setIfInBounds_toArray, List.set_cons_zero, List.set_cons_succ]
      refine wpAnyH_take (i := 5) (v := ?_) rfl (by kernel_rfl) (by kernel_rfl) (by kernel_rfl) (fun _ _ _ h => h) (Or.inl ⟨by rfl, ?_⟩) (by assumption) ?_;rotate_left
      · (intro w hSw; (try dsimp only at hSw); go_split_ands; go_simp; try with_reducible rfl)
      try simp only [List.getElem_toArray, List.getElem_cons_succ, List.getElem_cons_zero, Act.put, List.setIfInBounds_toArray, List.set_cons_zero, List.set_cons_succ]
      refine wpAnyH_take (i := 7) (v := ?_) rfl (by kernel_rfl) (by kernel_rfl) (by kernel_rfl) (fun _ _ _ h => h) (Or.inl ⟨by rfl, ?_⟩) (by assumption) ?_;rotate_left
      · (intro w hSw; (try dsimp only at hSw); go_split_ands; go_simp; try with_reducible rfl)
      try simp only [List.getElem_toArray, List.getElem_cons_succ, List.getElem_cons_zero, Act.put, List.setIfInBounds_toArray, List.set_cons_zero, List.set_cons_succ]
      refine wpAnyH_take (i := 8) (v := ?_) rfl (by kernel_rfl) (by kernel_rfl) (by kernel_rfl) (fun _ _ _ h => h) (Or.inl ⟨by rfl, ?_⟩) (by assumption) ?_;rotate_left
      · (intro w hSw; (try dsimp only at hSw); go_split_ands; go_simp; try with_reducible rfl)
      try simp only [List.getElem_toArray, List.getElem_cons_succ, List.getElem_cons_zero, Act.put, List.setIfInBounds_toArray, List.set_cons_zero, List.set_cons_succ]
      refine wpAnyH_take (i := 9) (v := ?_) rfl (by kernel_rfl) (by kernel_rfl) (by kernel_rfl) (fun _ _ _ h => h) (Or.inl ⟨by rfl, ?_⟩) (by assumption) ?_;rotate_left
      · (intro w hSw; (try dsimp only at hSw); go_split_ands; go_simp; try with_reducible rfl)
      try simp only [List.getElem_toArray, List.getElem_cons_succ, List.getElem_cons_zero, Act.put, List.setIfInBounds_toArray, List.set_cons_zero, List.set_cons_succ]
      refine wpAnyH_take (i := 10) (v := ?_) rfl (by kernel_rfl) (by kernel_rfl) (by kernel_rfl) (fun _ _ _ h => h) (Or.inl ⟨by rfl, ?_⟩) (by assumption) ?_;rotate_left
      · (intro w hSw; (try dsimp only at hSw); go_split_ands; go_simp; try with_reducible rfl)
      try simp only [List.getElem_toArray, List.getElem_cons_succ, List.getElem_cons_zero, Act.put, List.setIfInBounds_toArray, List.set_cons_zero, List.set_cons_succ]
      refine wpAnyH_take (i := 11) (v := ?_) rfl (by kernel_rfl) (by kernel_rfl) (by kernel_rfl) (fun _ _ _ h => h) (Or.inl ⟨by rfl, ?_⟩) (by assumption) ?_;rotate_left
      · (intro w hSw; (try dsimp only at hSw); go_split_ands; go_simp; try with_reducible rfl)
      try simp only [List.getElem_toArray, List.getElem_cons_succ, List.getElem_cons_zero, Act.put, List.setIfInBounds_toArray, List.set_cons_zero, List.set_cons_succ]
      refine wpAnyH_ready (rs := [6]) (by kernel_rfl) (by simp) ?_;refine (AllReadyH.cons rfl (fun K hK => ?_) AllReadyH.nil);go_simp;refine (rInt_any _ Y x0 w _ (below_drew HS2.out.2.2) (Kd.R_drew HS2.out.2.1) (by have := HYY.out.2.1; omega)).mono ?_
      rintro e w2 ⟨v2, rfl, ho2, hb2⟩
      rw [HZ.out.1] at ho2
      obtain ⟨A5, c5, rfl⟩ := Kd.R_slice ho2
      have HO2 := Lib.hid (And.intro ho2 hb2)
      refine hK.out _ _ ?_ (fun hHeld => ?_)
      · exact ⟨pw_cell_below hb2 HD0.out.1, pw_cell_below hb2 HD0.out.2⟩
      clear hK K ho2 hb2
      try simp only [List.getElem_toArray, List.getElem_cons_succ, List.getElem_cons_zero, Act.put, List.setIfInBounds_toArray, List.set_cons_zero, List.set_cons_succ]
      refine wpAnyH_ready (rs := [12]) (by kernel_rfl) (by simp) ?_;refine (AllReadyH.cons rfl (fun K hK => ?_) AllReadyH.nil);go_simp;refine (rStamps_any _ Y1 A3 c3 l w _ HO2.out.2 HO2.out.1 HX.out.2.1 HX.out.2.2.1 (by have := HYY.out.2.2; rw [← HZ.out.1, List.length_append, laidI_len]; omega)).mono ?_
      rintro e w3 ⟨v3, rfl, ho3, hb3⟩
      rw [HZ.out.2] at ho3
      obtain ⟨A6, c6, rfl⟩ := Kd.R_slice ho3
      have HO3 := Lib.hid (And.intro ho3 hb3)
      refine hK.out _ _ ?_ (fun hHeld => ?_)
      · exact ⟨pw_cell_below hb3 HD0.out.1, pw_cell_below hb3 HD0.out.2⟩
      clear hK K ho3 hb3
      try simp only [List.getElem_toArray, List.getElem_cons_succ, List.getElem_cons_zero, Act.put, List.setIfInBounds_toArray, List.set_cons_zero, List.set_cons_succ]
      refine wpAnyH_take (i := 13) (v := ?_) rfl (by kernel_rfl) (by kernel_rfl) (by kernel_rfl) (fun _ _ _ h => h) (Or.inl ⟨by rfl, ?_⟩) (by assumption) ?_;rotate_left
      · (intro w hSw; (try dsimp only at hSw); go_split_ands; go_simp; try with_reducible rfl)
      try simp only [List.getElem_toArray, List.getElem_cons_succ, List.getElem_cons_zero, Act.put, List.setIfInBounds_toArray, List.set_cons_zero, List.set_cons_succ]
      refine wpAnyH_done (by kernel_rfl) ?_ _
      go_wp2
      go_roundw
      case rel =>
        refine ⟨k + 1, _, _, _, rfl, by go_num, by omega, Lib.hid ?_⟩
        have e : laidI (ds.length : Int) ++ laidDs (ds.take (k + 1)) = Z := by rw [HX.out.1, ← List.append_assoc, HYY.out.1, ← HZ.out.2, ← HZ.out.1]; unfold laidD; rw [List.append_assoc]
        rw [e]
        exact ⟨rfl, HO3.out.1, HO3.out.2⟩
      case measure => simp [intOf]; omega
    · obtain rfl : k = ds.length := by omega
      go_wp2
      go_ret
      have h := HS.out
      rw [List.take_length] at h
      exact ⟨_, rfl, Kd.R_mono h.2.1 (fun _ _ => trivial), h.2.2⟩
def folkmootref06_Lay.f (b : List Int) (ds : List S26) : Option (List Int) := if b = [] ∧ (laidDeps ds).length ≤ 1000000000 then some (laidDeps ds) else none
theorem folkmootref06_Lay.calls (_A0 : Option Addr) (_c0 : Nat) (l0 : List Int) (A1 : Option Addr) (c1 : Nat) (l1 : List S26) (r : List Int) (w : World) (_hr0 : Kd.C (Kd.int .u8) w _A0 l0.length l0) (_hc0 : l0.length ≤ _c0) (hr1 : Kd.C k26 w A1 l1.length l1) (_hc1 : l1.length ≤ c1) (h : folkmootref06_Lay.f l0 l1 = some r) :
    Calls Tryz.prog 16 #[.slice none 0 0, .slice A1 l1.length c1] w fun e w' => ∃ v0_ : Value, e = .returned (v0_) ∧ Kd.R (Kd.int .u8) 5 w' w.heap.size (fun _ => True) v0_ r ∧ Below w.heap.size w w' := by
  unfold folkmootref06_Lay.f at h
  split at h
  · rename_i hc
    injection h with h
    subst h
    exact rLay_any A1 c1 l1 w hr1 hc.2
  · cases h
end Go.Proofs.YtaedlmeaconflaaGreat.P
end
section
set_option linter.unusedVariables false
set_option linter.unusedSimpArgs false
namespace Go.Proofs.YtaedlmeaconflaaGreat.P
open Go.RowKit Go.Proofs.YtaedlmeaconflaaGreatW.PrintWords Go.Proofs.YtaedlmeaconflaaGreatW.PrintLast Go.Proofs.YtaedlmeaconflaaGreatW.PrintMore
theorem rLoop_small : ∀ (k : Nat) (n : Int) (s : Sight) (m : Nat), s.1.length ≤ m → ∀ x ∈ (rLoop k n s).1, 16 * x.f1.length ≤ m
  | 0, n, s, m, _ => by simp [rLoop]
  | k + 1, n, s, m, h => by
    unfold rLoop
    split
    · intro x hx
      have h1 := sInt_le s
      have h2 := sStamps_le (sInt s).2
      rcases List.mem_cons.1 hx with rfl | hx
      · have := sStamps_len (sInt s).2
        simp only; omega
      · exact rLoop_small k (n - 1) (sStamps (sInt s).2).2 m (by omega) x hx
    · simp
theorem rLoop_len : ∀ (k : Nat) (n : Int) (s : Sight), (rLoop k n s).1.length ≤ k
  | 0, n, s => by simp [rLoop]
  | k + 1, n, s => by
    unfold rLoop
    split
    · have := rLoop_len k (n - 1) (sStamps (sInt s).2).2
      simp only [List.length_cons]; omega
    · simp
theorem sInt_blind (s : Sight) (h : s.2 = true) : (sInt s).2.2 = true := by unfold sInt; rw [if_pos (.inl h)]
theorem sStamps_blind (s : Sight) (h : s.2 = true) : (sStamps s).2.2 = true := by unfold sStamps; rw [if_pos (.inl h)]
theorem pLoop_blind : ∀ (k : Nat) (n : Int) (s : Sight), s.2 = true → (pLoop k n s).2.2 = true
  | 0, n, s, h => h
  | k + 1, n, s, h => by
    unfold pLoop
    split
    · exact pLoop_blind k (n - 1) _ (sStamps_blind _ (sInt_blind s h))
    · exact h
theorem loops : ∀ (k : Nat) (n : Int) (s : Sight), ((rLoop k n s).2.2 = true ∧ (pLoop k n s).2.2 = true) ∨ rLoop k n s = pLoop k n s
  | 0, n, s => .inr rfl
  | k + 1, n, s => by
    unfold rLoop pLoop
    by_cases hn : 0 < n
    · cases hs : s.2 with
      | true =>
        rw [if_neg (by simp), if_pos hn]
        exact .inl ⟨hs, pLoop_blind k (n - 1) _ (sStamps_blind _ (sInt_blind s hs))⟩
      | false =>
        rw [if_pos ⟨hn, rfl⟩, if_pos hn]
        rcases loops k (n - 1) (sStamps (sInt s).2).2 with h | h
        · exact .inl h
        · exact .inr (by rw [h])
    · rw [if_neg (fun h => hn h.1), if_neg hn]; exact .inr rfl
def rAll (b : List Int) : List S26 × Sight := rLoop 9 (sInt (b, false)).1 (sInt (b, false)).2
theorem rAll_ok (b : List Int) (q : Prop) : okDone (rAll b).2 = true ∧ q ↔ (okDone (pAll b).2 = true ∧ rAll b = pAll b) ∧ q := by
  have h := loops 9 (sInt (b, false)).1 (sInt (b, false)).2
  have hno : ∀ s : Sight, s.2 = true → ¬ okDone s = true := fun s hs k => of_decide_eq_true k (.inl hs)
  constructor
  · rintro ⟨k, hq⟩
    rcases h with h | h
    · exact absurd k (hno _ h.1)
    · have e : rAll b = pAll b := h
      exact ⟨⟨by rw [← e]; exact k, e⟩, hq⟩
  · rintro ⟨⟨k, e⟩, hq⟩
    exact ⟨by rw [e]; exact k, hq⟩
theorem num8 (x : Int) (h0 : 0 ≤ x) (h1 : x < 256) : ((UInt8.ofNat x.toNat).toNat : Int) = x := by
  simp; omega
theorem strOf_inj {xs ys : List Int} (hx : bytesOk xs) (hy : bytesOk ys) (h : (strOfNums xs).toList = (strOfNums ys).toList) : xs = ys := by
  rw [Go.Lib.strOfNums_toList, Go.Lib.strOfNums_toList] at h
  have key : ∀ zs : List Int, bytesOk zs → (Go.Lib.bytesOf zs).map (fun u => (u.toNat : Int)) = zs := fun zs hz => by
    unfold Go.Lib.bytesOf
    rw [List.map_map]
    conv => rhs; rw [← List.map_id zs]
    exact List.map_congr_left fun z hm => num8 z (hz z hm).1 (hz z hm).2
  rw [← key xs hx, ← key ys hy, h]
theorem laidDeps_bytes (d : List S26) : bytesOk (laidDeps d) := by
  have hS : ∀ l : List S41, bytesOk (laidSs l) := fun l x hx => by
    unfold laidSs at hx
    obtain ⟨y, hy, hx⟩ := List.mem_flatten.1 hx
    obtain ⟨s, _, rfl⟩ := List.mem_map.1 hy
    unfold laidS at hx
    exact (List.mem_append.1 hx).elim (laidI_bytes _ x) (laidI_bytes _ x)
  intro x hx
  unfold laidDeps at hx
  rcases List.mem_append.1 hx with hx | hx
  · exact laidI_bytes _ x hx
  · unfold laidDs at hx
    obtain ⟨y, hy, hx⟩ := List.mem_flatten.1 hx
    obtain ⟨e, _, rfl⟩ := List.mem_map.1 hy
    unfold laidD laidStamps at hx
    rcases List.mem_append.1 hx with hx | hx
    · exact laidI_bytes _ x hx
    · exact (List.mem_append.1 hx).elim (laidI_bytes _ x) (hS _ x)
set_option maxHeartbeats 4000000 in
set_option maxRecDepth 100000 in
theorem rParse_any (A : Option Addr) (c : Nat) (b : List Int) (w : World) (hr : Kd.C (Kd.int .u8) w A b.length b) (hb : bytesOk b) (hl : b.length ≤ 100000000) (R : List S26 × Int) (hR : (if parseOk b = true then ((pAll b).1, (0 : Int)) else ([], 60)) = R) :
    Calls Tryz.prog 10 #[.slice A b.length c] w fun e w' => ∃ v, e = .returned (.tuple #[v, .int .i64 R.2]) ∧ Kd.S k26 26 w' w.heap.size (fun _ => True) v R.1 ∧ Below w.heap.size w w' := by
  have hop := rfOpen_any A c b w hr (by omega)
  obtain ⟨F, hF⟩ : ∃ F, rAll b = F := ⟨_, rfl⟩
  obtain ⟨D, s⟩ := F
  have hs1 := rLoop_small 9 (sInt (b, false)).1 (sInt (b, false)).2 100000000 (Nat.le_trans (sInt_le (b, false)) hl)
  have hD9 := rLoop_len 9 (sInt (b, false)).1 (sInt (b, false)).2
  have hF' : rLoop 9 (sInt (b, false)).1 (sInt (b, false)).2 = (D, s) := hF
  rw [hF'] at hs1 hD9
  simp only at hs1 hD9
  obtain ⟨q, hq⟩ : ∃ q, chkD D = q := ⟨_, rfl⟩
  have hres : (okDone s = true ∧ q = 0 ∧ laidDeps D = b → R = (D, 0)) ∧ (¬ (okDone s = true ∧ q = 0 ∧ laidDeps D = b) → R = ([], 60)) := by
    have h1 := rAll_ok b (chkD (pAll b).1 = 0 ∧ laidDeps (pAll b).1 = b)
    have h2 := rAll_ok b (chkD D = 0 ∧ laidDeps D = b)
    rw [hF] at h1 h2
    simp only at h1 h2
    rw [← hR]
    constructor
    · rintro ⟨k1, k2, k3⟩
      obtain ⟨⟨m1, m2⟩, _⟩ := h2.1 ⟨k1, hq.trans k2, k3⟩
      have e1 : (pAll b).1 = D := by rw [← m2]
      rw [if_pos ((parseOk_iff b).2 ⟨m1, by rw [e1, hq]; exact k2, by rw [e1]; exact k3⟩), e1]
    · intro k
      rw [if_neg]
      intro hp
      obtain ⟨m1, m2, m3⟩ := (parseOk_iff b).1 hp
      rcases loops 9 (sInt (b, false)).1 (sInt (b, false)).2 with h | h
      · exact of_decide_eq_true m1 (.inl h.2)
      · have e : (D, s) = pAll b := hF.symm.trans h
        rw [← e] at m1 m2 m3
        exact k ⟨m1, hq.symm.trans m2, m3⟩
  obtain ⟨kc, hkc⟩ := (ev_check6 D (fun x hx => by have := hs1 x hx; omega) (by omega)).get
  rw [hq] at hkc
  have hlay : (laidDeps D).length ≤ 1000000000 := by
    have h1 := laidDs_le D 100000000 hs1
    have h2 : D.length * (16 + 100000000) ≤ 9 * (16 + 100000000) := Nat.mul_le_mul_right _ hD9
    unfold laidDeps
    rw [List.length_append, laidI_len]
    omega
  have HOP := Lib.hid hop
  have HX := Lib.hid (And.intro hr (And.intro hb (And.intro hl (And.intro hF' (And.intro hres (And.intro hkc hlay))))))
  have HD9 := Lib.hid hD9
  clear hop hr hb hl hF hF' hs1 hD9 hq hres hkc hlay hR
  go_enter Tryz.func10, Tryz.ntmps10
  go_wp2_with fail
  refine HOP.out.mono ?_
  rintro e w1 ⟨g, ab, rfl, hg, hab, hE1, hb1⟩
  have hrd := rfRead_any (b, false) hE1 HX.out.2.1 (by have := HX.out.2.2.1; omega) (by have := HX.out.2.2.1; simp only; omega)
  rw [HX.out.2.2.2.1] at hrd
  have HRD := Lib.hid (And.intro hrd (And.intro hb1 hg))
  clear hrd hE1 hb1 hg hab
  go_wp2_with fail
  refine HRD.out.1.mono ?_
  rintro e w2 ⟨v2, rfl, hS2, hE2, hu2⟩
  have hb2 : Below w.heap.size w w2 := HRD.out.2.1.trans (hu2.below HRD.out.2.1.size (fun q hq e => by have := HRD.out.2.2; omega))
  obtain ⟨A2, c2, rfl⟩ := Kd.S_slice hS2
  obtain ⟨_, hc2, hC2⟩ := Kd.S_reads' hS2
  have HS2 := Lib.hid (And.intro (Kd.S_lower hS2 HRD.out.2.1.size) (And.intro hb2 (And.intro hc2 hC2)))
  have HDN := Lib.hid (fun (W : World) (h : Below w2.heap.size w2 W) => rfDone_any (hE2.below h))
  clear hS2 hE2 hu2 hb2 hc2 hC2
  obtain ⟨dv, hdv⟩ : ∃ dv, (if s.2 = true ∨ s.1.length ≠ 0 then (20 : Int) else 0) = dv := ⟨_, rfl⟩
  rw [hdv] at HDN
  have hok : okDone s = decide (dv = 0) := by
    rw [← hdv]
    unfold okDone
    split
    · rename_i h; rw [decide_eq_false (fun hn => hn h)]; rfl
    · rename_i h; rw [decide_eq_true h]; rfl
  have HOK := Lib.hid hok
  clear hdv hok
  have hcb := fun (W : World) (h : Below w2.heap.size w2 W) => Kd.C_string (P := Tryz.prog) (A := A) (c := c) (dst := 9) Tryz.underlying23 Tryz.underlying5 Tryz.underlying9 (Kd.C_below HX.out.1 (HS2.out.2.1.trans (h.mono HS2.out.2.1.size)))
  have HCB := Lib.hid hcb
  have hcb0 := HCB.out w2.drew (below_drew (Below.refl _ _))
  clear hcb
  obtain ⟨sb, hsb⟩ : ∃ sb, strOfNums b = sb := ⟨_, rfl⟩
  obtain ⟨sx, hsx⟩ : ∃ sx, strOfNums (laidDeps D) = sx := ⟨_, rfl⟩
  rw [hsb] at HCB hcb0
  have HST := Lib.hid (And.intro hsb hsx)
  clear hsb hsx
  go_upto_region 3 with fail
  by_cases hd : dv = 0
  case neg =>
    have e1 : (dv == 0) = false := beq_eq_false_iff_ne.2 hd
    have e2 : (dv != 0) = true := bne_iff_ne.2 hd
    have HR := Lib.hid (HX.out.2.2.2.2.1.2 (fun h => by rw [HOK.out] at h; exact hd (of_decide_eq_true h.1)))
    refine wp_region_held (S := (fun W => Below w2.heap.size w2 W)) (by kernel_rfl) ?_;simp only [List.size_toArray, List.length_cons, List.length_nil, Nat.zero_add, Nat.reduceAdd]
    have hHeld : ((fun W => Below w2.heap.size w2 W)) w2.drew := below_drew (Below.refl _ _)
    refine wpAnyH_take (i := 0) (v := ?_) rfl (by kernel_rfl) (by kernel_rfl) (by kernel_rfl) (fun _ _ _ h => h) (Or.inl ⟨by rfl, ?_⟩) (by assumption) ?_;rotate_left
    · (intro w hSw; (try dsimp only at hSw); go_split_ands; go_simp; try with_reducible rfl)
    try simp only [List.getElem_toArray, List.getElem_cons_succ, List.getElem_cons_zero, Act.put, List.setIfInBounds_toArray, List.set_cons_zero, List.set_cons_succ]
    refine wpAnyH_ready (rs := [1]) (by kernel_rfl) (by simp) ?_;refine (AllReadyH.cons rfl (fun K hK => ?_) AllReadyH.nil);go_simp;refine (HDN.out _ hHeld).mono ?_
    rintro e w3 ⟨rfl, hb3⟩
    refine hK.out _ _ ?_ (fun hHeld => ?_)
    · exact hHeld.trans (hb3.mono hHeld.size)
    clear hK K
    have HB3 := Lib.hid hHeld
    clear hb3
    try simp only [List.getElem_toArray, List.getElem_cons_succ, List.getElem_cons_zero, Act.put, List.setIfInBounds_toArray, List.set_cons_zero, List.set_cons_succ]
    refine wpAnyH_take (i := 2) (v := ?_) rfl (by kernel_rfl) (by kernel_rfl) (by kernel_rfl) (fun _ _ _ h => h) (Or.inl ⟨by rfl, ?_⟩) (by assumption) ?_;rotate_left
    · (intro w hSw; (try dsimp only at hSw); go_split_ands; go_simp; try with_reducible rfl)
    try simp only [List.getElem_toArray, List.getElem_cons_succ, List.getElem_cons_zero, Act.put, List.setIfInBounds_toArray, List.set_cons_zero, List.set_cons_succ]
    refine wpAnyH_take (i := 3) (v := ?_) rfl (by kernel_rfl) (by kernel_rfl) (by kernel_rfl) (fun _ _ _ h => h) (Or.inl ⟨by rfl, ?_⟩) (by assumption) ?_;rotate_left
    · (intro w hSw; (try dsimp only at hSw); go_split_ands; go_simp; try with_reducible rfl)
    try simp only [List.getElem_toArray, List.getElem_cons_succ, List.getElem_cons_zero, Act.put, List.setIfInBounds_toArray, List.set_cons_zero, List.set_cons_succ]
    refine wpAnyH_take (i := 4) (v := undef) rfl (by kernel_rfl) (by kernel_rfl) (by kernel_rfl) (fun _ _ _ h => h) (Or.inr ⟨by rfl, rfl⟩) (by assumption) ?_
    try simp only [List.getElem_toArray, List.getElem_cons_succ, List.getElem_cons_zero, Act.put, List.setIfInBounds_toArray, List.set_cons_zero, List.set_cons_succ]
    refine wpAnyH_take (i := 5) (v := undef) rfl (by kernel_rfl) (by kernel_rfl) (by kernel_rfl) (fun _ _ _ h => h) (Or.inr ⟨by rfl, rfl⟩) (by assumption) ?_
    try simp only [List.getElem_toArray, List.getElem_cons_succ, List.getElem_cons_zero, Act.put, List.setIfInBounds_toArray, List.set_cons_zero, List.set_cons_succ]
    refine wpAnyH_take (i := 6) (v := undef) rfl (by kernel_rfl) (by kernel_rfl) (by kernel_rfl) (fun _ _ _ h => h) (Or.inr ⟨by rfl, rfl⟩) (by assumption) ?_
    try simp only [List.getElem_toArray, List.getElem_cons_succ, List.getElem_cons_zero, Act.put, List.setIfInBounds_toArray, List.set_cons_zero, List.set_cons_succ]
    refine wpAnyH_take (i := 7) (v := ?_) rfl (by kernel_rfl) (by kernel_rfl) (by kernel_rfl) (fun _ _ _ h => h) (Or.inl ⟨by rfl, ?_⟩) (by assumption) ?_;rotate_left
    · (intro w hSw; (try dsimp only at hSw); go_split_ands; go_simp; try with_reducible rfl)
    try simp only [List.getElem_toArray, List.getElem_cons_succ, List.getElem_cons_zero, Act.put, List.setIfInBounds_toArray, List.set_cons_zero, List.set_cons_succ]
    refine wpAnyH_take (i := 8) (v := ?_) rfl (by kernel_rfl) (by kernel_rfl) (by kernel_rfl) (fun _ _ _ h => h) (Or.inl ⟨by rfl, ?_⟩) (by assumption) ?_;rotate_left
    · (intro w hSw; (try dsimp only at hSw); go_split_ands; go_simp; try with_reducible rfl)
    try simp only [List.getElem_toArray, List.getElem_cons_succ, List.getElem_cons_zero, Act.put, List.setIfInBounds_toArray, List.set_cons_zero, List.set_cons_succ]
    refine wpAnyH_take (i := 9) (v := undef) rfl (by kernel_rfl) (by kernel_rfl) (by kernel_rfl) (fun _ _ _ h => h) (Or.inr ⟨by rfl, rfl⟩) (by assumption) ?_
    try simp only [List.getElem_toArray, List.getElem_cons_succ, List.getElem_cons_zero, Act.put, List.setIfInBounds_toArray, List.set_cons_zero, List.set_cons_succ]
    refine wpAnyH_take (i := 10) (v := undef) rfl (by kernel_rfl) (by kernel_rfl) (by kernel_rfl) (fun _ _ _ h => h) (Or.inr ⟨by rfl, rfl⟩) (by assumption) ?_
    try simp only [List.getElem_toArray, List.getElem_cons_succ, List.getElem_cons_zero, Act.put, List.setIfInBounds_toArray, List.set_cons_zero, List.set_cons_succ]
    refine wpAnyH_take (i := 11) (v := undef) rfl (by kernel_rfl) (by kernel_rfl) (by kernel_rfl) (fun _ _ _ h => h) (Or.inr ⟨by rfl, rfl⟩) (by assumption) ?_
    try simp only [List.getElem_toArray, List.getElem_cons_succ, List.getElem_cons_zero, Act.put, List.setIfInBounds_toArray, List.set_cons_zero, List.set_cons_succ]
    refine wpAnyH_take (i := 12) (v := undef) rfl (by kernel_rfl) (by kernel_rfl) (by kernel_rfl) (fun _ _ _ h => h) (Or.inr ⟨by rfl, rfl⟩) (by assumption) ?_
    try simp only [List.getElem_toArray, List.getElem_cons_succ, List.getElem_cons_zero, Act.put, List.setIfInBounds_toArray, List.set_cons_zero, List.set_cons_succ]
    refine wpAnyH_take (i := 13) (v := undef) rfl (by kernel_rfl) (by kernel_rfl) (by kernel_rfl) (fun _ _ _ h => h) (Or.inr ⟨by rfl, rfl⟩) (by assumption) ?_
    try simp only [List.getElem_toArray, List.getElem_cons_succ, List.getElem_cons_zero, Act.put, List.setIfInBounds_toArray, List.set_cons_zero, List.set_cons_succ]
    refine wpAnyH_take (i := 14) (v := undef) rfl (by kernel_rfl) (by kernel_rfl) (by kernel_rfl) (fun _ _ _ h => h) (Or.inr ⟨by rfl, rfl⟩) (by assumption) ?_
    try simp only [List.getElem_toArray, List.getElem_cons_succ, List.getElem_cons_zero, Act.put, List.setIfInBounds_toArray, List.set_cons_zero, List.set_cons_succ]
    refine wpAnyH_take (i := 15) (v := ?_) rfl (by kernel_rfl) (by kernel_rfl) (by kernel_rfl) (fun _ _ _ h => h) (Or.inl ⟨by rfl, ?_⟩) (by assumption) ?_;rotate_left
    · (intro w hSw; (try dsimp only at hSw); go_split_ands; go_simp; try with_reducible rfl)
    try simp only [List.getElem_toArray, List.getElem_cons_succ, List.getElem_cons_zero, Act.put, List.setIfInBounds_toArray, List.set_cons_zero, List.set_cons_succ]
    refine wpAnyH_done (by kernel_rfl) ?_ _
    go_wp2
    go_ret2
    have hr := HR.out;subst hr
    exact ⟨_, rfl, Kd.S_nil _ _ _ _ _, HS2.out.2.1.trans (HB3.out.mono HS2.out.2.1.size)⟩
  case pos =>
    subst hd
    have hok2 : okDone s = true := by rw [HOK.out]; rfl
    have HOK2 := Lib.hid hok2
    clear hok2
    by_cases hq : q = 0
    case neg =>
      have e1 : (q == 0) = false := beq_eq_false_iff_ne.2 hq
      have e2 : (q != 0) = true := bne_iff_ne.2 hq
      have HR := Lib.hid (HX.out.2.2.2.2.1.2 (fun h => hq h.2.1))
      refine wp_region_held (S := (fun W => Below w2.heap.size w2 W)) (by kernel_rfl) ?_;simp only [List.size_toArray, List.length_cons, List.length_nil, Nat.zero_add, Nat.reduceAdd]
      have hHeld : ((fun W => Below w2.heap.size w2 W)) w2.drew := below_drew (Below.refl _ _)
      refine wpAnyH_take (i := 0) (v := ?_) rfl (by kernel_rfl) (by kernel_rfl) (by kernel_rfl) (fun _ _ _ h => h) (Or.inl ⟨by rfl, ?_⟩) (by assumption) ?_;rotate_left
      · (intro w hSw; (try dsimp only at hSw); go_split_ands; go_simp; try with_reducible rfl)
      try simp only [List.getElem_toArray, List.getElem_cons_succ, List.getElem_cons_zero, Act.put, List.setIfInBounds_toArray, List.set_cons_zero, List.set_cons_succ]
      refine wpAnyH_ready (rs := [1]) (by kernel_rfl) (by simp) ?_;refine (AllReadyH.cons rfl (fun K hK => ?_) AllReadyH.nil);go_simp;refine (HDN.out _ hHeld).mono ?_
      rintro e w3 ⟨rfl, hb3⟩
      refine hK.out _ _ ?_ (fun hHeld => ?_)
      · exact hHeld.trans (hb3.mono hHeld.size)
      clear hK K hb3
      try simp only [List.getElem_toArray, List.getElem_cons_succ, List.getElem_cons_zero, Act.put, List.setIfInBounds_toArray, List.set_cons_zero, List.set_cons_succ]
      refine wpAnyH_take (i := 2) (v := ?_) rfl (by kernel_rfl) (by kernel_rfl) (by kernel_rfl) (fun _ _ _ h => h) (Or.inl ⟨by rfl, ?_⟩) (by assumption) ?_;rotate_left
      · (intro w hSw; (try dsimp only at hSw); go_split_ands; go_simp; try with_reducible rfl)
      try simp only [List.getElem_toArray, List.getElem_cons_succ, List.getElem_cons_zero, Act.put, List.setIfInBounds_toArray, List.set_cons_zero, List.set_cons_succ]
      refine wpAnyH_take (i := 3) (v := ?_) rfl (by kernel_rfl) (by kernel_rfl) (by kernel_rfl) (fun _ _ _ h => h) (Or.inl ⟨by rfl, ?_⟩) (by assumption) ?_;rotate_left
      · (intro w hSw; (try dsimp only at hSw); go_split_ands; go_simp; try with_reducible rfl)
      try simp only [List.getElem_toArray, List.getElem_cons_succ, List.getElem_cons_zero, Act.put, List.setIfInBounds_toArray, List.set_cons_zero, List.set_cons_succ]
      refine wpAnyH_take (i := 4) (v := ?_) rfl (by kernel_rfl) (by kernel_rfl) (by kernel_rfl) (fun _ _ _ h => h) (Or.inl ⟨by rfl, ?_⟩) (by assumption) ?_;rotate_left
      · (intro w hSw; (try dsimp only at hSw); go_split_ands; go_simp; try with_reducible rfl)
      try simp only [List.getElem_toArray, List.getElem_cons_succ, List.getElem_cons_zero, Act.put, List.setIfInBounds_toArray, List.set_cons_zero, List.set_cons_succ]
      refine wpAnyH_ready (rs := [5]) (by kernel_rfl) (by simp) ?_;refine (AllReadyH.cons rfl (fun K hK => ?_) AllReadyH.nil);go_simp;refine (folkmootref06_Check.calls kc A2 c2 D _ _ (Kd.C_below HS2.out.2.2.2 hHeld) HS2.out.2.2.1 HX.out.2.2.2.2.2.1).mono ?_
      rintro e w4 ⟨rfl, hb4⟩
      refine hK.out _ _ ?_ (fun hHeld => ?_)
      · exact hHeld.trans (hb4.mono hHeld.size)
      clear hK K
      have HB3 := Lib.hid hHeld
      clear hb4
      try simp only [List.getElem_toArray, List.getElem_cons_succ, List.getElem_cons_zero, Act.put, List.setIfInBounds_toArray, List.set_cons_zero, List.set_cons_succ]
      refine wpAnyH_take (i := 6) (v := ?_) rfl (by kernel_rfl) (by kernel_rfl) (by kernel_rfl) (fun _ _ _ h => h) (Or.inl ⟨by rfl, ?_⟩) (by assumption) ?_;rotate_left
      · (intro w hSw; (try dsimp only at hSw); go_split_ands; go_simp; try with_reducible rfl)
      try simp only [List.getElem_toArray, List.getElem_cons_succ, List.getElem_cons_zero, Act.put, List.setIfInBounds_toArray, List.set_cons_zero, List.set_cons_succ]
      refine wpAnyH_take (i := 7) (v := ?_) rfl (by kernel_rfl) (by kernel_rfl) (by kernel_rfl) (fun _ _ _ h => h) (Or.inl ⟨by rfl, ?_⟩) (by assumption) ?_;rotate_left
      · (intro w hSw; (try dsimp only at hSw); go_split_ands; go_simp; try with_reducible rfl)
      try simp only [List.getElem_toArray, List.getElem_cons_succ, List.getElem_cons_zero, Act.put, List.setIfInBounds_toArray, List.set_cons_zero, List.set_cons_succ]
      refine wpAnyH_take (i := 8) (v := ?_) rfl (by kernel_rfl) (by kernel_rfl) (by kernel_rfl) (fun _ _ _ h => h) (Or.inl ⟨by rfl, ?_⟩) (by assumption) ?_;rotate_left
      · (intro w hSw; (try dsimp only at hSw); go_split_ands; go_simp; try with_reducible rfl)
      try simp only [List.getElem_toArray, List.getElem_cons_succ, List.getElem_cons_zero, Act.put, List.setIfInBounds_toArray, List.set_cons_zero, List.set_cons_succ]
      refine wpAnyH_take (i := 9) (v := undef) rfl (by kernel_rfl) (by kernel_rfl) (by kernel_rfl) (fun _ _ _ h => h) (Or.inr ⟨by rfl, rfl⟩) (by assumption) ?_
      try simp only [List.getElem_toArray, List.getElem_cons_succ, List.getElem_cons_zero, Act.put, List.setIfInBounds_toArray, List.set_cons_zero, List.set_cons_succ]
      refine wpAnyH_take (i := 10) (v := undef) rfl (by kernel_rfl) (by kernel_rfl) (by kernel_rfl) (fun _ _ _ h => h) (Or.inr ⟨by rfl, rfl⟩) (by assumption) ?_
      try simp only [List.getElem_toArray, List.getElem_cons_succ, List.getElem_cons_zero, Act.put, List.setIfInBounds_toArray, List.set_cons_zero, List.set_cons_succ]
      refine wpAnyH_take (i := 11) (v := undef) rfl (by kernel_rfl) (by kernel_rfl) (by kernel_rfl) (fun _ _ _ h => h) (Or.inr ⟨by rfl, rfl⟩) (by assumption) ?_
      try simp only [List.getElem_toArray, List.getElem_cons_succ, List.getElem_cons_zero, Act.put, List.setIfInBounds_toArray, List.set_cons_zero, List.set_cons_succ]
      refine wpAnyH_take (i := 12) (v := undef) rfl (by kernel_rfl) (by kernel_rfl) (by kernel_rfl) (fun _ _ _ h => h) (Or.inr ⟨by rfl, rfl⟩) (by assumption) ?_
      try simp only [List.getElem_toArray, List.getElem_cons_succ, List.getElem_cons_zero, Act.put, List.setIfInBounds_toArray, List.set_cons_zero, List.set_cons_succ]
      refine wpAnyH_take (i := 13) (v := undef) rfl (by kernel_rfl) (by kernel_rfl) (by kernel_rfl) (fun _ _ _ h => h) (Or.inr ⟨by rfl, rfl⟩) (by assumption) ?_
      try simp only [List.getElem_toArray, List.getElem_cons_succ, List.getElem_cons_zero, Act.put, List.setIfInBounds_toArray, List.set_cons_zero, List.set_cons_succ]
      refine wpAnyH_take (i := 14) (v := undef) rfl (by kernel_rfl) (by kernel_rfl) (by kernel_rfl) (fun _ _ _ h => h) (Or.inr ⟨by rfl, rfl⟩) (by assumption) ?_
      try simp only [List.getElem_toArray, List.getElem_cons_succ, List.getElem_cons_zero, Act.put, List.setIfInBounds_toArray, List.set_cons_zero, List.set_cons_succ]
      refine wpAnyH_take (i := 15) (v := ?_) rfl (by kernel_rfl) (by kernel_rfl) (by kernel_rfl) (fun _ _ _ h => h) (Or.inl ⟨by rfl, ?_⟩) (by assumption) ?_;rotate_left
      · (intro w hSw; (try dsimp only at hSw); go_split_ands; go_simp; try with_reducible rfl)
      try simp only [List.getElem_toArray, List.getElem_cons_succ, List.getElem_cons_zero, Act.put, List.setIfInBounds_toArray, List.set_cons_zero, List.set_cons_succ]
      refine wpAnyH_done (by kernel_rfl) ?_ _
      go_wp2
      go_ret2
      have hr := HR.out;subst hr
      exact ⟨_, rfl, Kd.S_nil _ _ _ _ _, HS2.out.2.1.trans (HB3.out.mono HS2.out.2.1.size)⟩
    case pos =>
      subst hq
      by_cases hbe : laidDeps D = b
      case pos =>
        have hss : sb = sx := by rw [← HST.out.1, ← HST.out.2, hbe]
        have HR := Lib.hid (HX.out.2.2.2.2.1.1 ⟨HOK2.out, rfl, hbe⟩)
        subst hss;clear hbe;refine wp_region_held (S := (fun W => Below w2.heap.size w2 W ∧ (convert 23 9 (.slice A b.length c)).run Tryz.prog W = .ok (.string sb) W)) (by kernel_rfl) ?_;simp only [List.size_toArray, List.length_cons, List.length_nil, Nat.zero_add, Nat.reduceAdd]
        have hHeld : ((fun W => Below w2.heap.size w2 W ∧ (convert 23 9 (.slice A b.length c)).run Tryz.prog W = .ok (.string sb) W)) w2.drew := ⟨below_drew (Below.refl _ _), hcb0⟩
        refine wpAnyH_take (i := 0) (v := ?_) rfl (by kernel_rfl) (by kernel_rfl) (by kernel_rfl) (fun _ _ _ h => h) (Or.inl ⟨by rfl, ?_⟩) (by assumption) ?_;rotate_left
        · (intro w hSw; (try dsimp only at hSw); go_split_ands; go_simp; try with_reducible rfl)
        try simp only [List.getElem_toArray, List.getElem_cons_succ, List.getElem_cons_zero, Act.put, List.setIfInBounds_toArray, List.set_cons_zero, List.set_cons_succ]
        refine wpAnyH_ready (rs := [1]) (by kernel_rfl) (by simp) ?_;refine (AllReadyH.cons rfl (fun K hK => ?_) AllReadyH.nil);go_simp;refine (HDN.out _ hHeld.1).mono ?_
        rintro e w3 ⟨rfl, hb3⟩
        refine hK.out _ _ ?_ (fun hHeld => ?_)
        · exact ⟨hHeld.1.trans (hb3.mono hHeld.1.size), HCB.out _ (hHeld.1.trans (hb3.mono hHeld.1.size))⟩
        clear hK K hb3
        try simp only [List.getElem_toArray, List.getElem_cons_succ, List.getElem_cons_zero, Act.put, List.setIfInBounds_toArray, List.set_cons_zero, List.set_cons_succ]
        refine wpAnyH_take (i := 2) (v := ?_) rfl (by kernel_rfl) (by kernel_rfl) (by kernel_rfl) (fun _ _ _ h => h) (Or.inl ⟨by rfl, ?_⟩) (by assumption) ?_;rotate_left
        · (intro w hSw; (try dsimp only at hSw); go_split_ands; go_simp; try with_reducible rfl)
        try simp only [List.getElem_toArray, List.getElem_cons_succ, List.getElem_cons_zero, Act.put, List.setIfInBounds_toArray, List.set_cons_zero, List.set_cons_succ]
        refine wpAnyH_take (i := 3) (v := ?_) rfl (by kernel_rfl) (by kernel_rfl) (by kernel_rfl) (fun _ _ _ h => h) (Or.inl ⟨by rfl, ?_⟩) (by assumption) ?_;rotate_left
        · (intro w hSw; (try dsimp only at hSw); go_split_ands; go_simp; try with_reducible rfl)
        try simp only [List.getElem_toArray, List.getElem_cons_succ, List.getElem_cons_zero, Act.put, List.setIfInBounds_toArray, List.set_cons_zero, List.set_cons_succ]
        refine wpAnyH_take (i := 4) (v := ?_) rfl (by kernel_rfl) (by kernel_rfl) (by kernel_rfl) (fun _ _ _ h => h) (Or.inl ⟨by rfl, ?_⟩) (by assumption) ?_;rotate_left
        · (intro w hSw; (try dsimp only at hSw); go_split_ands; go_simp; try with_reducible rfl)
        try simp only [List.getElem_toArray, List.getElem_cons_succ, List.getElem_cons_zero, Act.put, List.setIfInBounds_toArray, List.set_cons_zero, List.set_cons_succ]
        refine wpAnyH_ready (rs := [5]) (by kernel_rfl) (by simp) ?_;refine (AllReadyH.cons rfl (fun K hK => ?_) AllReadyH.nil);go_simp;refine (folkmootref06_Check.calls kc A2 c2 D _ _ (Kd.C_below HS2.out.2.2.2 hHeld.1) HS2.out.2.2.1 HX.out.2.2.2.2.2.1).mono ?_
        rintro e w4 ⟨rfl, hb4⟩
        refine hK.out _ _ ?_ (fun hHeld => ?_)
        · exact ⟨hHeld.1.trans (hb4.mono hHeld.1.size), HCB.out _ (hHeld.1.trans (hb4.mono hHeld.1.size))⟩
        clear hK K hb4
        try simp only [List.getElem_toArray, List.getElem_cons_succ, List.getElem_cons_zero, Act.put, List.setIfInBounds_toArray, List.set_cons_zero, List.set_cons_succ]
        refine wpAnyH_take (i := 6) (v := ?_) rfl (by kernel_rfl) (by kernel_rfl) (by kernel_rfl) (fun _ _ _ h => h) (Or.inl ⟨by rfl, ?_⟩) (by assumption) ?_;rotate_left
        · (intro w hSw; (try dsimp only at hSw); go_split_ands; go_simp; try with_reducible rfl)
        try simp only [List.getElem_toArray, List.getElem_cons_succ, List.getElem_cons_zero, Act.put, List.setIfInBounds_toArray, List.set_cons_zero, List.set_cons_succ]
        refine wpAnyH_take (i := 7) (v := ?_) rfl (by kernel_rfl) (by kernel_rfl) (by kernel_rfl) (fun _ _ _ h => h) (Or.inl ⟨by rfl, ?_⟩) (by assumption) ?_;rotate_left
        · (intro w hSw; (try dsimp only at hSw); go_split_ands; go_simp; try with_reducible rfl)
        try simp only [List.getElem_toArray, List.getElem_cons_succ, List.getElem_cons_zero, Act.put, List.setIfInBounds_toArray, List.set_cons_zero, List.set_cons_succ]
        refine wpAnyH_take (i := 8) (v := ?_) rfl (by kernel_rfl) (by kernel_rfl) (by kernel_rfl) (fun _ _ _ h => h) (Or.inl ⟨by rfl, ?_⟩) (by assumption) ?_;rotate_left
        · (intro w hSw; (try dsimp only at hSw); go_split_ands; go_simp; try with_reducible rfl)
        try simp only [List.getElem_toArray, List.getElem_cons_succ, List.getElem_cons_zero, Act.put, List.setIfInBounds_toArray, List.set_cons_zero, List.set_cons_succ]
        refine wpAnyH_take (i := 9) (v := ?_) rfl (by kernel_rfl) (by kernel_rfl) (by kernel_rfl) (fun _ _ _ h => h) (Or.inl ⟨by rfl, ?_⟩) (by assumption) ?_;rotate_left
        · (intro w hSw; (try dsimp only at hSw); go_split_ands; go_simp; try with_reducible rfl)
        try simp only [List.getElem_toArray, List.getElem_cons_succ, List.getElem_cons_zero, Act.put, List.setIfInBounds_toArray, List.set_cons_zero, List.set_cons_succ]
        refine wpAnyH_take (i := 12) (v := ?_) rfl (by kernel_rfl) (by kernel_rfl) (by kernel_rfl) (fun _ _ _ h => h) (Or.inl ⟨by rfl, ?_⟩) (by assumption) ?_;rotate_left
        · (intro w hSw; (try dsimp only at hSw); go_split_ands; go_simp; try with_reducible rfl)
        try simp only [List.getElem_toArray, List.getElem_cons_succ, List.getElem_cons_zero, Act.put, List.setIfInBounds_toArray, List.set_cons_zero, List.set_cons_succ]
        refine wpAnyH_take (i := 13) (v := ?_) rfl (by kernel_rfl) (by kernel_rfl) (by kernel_rfl) (fun _ _ _ h => h) (Or.inl ⟨by rfl, ?_⟩) (by assumption) ?_;rotate_left
        · (intro w hSw; (try dsimp only at hSw); go_split_ands; go_simp; try with_reducible rfl)
        try simp only [List.getElem_toArray, List.getElem_cons_succ, List.getElem_cons_zero, Act.put, List.setIfInBounds_toArray, List.set_cons_zero, List.set_cons_succ]
        refine wpAnyH_ready (rs := [10]) (by kernel_rfl) (by simp) ?_;refine (AllReadyH.cons rfl (fun K hK => ?_) AllReadyH.nil);go_simp;refine (rLay_any A2 c2 D _ (Kd.C_below HS2.out.2.2.2 hHeld.1) HX.out.2.2.2.2.2.2).mono ?_
        rintro e w5 ⟨v5, rfl, ho5, hb5⟩
        obtain ⟨A5, c5, rfl, hc5, hC5⟩ := Kd.R_reads ho5
        have HL := Lib.hid (Kd.C_string (P := Tryz.prog) (A := A5) (c := c5) (dst := 9) Tryz.underlying23 Tryz.underlying5 Tryz.underlying9 hC5)
        rw [HST.out.2] at HL
        refine hK.out _ _ ?_ (fun hHeld => ?_)
        · exact ⟨hHeld.1.trans (hb5.mono hHeld.1.size), HCB.out _ (hHeld.1.trans (hb5.mono hHeld.1.size))⟩
        clear hK K ho5 hb5 hc5 hC5
        try simp only [List.getElem_toArray, List.getElem_cons_succ, List.getElem_cons_zero, Act.put, List.setIfInBounds_toArray, List.set_cons_zero, List.set_cons_succ]
        refine wpAnyH_ready (rs := [11]) (by kernel_rfl) (by simp) ?_;refine (AllReadyH.cons rfl (fun K hK => ?_) AllReadyH.nil);have hcl := HL.out;go_simp;clear hcl;refine hK.out _ _ ?_ (fun hHeld => ?_)
        · exact hHeld
        clear hK K
        have HB3 := Lib.hid hHeld.1
        try simp only [List.getElem_toArray, List.getElem_cons_succ, List.getElem_cons_zero, Act.put, List.setIfInBounds_toArray, List.set_cons_zero, List.set_cons_succ]
        refine wpAnyH_take (i := 14) (v := ?_) rfl (by kernel_rfl) (by kernel_rfl) (by kernel_rfl) (fun _ _ _ h => h) (Or.inl ⟨by rfl, ?_⟩) (by assumption) ?_;rotate_left
        · (intro w hSw; (try dsimp only at hSw); go_split_ands; go_simp; try with_reducible rfl)
        try simp only [List.getElem_toArray, List.getElem_cons_succ, List.getElem_cons_zero, Act.put, List.setIfInBounds_toArray, List.set_cons_zero, List.set_cons_succ]
        refine wpAnyH_take (i := 15) (v := ?_) rfl (by kernel_rfl) (by kernel_rfl) (by kernel_rfl) (fun _ _ _ h => h) (Or.inl ⟨by rfl, ?_⟩) (by assumption) ?_;rotate_left
        · (intro w hSw; (try dsimp only at hSw); go_split_ands; go_simp; try with_reducible rfl)
        try simp only [List.getElem_toArray, List.getElem_cons_succ, List.getElem_cons_zero, Act.put, List.setIfInBounds_toArray, List.set_cons_zero, List.set_cons_succ]
        refine wpAnyH_done (by kernel_rfl) ?_ _
        go_wp2
        go_ret2
        have hr := HR.out;subst hr
        exact ⟨_, rfl, Kd.S_below HS2.out.1 HB3.out, HS2.out.2.1.trans (HB3.out.mono HS2.out.2.1.size)⟩
      case neg =>
        have hss : ¬ sx.toList = sb.toList := fun h => hbe (strOf_inj (laidDeps_bytes D) HX.out.2.1 (by rw [HST.out.1, HST.out.2]; exact h))
        have HR := Lib.hid (HX.out.2.2.2.2.1.2 (fun h => hbe h.2.2))
        have f1 : (sx.toList == sb.toList) = false := beq_eq_false_iff_ne.2 hss
        have f2 : (sx.toList != sb.toList) = true := bne_iff_ne.2 hss
        clear hbe hss;refine wp_region_held (S := (fun W => Below w2.heap.size w2 W ∧ (convert 23 9 (.slice A b.length c)).run Tryz.prog W = .ok (.string sb) W)) (by kernel_rfl) ?_;simp only [List.size_toArray, List.length_cons, List.length_nil, Nat.zero_add, Nat.reduceAdd]
        have hHeld : ((fun W => Below w2.heap.size w2 W ∧ (convert 23 9 (.slice A b.length c)).run Tryz.prog W = .ok (.string sb) W)) w2.drew := ⟨below_drew (Below.refl _ _), hcb0⟩
        refine wpAnyH_take (i := 0) (v := ?_) rfl (by kernel_rfl) (by kernel_rfl) (by kernel_rfl) (fun _ _ _ h => h) (Or.inl ⟨by rfl, ?_⟩) (by assumption) ?_;rotate_left
        · (intro w hSw; (try dsimp only at hSw); go_split_ands; go_simp; try with_reducible rfl)
        try simp only [List.getElem_toArray, List.getElem_cons_succ, List.getElem_cons_zero, Act.put, List.setIfInBounds_toArray, List.set_cons_zero, List.set_cons_succ]
        refine wpAnyH_ready (rs := [1]) (by kernel_rfl) (by simp) ?_;refine (AllReadyH.cons rfl (fun K hK => ?_) AllReadyH.nil);go_simp;refine (HDN.out _ hHeld.1).mono ?_
        rintro e w3 ⟨rfl, hb3⟩
        refine hK.out _ _ ?_ (fun hHeld => ?_)
        · exact ⟨hHeld.1.trans (hb3.mono hHeld.1.size), HCB.out _ (hHeld.1.trans (hb3.mono hHeld.1.size))⟩
        clear hK K hb3
        try simp only [List.getElem_toArray, List.getElem_cons_succ, List.getElem_cons_zero, Act.put, List.setIfInBounds_toArray, List.set_cons_zero, List.set_cons_succ]
        refine wpAnyH_take (i := 2) (v := ?_) rfl (by kernel_rfl) (by kernel_rfl) (by kernel_rfl) (fun _ _ _ h => h) (Or.inl ⟨by rfl, ?_⟩) (by assumption) ?_;rotate_left
        · (intro w hSw; (try dsimp only at hSw); go_split_ands; go_simp; try with_reducible rfl)
        try simp only [List.getElem_toArray, List.getElem_cons_succ, List.getElem_cons_zero, Act.put, List.setIfInBounds_toArray, List.set_cons_zero, List.set_cons_succ]
        refine wpAnyH_take (i := 3) (v := ?_) rfl (by kernel_rfl) (by kernel_rfl) (by kernel_rfl) (fun _ _ _ h => h) (Or.inl ⟨by rfl, ?_⟩) (by assumption) ?_;rotate_left
        · (intro w hSw; (try dsimp only at hSw); go_split_ands; go_simp; try with_reducible rfl)
        try simp only [List.getElem_toArray, List.getElem_cons_succ, List.getElem_cons_zero, Act.put, List.setIfInBounds_toArray, List.set_cons_zero, List.set_cons_succ]
        refine wpAnyH_take (i := 4) (v := ?_) rfl (by kernel_rfl) (by kernel_rfl) (by kernel_rfl) (fun _ _ _ h => h) (Or.inl ⟨by rfl, ?_⟩) (by assumption) ?_;rotate_left
        · (intro w hSw; (try dsimp only at hSw); go_split_ands; go_simp; try with_reducible rfl)
        try simp only [List.getElem_toArray, List.getElem_cons_succ, List.getElem_cons_zero, Act.put, List.setIfInBounds_toArray, List.set_cons_zero, List.set_cons_succ]
        refine wpAnyH_ready (rs := [5]) (by kernel_rfl) (by simp) ?_;refine (AllReadyH.cons rfl (fun K hK => ?_) AllReadyH.nil);go_simp;refine (folkmootref06_Check.calls kc A2 c2 D _ _ (Kd.C_below HS2.out.2.2.2 hHeld.1) HS2.out.2.2.1 HX.out.2.2.2.2.2.1).mono ?_
        rintro e w4 ⟨rfl, hb4⟩
        refine hK.out _ _ ?_ (fun hHeld => ?_)
        · exact ⟨hHeld.1.trans (hb4.mono hHeld.1.size), HCB.out _ (hHeld.1.trans (hb4.mono hHeld.1.size))⟩
        clear hK K hb4
        try simp only [List.getElem_toArray, List.getElem_cons_succ, List.getElem_cons_zero, Act.put, List.setIfInBounds_toArray, List.set_cons_zero, List.set_cons_succ]
        refine wpAnyH_take (i := 6) (v := ?_) rfl (by kernel_rfl) (by kernel_rfl) (by kernel_rfl) (fun _ _ _ h => h) (Or.inl ⟨by rfl, ?_⟩) (by assumption) ?_;rotate_left
        · (intro w hSw; (try dsimp only at hSw); go_split_ands; go_simp; try with_reducible rfl)
        try simp only [List.getElem_toArray, List.getElem_cons_succ, List.getElem_cons_zero, Act.put, List.setIfInBounds_toArray, List.set_cons_zero, List.set_cons_succ]
        refine wpAnyH_take (i := 7) (v := ?_) rfl (by kernel_rfl) (by kernel_rfl) (by kernel_rfl) (fun _ _ _ h => h) (Or.inl ⟨by rfl, ?_⟩) (by assumption) ?_;rotate_left
        · (intro w hSw; (try dsimp only at hSw); go_split_ands; go_simp; try with_reducible rfl)
        try simp only [List.getElem_toArray, List.getElem_cons_succ, List.getElem_cons_zero, Act.put, List.setIfInBounds_toArray, List.set_cons_zero, List.set_cons_succ]
        refine wpAnyH_take (i := 8) (v := ?_) rfl (by kernel_rfl) (by kernel_rfl) (by kernel_rfl) (fun _ _ _ h => h) (Or.inl ⟨by rfl, ?_⟩) (by assumption) ?_;rotate_left
        · (intro w hSw; (try dsimp only at hSw); go_split_ands; go_simp; try with_reducible rfl)
        try simp only [List.getElem_toArray, List.getElem_cons_succ, List.getElem_cons_zero, Act.put, List.setIfInBounds_toArray, List.set_cons_zero, List.set_cons_succ]
        refine wpAnyH_take (i := 9) (v := ?_) rfl (by kernel_rfl) (by kernel_rfl) (by kernel_rfl) (fun _ _ _ h => h) (Or.inl ⟨by rfl, ?_⟩) (by assumption) ?_;rotate_left
        · (intro w hSw; (try dsimp only at hSw); go_split_ands; go_simp; try with_reducible rfl)
        try simp only [List.getElem_toArray, List.getElem_cons_succ, List.getElem_cons_zero, Act.put, List.setIfInBounds_toArray, List.set_cons_zero, List.set_cons_succ]
        refine wpAnyH_take (i := 12) (v := ?_) rfl (by kernel_rfl) (by kernel_rfl) (by kernel_rfl) (fun _ _ _ h => h) (Or.inl ⟨by rfl, ?_⟩) (by assumption) ?_;rotate_left
        · (intro w hSw; (try dsimp only at hSw); go_split_ands; go_simp; try with_reducible rfl)
        try simp only [List.getElem_toArray, List.getElem_cons_succ, List.getElem_cons_zero, Act.put, List.setIfInBounds_toArray, List.set_cons_zero, List.set_cons_succ]
        refine wpAnyH_take (i := 13) (v := ?_) rfl (by kernel_rfl) (by kernel_rfl) (by kernel_rfl) (fun _ _ _ h => h) (Or.inl ⟨by rfl, ?_⟩) (by assumption) ?_;rotate_left
        · (intro w hSw; (try dsimp only at hSw); go_split_ands; go_simp; try with_reducible rfl)
        try simp only [List.getElem_toArray, List.getElem_cons_succ, List.getElem_cons_zero, Act.put, List.setIfInBounds_toArray, List.set_cons_zero, List.set_cons_succ]
        refine wpAnyH_ready (rs := [10]) (by kernel_rfl) (by simp) ?_;refine (AllReadyH.cons rfl (fun K hK => ?_) AllReadyH.nil);go_simp;refine (rLay_any A2 c2 D _ (Kd.C_below HS2.out.2.2.2 hHeld.1) HX.out.2.2.2.2.2.2).mono ?_
        rintro e w5 ⟨v5, rfl, ho5, hb5⟩
        obtain ⟨A5, c5, rfl, hc5, hC5⟩ := Kd.R_reads ho5
        have HL := Lib.hid (Kd.C_string (P := Tryz.prog) (A := A5) (c := c5) (dst := 9) Tryz.underlying23 Tryz.underlying5 Tryz.underlying9 hC5)
        rw [HST.out.2] at HL
        refine hK.out _ _ ?_ (fun hHeld => ?_)
        · exact ⟨hHeld.1.trans (hb5.mono hHeld.1.size), HCB.out _ (hHeld.1.trans (hb5.mono hHeld.1.size))⟩
        clear hK K ho5 hb5 hc5 hC5
        try simp only [List.getElem_toArray, List.getElem_cons_succ, List.getElem_cons_zero, Act.put, List.setIfInBounds_toArray, List.set_cons_zero, List.set_cons_succ]
        refine wpAnyH_ready (rs := [11]) (by kernel_rfl) (by simp) ?_;refine (AllReadyH.cons rfl (fun K hK => ?_) AllReadyH.nil);have hcl := HL.out;go_simp;clear hcl;refine hK.out _ _ ?_ (fun hHeld => ?_)
        · exact hHeld
        clear hK K
        have HB3 := Lib.hid hHeld.1
        try simp only [List.getElem_toArray, List.getElem_cons_succ, List.getElem_cons_zero, Act.put, List.setIfInBounds_toArray, List.set_cons_zero, List.set_cons_succ]
        refine wpAnyH_take (i := 14) (v := ?_) rfl (by kernel_rfl) (by kernel_rfl) (by kernel_rfl) (fun _ _ _ h => h) (Or.inl ⟨by rfl, ?_⟩) (by assumption) ?_;rotate_left
        · (intro w hSw; (try dsimp only at hSw); go_split_ands; go_simp; try with_reducible rfl)
        try simp only [List.getElem_toArray, List.getElem_cons_succ, List.getElem_cons_zero, Act.put, List.setIfInBounds_toArray, List.set_cons_zero, List.set_cons_succ]
        refine wpAnyH_take (i := 15) (v := ?_) rfl (by kernel_rfl) (by kernel_rfl) (by kernel_rfl) (fun _ _ _ h => h) (Or.inl ⟨by rfl, ?_⟩) (by assumption) ?_;rotate_left
        · (intro w hSw; (try dsimp only at hSw); go_split_ands; go_simp; try with_reducible rfl)
        try simp only [List.getElem_toArray, List.getElem_cons_succ, List.getElem_cons_zero, Act.put, List.setIfInBounds_toArray, List.set_cons_zero, List.set_cons_succ]
        refine wpAnyH_done (by kernel_rfl) ?_ _
        go_wp2
        go_ret2
        have hr := HR.out;subst hr
        exact ⟨_, rfl, Kd.S_nil _ _ _ _ _, HS2.out.2.1.trans (HB3.out.mono HS2.out.2.1.size)⟩
def folkmootref06_Parse.f (b : List Int) : Option (List S26 × Int) := deps_Parse.f b
theorem folkmootref06_Parse.calls (A0 : Option Addr) (c0 : Nat) (l0 : List Int) (r0 : List S26) (r1 : Int) (w : World) (hr0 : Kd.C (Kd.int .u8) w A0 l0.length l0) (_hc0 : l0.length ≤ c0) (h : folkmootref06_Parse.f l0 = some (r0, r1)) :
    Calls Tryz.prog 10 #[.slice A0 l0.length c0] w fun e w' => ∃ v0_ : Value, e = .returned (.tuple #[v0_, .int .i64 r1]) ∧ Kd.S k26 26 w' w.heap.size (fun _ => True) v0_ r0 ∧ Below w.heap.size w w' := by
  unfold folkmootref06_Parse.f deps_Parse.f at h
  split at h
  · rename_i hc
    exact rParse_any A0 c0 l0 w hr0 hc.1 hc.2 (r0, r1) (Option.some.inj h)
  · cases h
end Go.Proofs.YtaedlmeaconflaaGreat.P
end
