/- The statements' own live tally. -/
import Derived.Test.YtmljpidhhiineaaPTop
namespace Go.Proofs.Ytmljpidhhiineaa.P
open Go.RowKit Go.Proofs.YtmljpidhhiineaaW.PrintWords Go.Proofs.YtmljpidhhiineaaW.PrintLast
def twoL : List S40 := [(⟨(⟨(⟨#[]⟩ : ByteArray), (⟨#[109]⟩ : ByteArray)⟩ : S38), (([1, 2, 3] : List Int))⟩ : S40), (⟨(⟨(⟨#[109]⟩ : ByteArray), (⟨#[]⟩ : ByteArray)⟩ : S38), (([3, 4, 5] : List Int))⟩ : S40)]
theorem twoL_nodes : nodesP twoL [0, 1] = [1, 2, 3, 4, 5] := by decide
theorem twoL_pick : pickS twoL (sortC [0, 1]) = twoL := by
  unfold sortC
  rw [List.mergeSort_of_pairwise (by simp)]
  rfl
theorem lit_C (W : World) (xs : List Int) (hm : xs.length ≤ 9223372036854775807) : Kd.C (Kd.int .i64) (W.alloc (.cells (nums .i64 xs).toArray 3)) (some ⟨W.heap.size, 0, none⟩) xs.length xs :=
  (Kd.R_reads' (Kd.R_of_own (ok := fun _ => True) (h1 := fun _ => rfl) (own_lit W 0 3 .i64 xs (Nat.zero_le _) hm) (fun _ _ => trivial))).2.2
def LV (w0 W : World) (g mb : Nat) (N : List Int) : Prop := Below w0.heap.size w0 W ∧ w0.heap.size ≤ mb ∧ ∃ ok, (¬ ok mb) ∧ Tal W ok g mb twoL [1, 2, 3, 4, 5] N
theorem two_wf : ∀ s ∈ twoL, ∀ x ∈ s.f1, wfI x := by simp [twoL, wfI]; decide
theorem two_len : ∀ s ∈ twoL, s.f1.length * 8 ≤ 140737488355328 := by decide
section
variable {w0 W : World} {g mb : Nat} {N : List Int}
theorem LV.below {W' : World} (h : LV w0 W g mb N) (hb : Below W.heap.size W W') : LV w0 W' g mb N := by
  obtain ⟨h1, h2, ok, h3, h4⟩ := h
  exact ⟨h1.trans (hb.mono h1.size), h2, ok, h3, h4.below hb⟩
theorem LV.add (h : LV w0 W g mb N) (x : Int) (hx : wfI x) (b : Bool) (N' : List Int) (hN : N.length < 1000000000) (hb : decide (x ∉ N ∧ x ∈ ([1, 2, 3, 4, 5] : List Int)) = b) (hN' : (if x ∉ N ∧ x ∈ ([1, 2, 3, 4, 5] : List Int) then N ++ [x] else N) = N') :
    Calls Try.prog 26 #[.pointer (some ⟨g, 0, none⟩), .int .i64 x] W fun e w' => e = .returned (.bool b) ∧ LV w0 w' g mb N' := by
  obtain ⟨h1, h2, ok, h3, h4⟩ := h
  refine (tyAdd_any h4 h3 hx hN).mono ?_
  rintro e w' ⟨he, hT, hU⟩
  rw [hb] at he
  rw [hN'] at hT
  exact ⟨he, h1.trans (hU.below h1.size (fun k hk e => by omega)), h2, ok, h3, hT⟩
theorem LV.quorum (h : LV w0 W g mb N) (b : Bool) (hb : twoL.all (enoughB enQ N) = b) : Calls Try.prog 13 #[.pointer (some ⟨g, 0, none⟩)] W fun e w' => e = .returned (.bool b) ∧ LV w0 w' g mb N := by
  have h0 := h
  obtain ⟨h1, h2, ok, h3, h4⟩ := h
  exact (tyQuorum_any h4 two_wf two_len).mono fun e w' ⟨he, hw⟩ => ⟨hb ▸ he, h0.below hw⟩
theorem LV.all (h : LV w0 W g mb N) (b : Bool) (hb : twoL.all (enoughB enA N) = b) : Calls Try.prog 15 #[.pointer (some ⟨g, 0, none⟩)] W fun e w' => e = .returned (.bool b) ∧ LV w0 w' g mb N := by
  have h0 := h
  obtain ⟨h1, h2, ok, h3, h4⟩ := h
  exact (tyAll_any h4 two_wf two_len).mono fun e w' ⟨he, hw⟩ => ⟨hb ▸ he, h0.below hw⟩
theorem LV.each (h : LV w0 W g mb N) (b : Bool) (hb : twoL.all (enoughB enE N) = b) : Calls Try.prog 17 #[.pointer (some ⟨g, 0, none⟩)] W fun e w' => e = .returned (.bool b) ∧ LV w0 w' g mb N := by
  have h0 := h
  obtain ⟨h1, h2, ok, h3, h4⟩ := h
  exact (tyEach_any h4 two_wf two_len).mono fun e w' ⟨he, hw⟩ => ⟨hb ▸ he, h0.below hw⟩
theorem own_C {base : Nat} {v : Value} {xs : List Int} {w : World} (ho : w.ownsRow base 3 1 v xs.length (nums .i64 xs)) : ∃ A c, v = .slice A xs.length c ∧ xs.length ≤ c ∧ Kd.C (Kd.int .i64) w A xs.length xs := by
  obtain ⟨A, c, rfl⟩ := own_slice ho
  have h := Kd.R_reads' (Kd.R_of_own (ok := fun _ => True) (h1 := fun _ => rfl) ho (fun _ _ => trivial))
  exact ⟨A, c, rfl, h.2.1, h.2.2⟩
theorem LV.nodes (h : LV w0 W g mb N) (hN : N.length < 1000000000) (M : List Int) (hM : N.mergeSort (fun x y => decide (x ≤ y)) = M) : Calls Try.prog 20 #[.pointer (some ⟨g, 0, none⟩)] W fun e w' => ∃ A c, e = .returned (.slice A M.length c) ∧ M.length ≤ c ∧ Kd.C (Kd.int .i64) w' A M.length M ∧ LV w0 w' g mb N := by
  have h0 := h
  obtain ⟨h1, h2, ok, h3, h4⟩ := h
  refine (tyNodes_any h4 hN).mono ?_
  rintro e w' ⟨v, rfl, ho, hb⟩
  have hl : N.length = M.length := by rw [← hM]; simp
  rw [hM, hl] at ho
  obtain ⟨A, c, rfl, hc, hC⟩ := own_C ho
  exact ⟨A, c, rfl, hc, hC, h0.below hb⟩
theorem LV.waiting (h : LV w0 W g mb N) (M : List Int) (hM : (([1, 2, 3, 4, 5] : List Int).filter fun x => !decide (x ∈ N)) = M) : Calls Try.prog 22 #[.pointer (some ⟨g, 0, none⟩)] W fun e w' => ∃ A c, e = .returned (.slice A M.length c) ∧ M.length ≤ c ∧ Kd.C (Kd.int .i64) w' A M.length M ∧ LV w0 w' g mb N := by
  have h0 := h
  obtain ⟨h1, h2, ok, h3, h4⟩ := h
  refine (tyWaiting_any h4 (by simp [wfI]; decide) (by decide)).mono ?_
  rintro e w' ⟨v, rfl, ho, hb⟩
  rw [hM] at ho
  obtain ⟨A, c, rfl, hc, hC⟩ := own_C ho
  exact ⟨A, c, rfl, hc, hC, h0.below hb⟩
end
theorem ints_any (A : Option Addr) (c : Nat) (xs : List Int) (B : Option Addr) (d : Nat) (ys : List Int) (W : World) (hC : Kd.C (Kd.int .i64) W A xs.length xs) (hc : xs.length ≤ c) (hD : Kd.C (Kd.int .i64) W B ys.length ys) (hd : ys.length ≤ d) :
    Calls Try.prog 19 #[.slice A xs.length c, .slice B ys.length d] W fun e w' => e = .returned (.bool (decide (xs = ys))) ∧ Drawn0 W w' :=
  folkmootref04_Ints.calls _ A c xs B d ys _ W hC hc hD hd (ints_f xs ys hC.2.1)
theorem ints_lit (A : Option Addr) (c n m : Nat) (xs ys : List Int) (cs : List Value) (b : Bool) (W : World) (hn : xs.length = n) (hm : ys.length = m) (hcs : nums .i64 ys = cs) (hb : decide (xs = ys) = b) (hC : Kd.C (Kd.int .i64) W A xs.length xs) (hc : xs.length ≤ c) (hmm : m ≤ 1000000) :
    Calls Try.prog 19 #[.slice A n c, .slice (some ⟨W.heap.size, 0, none⟩) m m] (W.alloc (.cells cs.toArray 3)) fun e w' => e = .returned (.bool b) ∧ Below W.heap.size W w' := by
  subst hn hm hcs hb
  exact (ints_any A c xs _ ys.length ys _ (Kd.C_alloc hC _) hc (lit_C W ys (by omega)) (Nat.le_refl _)).mono fun e w' h => ⟨h.1, ((Below.refl _ _).alloc (Nat.le_refl _) _).trans (h.2.below.mono (by simp))⟩
set_option maxHeartbeats 4000000 in
set_option maxRecDepth 100000 in
theorem live_any (w : World) : Calls Try.prog 10 #[] w fun e w' => e = .returned (.bool true) ∧ Below w.heap.size w w' := by
  have h2 := folkmootlaw05_two.calls twoL w rfl
  have H2 := Lib.hid h2; clear h2
  go_enter Try.func10, Try.ntmps10
  go_wp2_with fail
  refine H2.out.mono ?_
  rintro e w1 ⟨v0, rfl, hN, hB1⟩
  obtain ⟨A, c, rfl⟩ := Kd.N_slice hN
  have hlen : twoL.length = 2 := rfl
  have hF := Kd.F_bound (Kd.N_F hN)
  have HL := lit_C w1 [0, 1] (by decide)
  obtain ⟨w2, hw2⟩ : ∃ w2, w1.alloc (.cells #[.int .i64 0, .int .i64 1] 3) = w2 := ⟨_, rfl⟩
  have hB12 : Below w1.heap.size w1 w2 := hw2 ▸ (Below.refl _ _).alloc (Nat.le_refl _) _
  have HL2 : Kd.C (Kd.int .i64) w2 (some ⟨w1.heap.size, 0, none⟩) 2 [0, 1] := hw2 ▸ HL
  have hsz2 := hB12.size
  have hnew := tyNew_any A c twoL (some ⟨w1.heap.size, 0, none⟩) 2 [0, 1] w2 (fun k => w.heap.size ≤ k ∧ k < w1.heap.size) (fun k hk => by omega) (Kd.F_below hF hB12) HL2 (by decide)
  rw [twoL_nodes, twoL_pick] at hnew
  have hnew2 : Calls Try.prog 11 #[.slice A 2 c, .slice (some ⟨w1.heap.size, 0, none⟩) 2 2] w2 _ := hnew
  have HNEW := Lib.hid hnew2; clear hnew hnew2 hF HL HL2 hN
  have hB2 : Below w.heap.size w w2 := hB1.trans (hB12.mono hB1.size)
  go_wp2_with fail
  refine HNEW.out.mono ?_
  rintro e w3 ⟨g, mb, rfl, hg, hmb, hB3, hT⟩
  have hlv : LV w w3 g mb [] := ⟨hB2.trans (hB3.mono hB2.size), by have := hB2.size; omega, _, (fun h => h.1.2 rfl), hT⟩
  clear hT hB3
  go_wp2_with fail
  refine (hlv.add 2 (by unfold wfI; decide) true [2] (by decide) (by decide) (by decide)).mono ?_
  clear hlv
  rintro e wX ⟨rfl, hlv⟩
  go_wp2_with fail
  refine (hlv.add 3 (by unfold wfI; decide) true [2, 3] (by decide) (by decide) (by decide)).mono ?_
  clear hlv
  rintro e wX ⟨rfl, hlv⟩
  go_wp2_with fail
  refine (hlv.add 3 (by unfold wfI; decide) false [2, 3] (by decide) (by decide) (by decide)).mono ?_
  clear hlv
  rintro e wX ⟨rfl, hlv⟩
  go_wp2_with fail
  refine (hlv.add 6 (by unfold wfI; decide) false [2, 3] (by decide) (by decide) (by decide)).mono ?_
  clear hlv
  rintro e wX ⟨rfl, hlv⟩
  go_wp2_with fail
  refine (hlv.quorum false (by decide)).mono ?_
  clear hlv
  rintro e wX ⟨rfl, hlv⟩
  go_wp2_with fail
  refine (hlv.each true (by decide)).mono ?_
  clear hlv
  rintro e wX ⟨rfl, hlv⟩
  go_wp2_with fail
  refine (hlv.add 4 (by unfold wfI; decide) true [2, 3, 4] (by decide) (by decide) (by decide)).mono ?_
  clear hlv
  rintro e wX ⟨rfl, hlv⟩
  go_wp2_with fail
  refine (hlv.quorum true (by decide)).mono ?_
  clear hlv
  rintro e wX ⟨rfl, hlv⟩
  go_wp2_with fail
  refine (hlv.all false (by decide)).mono ?_
  clear hlv
  rintro e wX ⟨rfl, hlv⟩
  go_wp2_with fail
  refine (hlv.waiting [1, 5] (by decide)).mono ?_
  clear hlv
  rintro e wX ⟨A4, c4, rfl, hc4, hC4, hlv⟩
  go_wp2_with fail
  refine (ints_lit A4 c4 2 2 [1, 5] [1, 5] _ true _ rfl rfl rfl (by decide) hC4 hc4 (by decide)).mono ?_
  rintro e wY ⟨rfl, hB⟩
  replace hlv := hlv.below hB
  clear hB hC4
  go_wp2_with fail
  refine (hlv.nodes (by decide) [2, 3, 4] (List.mergeSort_of_pairwise (by simp))).mono ?_
  clear hlv
  rintro e wX ⟨A5, c5, rfl, hc5, hC5, hlv⟩
  go_wp2_with fail
  refine (ints_lit A5 c5 3 3 [2, 3, 4] [2, 3, 4] _ true _ rfl rfl rfl (by decide) hC5 hc5 (by decide)).mono ?_
  rintro e wY ⟨rfl, hB⟩
  replace hlv := hlv.below hB
  go_wp2_with fail
  go_ret
  exact ⟨rfl, hlv.1⟩
end Go.Proofs.Ytmljpidhhiineaa.P
