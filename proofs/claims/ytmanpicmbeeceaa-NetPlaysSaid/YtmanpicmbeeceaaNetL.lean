/- live. -/
import Derived.Test.YtmanpicmbeeceaaBaseH
import Derived.Test.YtmanpicmbeeceaaNetD
import Derived.Test.YtmanpicmbeeceaaNetF
namespace Go.Proofs.Ytmanpicmbeeceaa
open Go.RowKit
open Kd (Sl)

/-- two texts of a letter each, made in line. -/
theorem two_lit (w : World) (nb : Nat) (hnb : nb < w.heap.size) (a b : UInt8) (tb : TypeId) :
    Sl (Kd.slice Kd.byte) (HX (((w.alloc (.cells #[byt a] tb (1, 2))).alloc (.cells #[byt b] tb (1, 2))).alloc (.cells #[.slice (some ⟨w.heap.size, 0, none⟩) 1 1, .slice (some ⟨w.heap.size + 1, 0, none⟩) 1 1] 34)) (· = nb))
      (.slice (some ⟨w.heap.size + 1 + 1, 0, none⟩) 2 2) [[a], [b]] := by
  have h2 := heap_alloc_new ((w.alloc (.cells #[byt a] tb (1, 2))).alloc (.cells #[byt b] tb (1, 2))) (.cells #[.slice (some ⟨w.heap.size, 0, none⟩) 1 1, .slice (some ⟨w.heap.size + 1, 0, none⟩) 1 1] 34)
  have h1 := heap_alloc_new (w.alloc (.cells #[byt a] tb (1, 2))) (.cells #[byt b] tb (1, 2))
  have h0 := heap_alloc_new w (.cells #[byt a] tb (1, 2))
  have h0' := (Below.heap_alloc (w.alloc (.cells #[byt a] tb (1, 2))) (.cells #[byt b] tb (1, 2)) w.heap.size (by simp)).trans h0
  have h0'' := (Below.heap_alloc ((w.alloc (.cells #[byt a] tb (1, 2))).alloc (.cells #[byt b] tb (1, 2))) (.cells #[.slice (some ⟨w.heap.size, 0, none⟩) 1 1, .slice (some ⟨w.heap.size + 1, 0, none⟩) 1 1] 34) w.heap.size (by simp; omega)).trans h0'
  have h1'' := (Below.heap_alloc ((w.alloc (.cells #[byt a] tb (1, 2))).alloc (.cells #[byt b] tb (1, 2))) (.cells #[.slice (some ⟨w.heap.size, 0, none⟩) 1 1, .slice (some ⟨w.heap.size + 1, 0, none⟩) 1 1] 34) (w.alloc (.cells #[byt a] tb (1, 2))).heap.size (by simp)).trans h1
  simp only [World.size_alloc] at h1'' h2
  have m1 : (1 : Nat) ≤ maxLen := by unfold maxLen; omega
  have m2 : (2 : Nat) ≤ maxLen := by unfold maxLen; omega
  refine sl_hx h2 (by omega) rfl (Nat.le_refl _) ⟨m2, by show 2 * 24 ≤ _; omega⟩ ?_
  refine .cons (c := [_]) ⟨_, rfl, sl_hx h0'' (by omega) rfl (Nat.le_refl _) ⟨m1, by show 1 * 1 ≤ _; omega⟩ (reps_byts [a])⟩ (.cons (c := [_]) ⟨_, rfl, sl_hx h1'' (by omega) rfl (Nat.le_refl _) ⟨m1, by show 1 * 1 ≤ _; omega⟩ (reps_byts [b])⟩ .nil)
theorem ab_two {M : List Lt} {a b : List UInt8 × Bool} (h : ab M = [a, b]) : ∃ l0 l1, M = [l0, l1] ∧ l0.bs = a.1 ∧ l0.sp = a.2 ∧ l1.bs = b.1 ∧ l1.sp = b.2 := by
  match M, h with
  | [l0, l1], h =>
    simp only [ab, List.map_cons, List.map_nil, List.cons.injEq, and_true] at h
    obtain ⟨rfl, rfl⟩ := h
    exact ⟨l0, l1, rfl, rfl, rfl, rfl, rfl⟩
theorem lt_conv {w : World} {l : Lt} (h : LtOk w l) (hb : l.bs.length ≤ 140737488355328) : (convert 34 9 (.slice (some ⟨l.g, 0, none⟩) l.bs.length l.cap)).run Try.prog w = .ok (.string ⟨l.bs.toArray⟩) w := by
  obtain ⟨H, hF, hy⟩ := lt_bys h hb
  exact run_conv_str hF hy _ _ _ Try.underlying34 Try.underlying5 Try.underlying9
set_option maxRecDepth 100000 in
set_option maxHeartbeats 1000000 in
theorem live_any (w : World) : Calls Try.prog 8 #[] w fun e w' => e = .returned (.bool true) ∧ Below w.heap.size w w' := by
  have kc := fun (w : World) (C : Array Value) (n c g : Nat) (hg : g = w.heap.size) => Joins.run_convert_bytes_const_at (P := Try.prog) w 34 5 C n c g hg Try.underlying34 Try.underlying5
  go_enter Try.func8, Try.ntmps8
  go_wp2_with fail
  refine (new_any _).mono ?_
  rintro e w1 ⟨rfl, hN, hB⟩
  have hl1 := hN.blk.lt
  generalize hnb : w.heap.size = nb at *
  have HNB := Lib.hid hnb; clear hnb
  go_wp2_with fail
  have hu := Upd.alloc (Upd.alloc (Upd.alloc (Upd.refl w1 (fun _ => False)) (.cells #[byt 97] 5 (1, 2))) (.cells #[byt 98] 5 (1, 2))) (.cells #[.slice (some ⟨w1.heap.size, 0, none⟩) 1 1, .slice (some ⟨w1.heap.size + 1, 0, none⟩) 1 1] 34)
  have hx1 : Nx w1 (· = nb) (((w1.alloc (.cells #[byt 97] 5 (1, 2))).alloc (.cells #[byt 98] 5 (1, 2))).alloc (.cells #[.slice (some ⟨w1.heap.size, 0, none⟩) 1 1, .slice (some ⟨w1.heap.size + 1, 0, none⟩) 1 1] 34)) (· = nb) := ⟨hu.mono (fun _ _ h => h.elim), fun k hk => .inl hk⟩
  refine (send_any nb (· = nb) _ [] _ [[97], [98]] _ (hx_fits _ _) (hx_out _ _) (hN.upd hu (fun _ _ h => h)) (two_lit w1 nb hl1 97 98 5) (by simp) (by simp)).mono ?_
  rintro e w2 ⟨S2, v2, M2, rfl, hN2, hab, hx2⟩
  replace hx2 := hx1.trans hx2
  obtain ⟨l0, l1, rfl, e0, s0, e1, s1⟩ := ab_two (a := ([97], false)) (b := ([98], false)) (by simpa [ab] using hab)
  clear hx1 hu hN kc hab
  go_wp2_with fail
  refine (double_any nb S2 v2 [l0, l1] 0 l0 w2 hN2 rfl (by simp) (by simp [e0])).mono ?_
  rintro e w3 ⟨S3, v3, l2, rfl, hN3, hx3, e2, s2⟩
  replace hx3 := hx2.trans hx3
  clear hN2 hx2
  go_wp2_with fail
  refine (num_any _ _).mono ?_
  rintro e w' ⟨rfl, rfl⟩
  go_wp2_with fail
  refine (take_any nb S3 v3 _ 1 l1 w3 hN3 rfl).mono ?_
  rintro e w4 ⟨v4, rfl, hN4, hx4, hl4⟩
  replace hx4 := hx3.trans hx4
  clear hN3 hx3
  have hN4' : NetIs w4 56 58 nb S3 v4 [l0, l2] := hN4
  clear hN4
  obtain ⟨A4, c4, rfl, _, d4, _, _⟩ := hN4'.shape
  go_wp2_with fail
  refine (take_no nb _ _ _ 2 w4 d4 (.inr (by simp))).mono ?_
  rintro e w' ⟨rfl, rfl⟩
  go_wp2_with fail
  refine (num_any _ _).mono ?_
  rintro e w' ⟨rfl, rfl⟩
  have q4 := lt_conv hl4 (by simp [e1])
  simp only [e1, List.length_cons, List.length_nil, Nat.zero_add] at q4
  go_wp2_with fail
  refine (len_any nb _ _ _ w4 d4).mono ?_
  rintro e w' ⟨rfl, rfl⟩
  go_wp2_with fail
  refine (at_any nb S3 _ [l0, l2] 1 l2 w4 hN4' rfl (by simp [e2, e0])).mono ?_
  rintro e w5 ⟨r5, H5, rfl, hb5, hf5, hy5⟩
  have q5 := run_conv_str (P := Try.prog) hf5 hy5 34 9 5 Try.underlying34 Try.underlying5 Try.underlying9
  rw [e2, e0] at q5
  have hN5 := hN4'.upd (Upd.of_below hb5 (fun _ => False)) (fun _ _ h => h)
  have hx5 : Nx w1 (· = nb) w5 S3 := hx4.trans ⟨Upd.of_below hb5 _, fun _ h => .inl h⟩
  clear hy5 hf5 hb5 hN4' hx4 hl4 q4
  go_wp2_with fail
  refine (num_any _ _).mono ?_
  rintro e w' ⟨rfl, rfl⟩
  go_wp2_with fail
  refine (spoil_any nb S3 _ [l0, l2] 0 l0 0 1 w5 hN5 rfl).mono ?_
  rintro e w6 (⟨h, _⟩ | ⟨_, h, _⟩ | ⟨_, k, c, hk, hc, rfl, v6, hN6, hx6⟩)
  · rw [s0] at h; cases h
  · rw [e0] at h; simp at h
  obtain rfl : k = 0 := by omega
  have hc' : c = 97 := by rw [e0] at hc; simpa using hc.symm
  subst hc'
  replace hx6 := hx5.trans hx6
  clear hN5 hx5 hk hc
  go_wp2_with fail
  refine (num_any _ _).mono ?_
  rintro e w' ⟨rfl, rfl⟩
  go_wp2_with fail
  refine (spoil_any nb S3 v6 _ 0 _ 0 1 w6 hN6 rfl).mono ?_
  rintro e w' (⟨_, rfl, rfl⟩ | ⟨h, _⟩ | ⟨h, _⟩)
  · go_wp2_with fail
    refine (num_any _ _).mono ?_
    rintro e w' ⟨rfl, rfl⟩
    go_wp2_with fail
    refine (at_any nb S3 v6 _ 0 _ w6 hN6 rfl (by simp [e0])).mono ?_
    rintro e w7 ⟨r7, H7, rfl, hb7, hf7, hy7⟩
    have q7 := run_conv_str (P := Try.prog) hf7 hy7 34 9 5 Try.underlying34 Try.underlying5 Try.underlying9
    simp only [e0] at q7
    have hB7 : Below nb w w7 := hB.trans ((hx6.upd.trans (Upd.of_below hb7 _)).below (by omega) (fun k hk e => by omega))
    clear hy7 hf7 hN6 hx6 hb7
    go_wp2_with fail
    go_ret
    exact ⟨ret_bool (by decide), by rw [HNB.out]; exact hB7⟩
  · cases h
  · cases h
end Go.Proofs.Ytmanpicmbeeceaa
