/- A drum: New, Arm, Dead, Ops, operate. -/
import Derived.Test.YtnimghkkhiacfaaDCat
import Derived.Test.YtnimghkkhiacfaaPBR
namespace Go.Proofs.Ytnimghkkhiacfaa.P
open Go.RowKit Go.Proofs.YtnimghkkhiacfaaW.PrintWords Go.Proofs.YtnimghkkhiacfaaW.PrintLast Go.Proofs.YtnimghkkhiacfaaW.PrintMore
abbrev dptr (g : Nat) : Value := .pointer (some ⟨g, 0, none⟩)
theorem drNew_any (room : Nat) (hr : room ≤ 4194304) (w : World) : Calls Try.prog 9 #[.int .i64 room] w fun e w' => ∃ g mb, e = .returned (.tuple #[dptr g, .int .i64 0]) ∧ DrumIs w' (fun _ => 0) g mb (fun _ => none) room (-1) false 0 ∧ w.heap.size ≤ g ∧ w.heap.size ≤ mb ∧ Below w.heap.size w w' := by
  have d0 : decide ((room : Int) < 0) = false := decide_eq_false (by omega)
  have d1 : decide (4194304 < (room : Int)) = false := decide_eq_false (by omega)
  have hmm := @run_makeMap Try.prog
  obtain ⟨w2, hw2⟩ : ∃ w2, (w.alloc (.map #[] 0)).alloc (.cells #[.map (some w.heap.size), .int .i64 room, .int .i64 (-1), .bool false, .int .i64 0] 64) = w2 := ⟨_, rfl⟩
  have hB2 : Below w.heap.size w w2 := hw2 ▸ ((Below.refl _ _).alloc (Nat.le_refl _) _).alloc (by simp) _
  have hM2 : MI w2 w.heap.size (fun _ => none) := by
    have h := (MI.made w).below ((Below.refl _ _).alloc (Nat.le_refl _) (.cells #[.map (some w.heap.size), .int .i64 room, .int .i64 (-1), .bool false, .int .i64 0] 64))
    rw [hw2] at h
    exact h
  have hT2 : Blk w2 (w.heap.size + 1) 64 #[.map (some w.heap.size), .int .i64 room, .int .i64 (-1), .bool false, .int .i64 0] := by
    have h := Blk.new (w.alloc (.map #[] 0)) 64 #[.map (some w.heap.size), .int .i64 room, .int .i64 (-1), .bool false, .int .i64 0]
    rw [hw2] at h
    simpa using h
  go_enter Try.func9, Try.ntmps9
  go_wp2
  go_ret2
  refine ⟨w.heap.size + 1, w.heap.size, rfl, ⟨?_, rfl, rfl, fun k hk => absurd rfl hk, fun n x hx => (by cases hx), (by rw [sumF_none]; omega), hr, fun _ => 0, hM2, fun n x hx => (by cases hx)⟩, by omega, by omega, hB2⟩
  rw [sumF_none]
  simpa using hT2
section
variable {w : World} {o : Nat → Int} {g mb : Nat} {F : Files} {room : Nat} {left ops : Int} {dead : Bool}
theorem drArm_any (h : DrumIs w o g mb F room left dead ops) (n : Int) : Calls Try.prog 15 #[dptr g, .int .i64 n] w fun e w' => e = .returned (.tuple #[]) ∧ DrumIs w' o g mb F room n dead ops ∧ Upd w w' (· = g) := by
  have H := Lib.hid h
  have hb := h.blk
  have hc2 : w.cell? ⟨g, 2, none⟩ = some (.int .i64 left) := hb.cell 2
  have hf2 := hb.frozen 2
  have HB := Lib.hid hb
  clear h hb
  go_enter Try.func15, Try.ntmps15
  go_wp2
  (try simp only [Exit.inBlock, Exit.then]); refine bodyPost_end (results_none rfl _ _ _) rfl ?_
  have hu := (Upd.refl w (· = g)).setCell (p := ⟨g, 2, none⟩) (.inl rfl) (.int .i64 n)
  exact ⟨rfl, H.out.turn hu (HB.out.set_ 2 (.int .i64 n)), hu⟩
theorem drDead_any (h : DrumIs w o g mb F room left dead ops) : Calls Try.prog 16 #[dptr g] w fun e w' => e = .returned (.bool dead) ∧ w' = w := by
  have hb := h.blk
  have hc2 : w.cell? ⟨g, 3, none⟩ = some (.bool dead) := hb.cell 3
  clear h hb
  go_enter Try.func16, Try.ntmps16
  go_wp2
  go_ret
  exact ⟨rfl, rfl⟩
theorem drOps_any (h : DrumIs w o g mb F room left dead ops) : Calls Try.prog 17 #[dptr g] w fun e w' => e = .returned (.int .i64 ops) ∧ w' = w := by
  have hb := h.blk
  have hc2 : w.cell? ⟨g, 4, none⟩ = some (.int .i64 ops) := hb.cell 4
  clear h hb
  go_enter Try.func17, Try.ntmps17
  go_wp2
  go_ret
  exact ⟨rfl, rfl⟩
theorem drFree_any (h : DrumIs w o g mb F room left dead ops) : Calls Try.prog 29 #[dptr g] w fun e w' => e = .returned (.int .i64 (room - sumF F)) ∧ w' = w := by
  have hb := h.blk
  have hc2 : w.cell? ⟨g, 1, none⟩ = some (.int .i64 (room - sumF F)) := hb.cell 1
  clear h hb
  generalize ((room : Int) - sumF F) = fr at *
  go_enter Try.func29, Try.ntmps29
  go_wp2
  go_ret
  exact ⟨rfl, rfl⟩
/-- operate where it is not done. -/
theorem operate_arg (h : DrumIs w o g mb F room left dead ops) (n : Int) (hn : n < 1 ∨ 1000 < n) (f : Value) : Calls Try.prog 30 #[dptr g, .int .i64 n, f] w fun e w' => e = .returned (.int .i64 2) ∧ w' = w := by
  clear h
  go_enter Try.func30, Try.ntmps30
  by_cases h1 : n < 1
  · have d1 : decide (n < 1) = true := decide_eq_true h1
    go_wp2
    go_ret
    exact ⟨rfl, rfl⟩
  · have d1 : decide (n < 1) = false := decide_eq_false h1
    have d2 : decide (1000 < n) = true := decide_eq_true (by omega)
    go_wp2
    go_ret
    exact ⟨rfl, rfl⟩
theorem operate_dead (h : DrumIs w o g mb F room left dead ops) (n : Int) (hn : 1 ≤ n ∧ n ≤ 1000) (hd : dead = true ∨ left = 0) (f : Value) : Calls Try.prog 30 #[dptr g, .int .i64 n, f] w fun e w' => e = .returned (.int .i64 140) ∧ DrumIs w' o g mb F room left true ops ∧ Upd w w' (· = g) := by
  have H := Lib.hid h
  have hb := h.blk
  have hc2 : w.cell? ⟨g, 2, none⟩ = some (.int .i64 left) := hb.cell 2
  have hc3 : w.cell? ⟨g, 3, none⟩ = some (.bool dead) := hb.cell 3
  have hf3 := hb.frozen 3
  have HB := Lib.hid hb
  clear h hb
  have d1 : decide (n < 1) = false := decide_eq_false (by omega)
  have d2 : decide (1000 < n) = false := decide_eq_false (by omega)
  have hu := (Upd.refl w (· = g)).setCell (p := ⟨g, 3, none⟩) (.inl rfl) (.bool true)
  have hT := HB.out.set_ 3 (.bool true)
  have HU := Lib.hid hu; have HT := Lib.hid hT; clear hu hT
  go_enter Try.func30, Try.ntmps30
  cases dead with
  | true =>
    go_wp2
    go_ret
    exact ⟨rfl, H.out.turn HU.out HT.out, HU.out⟩
  | false =>
    obtain rfl : left = 0 := by rcases hd with h | h; cases h; exact h
    go_wp2
    go_ret
    exact ⟨rfl, H.out.turn HU.out HT.out, HU.out⟩
/-- what of a drum is left to operate. -/
def decL (l : Int) : Int := if 0 < l then l - 1 else l
def opsC (ops c : Int) : Int := if c = 0 then ops + 1 else ops
/-- what a file's part of an operation leaves: its answer c, the files F'. -/
def Did (w w' : World) (o : Nat → Int) (g mb : Nat) (F' : Files) (room : Nat) (left : Int) (dead : Bool) (ops : Int) : Prop :=
  ∃ o' : Nat → Int, DrumIs w' o' g mb F' room left dead ops ∧ (∀ k, k < w.heap.size → o' k = o k) ∧ Upd w w' (mine o g mb)
set_option maxHeartbeats 1000000 in
theorem operate_any (h : DrumIs w o g mb F room left false ops) (n : Int) (hn : 1 ≤ n ∧ n ≤ 1000) (hl : left ≠ 0) (hl2 : -9223372036854775808 ≤ left) (hl3 : left ≤ 9223372036854775807) (ho : 0 ≤ ops) (ho2 : ops ≤ 1000000000) (gf : Nat) (caps : Array Value) (c : Int) (F' : Files)
    (eg : ∀ args w, (callFunc gf args).run Try.prog w = .ok (.enter gf args) w)
    (hf : ∀ W, Upd w W (· = g) → DrumIs W o g mb F room (decL left) false ops → Calls Try.prog gf caps W fun e w' => e = .returned (.int .i64 c) ∧ Did W w' o g mb F' room (decL left) false ops) :
    Calls Try.prog 30 #[dptr g, .int .i64 n, .func (.func gf) #[] caps] w fun e w' => e = .returned (.int .i64 c) ∧ Did w w' o g mb F' room (decL left) false (opsC ops c) := by
  have H := Lib.hid h
  have hb := h.blk
  have hc2 : w.cell? ⟨g, 2, none⟩ = some (.int .i64 left) := hb.cell 2
  have hc3 : w.cell? ⟨g, 3, none⟩ = some (.bool false) := hb.cell 3
  have hf2 := hb.frozen 2
  have HB := Lib.hid hb
  have HF := Lib.hid hf
  have e1 : 0 < left → wrap64 (left - 1) = left - 1 := fun _ => w64 (by omega) (by omega)
  have E1 := Lib.hid e1
  clear h hb hf hl2 hl3 e1
  have d1 : decide (n < 1) = false := decide_eq_false (by omega)
  have d2 : decide (1000 < n) = false := decide_eq_false (by omega)
  have d3 : decide (left = 0) = false := decide_eq_false hl
  go_enter Try.func30, Try.ntmps30
  by_cases hp : 0 < left
  · have d4 : decide (0 < left) = true := decide_eq_true hp
    have e1 : wrap64 (left - 1) = left - 1 := E1.out hp
    go_wp2_with fail
    have hu := (Upd.refl w (· = g)).setCell (p := ⟨g, 2, none⟩) (.inl rfl) (.int .i64 (left - 1))
    have hD1 := H.out.turn hu (HB.out.set_ 2 (.int .i64 (left - 1)))
    have hcl := HF.out _ hu (by rw [show decL left = left - 1 from if_pos hp]; exact hD1)
    have hk : ∀ (o' : Nat → Int), (∀ k, k < (w.setCell ⟨g, 2, none⟩ (.int .i64 (left - 1))).heap.size → o' k = o k) → ∀ k, k < w.heap.size → o' k = o k := fun _ h k hk => h k (by simpa [World.setCell] using hk)
    have hU : ∀ (W : World), Upd (w.setCell ⟨g, 2, none⟩ (.int .i64 (left - 1))) W (mine o g mb) → Upd w W (mine o g mb) := fun _ h => (hu.mono fun k _ hk => .inl hk).trans h
    have HK := Lib.hid hk; have HU := Lib.hid hU; clear hk hU hu hD1
    refine hcl.mono ?_
    clear hcl
    rintro e W2 ⟨rfl, o', hD2, ho', hu2⟩
    have hz := H.out.glt
    by_cases hc0 : c = 0
    · subst hc0
      have hb := hD2.blk
      have hc4 : W2.cell? ⟨g, 4, none⟩ = some (.int .i64 ops) := hb.cell 4
      have hf4 := hb.frozen 4
      have e5 : wrap64 (ops + 1) = ops + 1 := w64 (by omega) (by omega)
      have HB2 := Lib.hid hb; clear hb
      have HD2 := Lib.hid hD2; clear hD2
      go_wp2
      go_ret
      have hu3 := (Upd.refl W2 (· = g)).setCell (p := ⟨g, 4, none⟩) (.inl rfl) (.int .i64 (ops + 1))
      rw [show opsC ops 0 = ops + 1 from if_pos rfl]
      exact ⟨rfl, o', HD2.out.turn hu3 (HB2.out.set_ 4 (.int .i64 (ops + 1))), HK.out _ ho', HU.out _ (hu2.trans (hu3.mono fun k _ hk => .inl hk))⟩
    · have d5 : decide (c = 0) = false := decide_eq_false hc0
      have HD2 := Lib.hid hD2; clear hD2
      go_wp2
      go_ret
      rw [show opsC ops c = ops from if_neg hc0]
      exact ⟨rfl, o', HD2.out, HK.out _ ho', HU.out _ hu2⟩
  · have d4 : decide (0 < left) = false := decide_eq_false hp
    have hcl := HF.out _ (Upd.refl w _) (by rw [show decL left = left from if_neg hp]; exact H.out)
    have hk : ∀ (o' : Nat → Int), (∀ k, k < w.heap.size → o' k = o k) → ∀ k, k < w.heap.size → o' k = o k := fun _ h => h
    have hU : ∀ (W : World), Upd w W (mine o g mb) → Upd w W (mine o g mb) := fun _ h => h
    have HK := Lib.hid hk; have HU := Lib.hid hU; have HCL := Lib.hid hcl; clear hk hU hcl
    go_wp2_with fail
    refine HCL.out.mono ?_
    rintro e W2 ⟨rfl, o', hD2, ho', hu2⟩
    have hz := H.out.glt
    by_cases hc0 : c = 0
    · subst hc0
      have hb := hD2.blk
      have hc4 : W2.cell? ⟨g, 4, none⟩ = some (.int .i64 ops) := hb.cell 4
      have hf4 := hb.frozen 4
      have e5 : wrap64 (ops + 1) = ops + 1 := w64 (by omega) (by omega)
      have HB2 := Lib.hid hb; clear hb
      have HD2 := Lib.hid hD2; clear hD2
      go_wp2
      go_ret
      have hu3 := (Upd.refl W2 (· = g)).setCell (p := ⟨g, 4, none⟩) (.inl rfl) (.int .i64 (ops + 1))
      rw [show opsC ops 0 = ops + 1 from if_pos rfl]
      exact ⟨rfl, o', HD2.out.turn hu3 (HB2.out.set_ 4 (.int .i64 (ops + 1))), HK.out _ ho', HU.out _ (hu2.trans (hu3.mono fun k _ hk => .inl hk))⟩
    · have d5 : decide (c = 0) = false := decide_eq_false hc0
      have HD2 := Lib.hid hD2; clear hD2
      go_wp2
      go_ret
      rw [show opsC ops c = ops from if_neg hc0]
      exact ⟨rfl, o', HD2.out, HK.out _ ho', HU.out _ hu2⟩
end
end Go.Proofs.Ytnimghkkhiacfaa.P
