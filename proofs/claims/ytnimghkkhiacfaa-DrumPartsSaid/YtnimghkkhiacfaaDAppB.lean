/- A drum: Append, called. -/
import Derived.Test.YtnimghkkhiacfaaDApp
namespace Go.Proofs.Ytnimghkkhiacfaa.P
open Go.RowKit Go.Proofs.YtnimghkkhiacfaaW.PrintWords Go.Proofs.YtnimghkkhiacfaaW.PrintLast Go.Proofs.YtnimghkkhiacfaaW.PrintMore
section
variable {w w1 w' : World} {o : Nat → Int} {g mb : Nat} {F : Files} {room : Nat} {left ops : Int} {dead : Bool}
theorem Did.from_ (hb : Below w.heap.size w w1) (h : Did w1 w' o g mb F room left dead ops) : Did w w' o g mb F room left dead ops := by
  obtain ⟨o', h1, h2, h3⟩ := h
  exact ⟨o', h1, fun k hk => h2 k (Nat.lt_of_lt_of_le hk hb.size), (Upd.of_below hb _).trans h3⟩
theorem DrumIs.fresh (h : DrumIs w o g mb F room left dead ops) {b : Nat} (hb : w.heap.size ≤ b) : ¬ mine o g mb b := by
  rintro (e | e | e)
  · have := h.glt; omega
  · have := h.mlt; omega
  · have := h.lt b e; omega
theorem DrumIs.did (h : DrumIs w o g mb F room left dead ops) : Did w w o g mb F room left dead ops := ⟨o, h, fun _ _ => rfl, Upd.refl _ _⟩
theorem DrumIs.did_of (h : DrumIs w' o g mb F room left dead ops) (hu : Upd w w' (· = g)) : Did w w' o g mb F room left dead ops := ⟨o, h, fun _ _ => rfl, hu.mono fun _ _ h => .inl h⟩
/-- the boxes of Append's variables. -/
structure AppBoxes (w w3 : World) (o : Nat → Int) (g mb : Nat) (n : Int) (v : Value) : Prop where
  below : Below w.heap.size w w3
  b0 : Boxed w3 o g mb w.heap.size (dptr g)
  b1 : Boxed w3 o g mb (w.heap.size + 1) (.int .i64 n)
  b2 : Boxed w3 o g mb (w.heap.size + 2) v
theorem app_boxes (h : DrumIs w o g mb F room left dead ops) (n : Int) (v : Value) : AppBoxes w (((w.alloc (.cells #[dptr g] 24)).alloc (.cells #[.int .i64 n] 3)).alloc (.cells #[v] 44)) o g mb n v := by
  have e1 : (w.alloc (.cells #[dptr g] 24)).heap.size = w.heap.size + 1 := by simp
  have e2 : ((w.alloc (.cells #[dptr g] 24)).alloc (.cells #[.int .i64 n] 3)).heap.size = w.heap.size + 2 := by simp
  refine ⟨((((Below.refl _ _).alloc (Nat.le_refl _) _).alloc (by simp) _).alloc (by simp; omega) _), ⟨?_, h.fresh (Nat.le_refl _)⟩, ⟨?_, h.fresh (by omega)⟩, ⟨?_, h.fresh (by omega)⟩⟩
  · exact (((Blk.new w 24 #[dptr g]).alloc _).alloc _).cell 0
  · have := ((Blk.new (w.alloc (.cells #[dptr g] 24)) 3 #[.int .i64 n]).alloc (.cells #[v] 44)).cell 0
    rwa [e1] at this
  · have := (Blk.new ((w.alloc (.cells #[dptr g] 24)).alloc (.cells #[.int .i64 n] 3)) 44 #[v]).cell 0
    rwa [e2] at this
/-- Append, by what its closure does. -/
theorem drAppend_by (h : DrumIs w o g mb F room left dead ops) (n : Int) {A : Option Addr} {c m : Nat} {R : Ending → World → Prop}
    (hop : ∀ W, AppBoxes w W o g mb n (.slice A m c) → Calls Try.prog 30 #[dptr g, .int .i64 n, .func (.func 31) #[] #[dptr (w.heap.size + 2), dptr w.heap.size, dptr (w.heap.size + 1)]] W fun e w' => ∃ x, e = .returned (.int .i64 x) ∧ R (.returned (.int .i64 x)) w') :
    Calls Try.prog 11 #[dptr g, .int .i64 n, .slice A m c] w R := by
  have hx := app_boxes h n (.slice A m c)
  obtain ⟨w3, hw3⟩ : ∃ w3, (((w.alloc (.cells #[dptr g] 24)).alloc (.cells #[.int .i64 n] 3)).alloc (.cells #[.slice A m c] 44)) = w3 := ⟨_, rfl⟩
  rw [hw3] at hx
  have HOP := Lib.hid (hop _ hx)
  have hc0 := hx.b0.1
  have hc1 := hx.b1.1
  clear hop hx h
  go_enter Try.func11, Try.ntmps11
  go_wp2_with fail
  refine HOP.out.mono ?_
  rintro e w' ⟨x, rfl, hR⟩
  go_wp2
  exact hR
theorem enters1 : ∀ args w, (callFunc 31 args).run Try.prog w = .ok (.enter 31 args) w := enters_of Try.func31 (by kernel_rfl) rfl
theorem drAppend_ok (h : DrumIs w o g mb F room left false ops) {n : Int} (hn : 1 ≤ n ∧ n ≤ 1000) (hl : left ≠ 0) (hl2 : -9223372036854775808 ≤ left) (hl3 : left ≤ 9223372036854775807) (ho : 0 ≤ ops) (ho2 : ops ≤ 1000000000) {A : Option Addr} {c : Nat} {l : List (List Int)}
    (hC : ∀ W, Upd w W (mine o g mb) → Kd.C kBs W A l.length l) (hf : sumF F + l.flatten.length ≤ room) :
    Calls Try.prog 11 #[dptr g, .int .i64 n, .slice A l.length c] w fun e w' => e = .returned (.int .i64 0) ∧ Did w w' o g mb (upF F n (some ((getF F n).1, (getF F n).2 ++ l.flatten))) room (decL left) false (ops + 1) := by
  refine drAppend_by h n fun W hb => ?_
  refine (operate_any (h.below hb.below) n hn hl hl2 hl3 ho ho2 31 _ 0 _ enters1 fun W' hu hD => append1_ok hD hn (hC W' ((Upd.of_below hb.below _).trans (hu.mono fun _ _ h => .inl h))) (by have := h.big; omega) (hb.b2.upd (hu.mono fun _ _ h => .inl h)) (hb.b0.upd (hu.mono fun _ _ h => .inl h)) (hb.b1.upd (hu.mono fun _ _ h => .inl h)) hf).mono ?_
  rintro e w' ⟨rfl, hd⟩
  exact ⟨0, rfl, rfl, Did.from_ hb.below hd⟩
theorem drAppend_full (h : DrumIs w o g mb F room left false ops) {n : Int} (hn : 1 ≤ n ∧ n ≤ 1000) (hl : left ≠ 0) (hl2 : -9223372036854775808 ≤ left) (hl3 : left ≤ 9223372036854775807) (ho : 0 ≤ ops) (ho2 : ops ≤ 1000000000) {A : Option Addr} {c : Nat} {l : List (List Int)}
    (hC : ∀ W, Upd w W (mine o g mb) → Kd.C kBs W A l.length l) (hm : l.flatten.length ≤ 1099511627776) (hf : room < sumF F + l.flatten.length) :
    Calls Try.prog 11 #[dptr g, .int .i64 n, .slice A l.length c] w fun e w' => e = .returned (.int .i64 5) ∧ Did w w' o g mb F room (decL left) false ops := by
  refine drAppend_by h n fun W hb => ?_
  refine (operate_any (h.below hb.below) n hn hl hl2 hl3 ho ho2 31 _ 5 _ enters1 fun W' hu hD => append1_full hD n (hC W' ((Upd.of_below hb.below _).trans (hu.mono fun _ _ h => .inl h))) hm (hb.b2.upd (hu.mono fun _ _ h => .inl h)) (hb.b0.upd (hu.mono fun _ _ h => .inl h)) (hb.b1.upd (hu.mono fun _ _ h => .inl h)) hf).mono ?_
  rintro e w' ⟨rfl, hd⟩
  exact ⟨5, rfl, rfl, Did.from_ hb.below hd⟩
theorem drAppend_dead (h : DrumIs w o g mb F room left dead ops) {n : Int} (hn : 1 ≤ n ∧ n ≤ 1000) (hd : dead = true ∨ left = 0) {A : Option Addr} {c m : Nat} :
    Calls Try.prog 11 #[dptr g, .int .i64 n, .slice A m c] w fun e w' => e = .returned (.int .i64 140) ∧ Did w w' o g mb F room left true ops := by
  refine drAppend_by h n fun W hb => ?_
  refine (operate_dead (h.below hb.below) n hn hd _).mono ?_
  rintro e w' ⟨rfl, h1, h2⟩
  exact ⟨140, rfl, rfl, Did.from_ hb.below (h1.did_of h2)⟩
theorem drAppend_arg (h : DrumIs w o g mb F room left dead ops) {n : Int} (hn : n < 1 ∨ 1000 < n) {A : Option Addr} {c m : Nat} :
    Calls Try.prog 11 #[dptr g, .int .i64 n, .slice A m c] w fun e w' => e = .returned (.int .i64 2) ∧ Did w w' o g mb F room left dead ops := by
  refine drAppend_by h n fun W hb => ?_
  refine (operate_arg (h.below hb.below) n hn _).mono ?_
  rintro e w' ⟨rfl, rfl⟩
  exact ⟨2, rfl, rfl, Did.from_ hb.below (h.below hb.below).did⟩
end
end Go.Proofs.Ytnimghkkhiacfaa.P
