/- A drum: Sync, called. -/
import Derived.Test.YtnimghkkhiacfaaDSync
namespace Go.Proofs.Ytnimghkkhiacfaa.P
open Go.RowKit Go.Proofs.YtnimghkkhiacfaaW.PrintWords Go.Proofs.YtnimghkkhiacfaaW.PrintLast Go.Proofs.YtnimghkkhiacfaaW.PrintMore
section
variable {w w1 w' : World} {o : Nat → Int} {g mb : Nat} {F : Files} {room : Nat} {left ops : Int} {dead : Bool}
structure TwoBoxes (w w3 : World) (o : Nat → Int) (g mb : Nat) (n : Int) : Prop where
  below : Below w.heap.size w w3
  b0 : Boxed w3 o g mb w.heap.size (dptr g)
  b1 : Boxed w3 o g mb (w.heap.size + 1) (.int .i64 n)
theorem two_boxes (h : DrumIs w o g mb F room left dead ops) (n : Int) : TwoBoxes w ((w.alloc (.cells #[dptr g] 24)).alloc (.cells #[.int .i64 n] 3)) o g mb n := by
  have e1 : (w.alloc (.cells #[dptr g] 24)).heap.size = w.heap.size + 1 := by simp
  refine ⟨(((Below.refl _ _).alloc (Nat.le_refl _) _).alloc (by simp) _), ⟨?_, h.fresh (Nat.le_refl _)⟩, ⟨?_, h.fresh (by omega)⟩⟩
  · exact ((Blk.new w 24 #[dptr g]).alloc _).cell 0
  · have := (Blk.new (w.alloc (.cells #[dptr g] 24)) 3 #[.int .i64 n]).cell 0
    rwa [e1] at this
theorem drSync_by (h : DrumIs w o g mb F room left dead ops) (n : Int) {R : Ending → World → Prop}
    (hop : ∀ W, TwoBoxes w W o g mb n → Calls Try.prog 30 #[dptr g, .int .i64 n, .func (.func 33) #[] #[dptr w.heap.size, dptr (w.heap.size + 1)]] W fun e w' => ∃ x, e = .returned (.int .i64 x) ∧ R (.returned (.int .i64 x)) w') :
    Calls Try.prog 12 #[dptr g, .int .i64 n] w R := by
  have hx := two_boxes h n
  obtain ⟨w3, hw3⟩ : ∃ w3, ((w.alloc (.cells #[dptr g] 24)).alloc (.cells #[.int .i64 n] 3)) = w3 := ⟨_, rfl⟩
  rw [hw3] at hx
  have HOP := Lib.hid (hop _ hx)
  have hc0 := hx.b0.1
  have hc1 := hx.b1.1
  clear hop hx h
  go_enter Try.func12, Try.ntmps12
  go_wp2_with fail
  refine HOP.out.mono ?_
  rintro e w' ⟨x, rfl, hR⟩
  go_wp2
  exact hR
theorem entersS : ∀ args w, (callFunc 33 args).run Try.prog w = .ok (.enter 33 args) w := enters_of Try.func33 (by kernel_rfl) rfl
theorem drSync_ok (h : DrumIs w o g mb F room left false ops) {n : Int} (hn : 1 ≤ n ∧ n ≤ 1000) (hl : left ≠ 0) (hl2 : -9223372036854775808 ≤ left) (hl3 : left ≤ 9223372036854775807) (ho : 0 ≤ ops) (ho2 : ops ≤ 1000000000) {s r : List Int} (hF : F n = some (s, r)) :
    Calls Try.prog 12 #[dptr g, .int .i64 n] w fun e w' => e = .returned (.int .i64 0) ∧ Did w w' o g mb (upF F n (some (s ++ r, []))) room (decL left) false (ops + 1) := by
  refine drSync_by h n fun W hb => ?_
  refine (operate_any (h.below hb.below) n hn hl hl2 hl3 ho ho2 33 _ 0 _ entersS fun W' hu hD => sync1_some hD hn (hb.b0.upd (hu.mono fun _ _ h => .inl h)) (hb.b1.upd (hu.mono fun _ _ h => .inl h)) hF).mono ?_
  rintro e w' ⟨rfl, hd⟩
  exact ⟨0, rfl, rfl, Did.from_ hb.below hd⟩
theorem drSync_none (h : DrumIs w o g mb F room left false ops) {n : Int} (hn : 1 ≤ n ∧ n ≤ 1000) (hl : left ≠ 0) (hl2 : -9223372036854775808 ≤ left) (hl3 : left ≤ 9223372036854775807) (ho : 0 ≤ ops) (ho2 : ops ≤ 1000000000) (hF : F n = none) :
    Calls Try.prog 12 #[dptr g, .int .i64 n] w fun e w' => e = .returned (.int .i64 7) ∧ Did w w' o g mb F room (decL left) false ops := by
  refine drSync_by h n fun W hb => ?_
  refine (operate_any (h.below hb.below) n hn hl hl2 hl3 ho ho2 33 _ 7 _ entersS fun W' hu hD => sync1_none hD hn (hb.b0.upd (hu.mono fun _ _ h => .inl h)) (hb.b1.upd (hu.mono fun _ _ h => .inl h)) hF).mono ?_
  rintro e w' ⟨rfl, hd⟩
  exact ⟨7, rfl, rfl, Did.from_ hb.below hd⟩
theorem drSync_dead (h : DrumIs w o g mb F room left dead ops) {n : Int} (hn : 1 ≤ n ∧ n ≤ 1000) (hd : dead = true ∨ left = 0) :
    Calls Try.prog 12 #[dptr g, .int .i64 n] w fun e w' => e = .returned (.int .i64 140) ∧ Did w w' o g mb F room left true ops := by
  refine drSync_by h n fun W hb => ?_
  refine (operate_dead (h.below hb.below) n hn hd _).mono ?_
  rintro e w' ⟨rfl, h1, h2⟩
  exact ⟨140, rfl, rfl, Did.from_ hb.below (h1.did_of h2)⟩
theorem drSync_arg (h : DrumIs w o g mb F room left dead ops) {n : Int} (hn : n < 1 ∨ 1000 < n) :
    Calls Try.prog 12 #[dptr g, .int .i64 n] w fun e w' => e = .returned (.int .i64 2) ∧ Did w w' o g mb F room left dead ops := by
  refine drSync_by h n fun W hb => ?_
  refine (operate_arg (h.below hb.below) n hn _).mono ?_
  rintro e w' ⟨rfl, rfl⟩
  exact ⟨2, rfl, rfl, Did.from_ hb.below (h.below hb.below).did⟩
end
end Go.Proofs.Ytnimghkkhiacfaa.P
