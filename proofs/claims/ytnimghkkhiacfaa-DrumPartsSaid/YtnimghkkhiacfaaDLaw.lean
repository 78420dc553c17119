/- A drum of a statement's own: what its operations leave, of what was there when the statement began nothing has turned. -/
import Derived.Test.YtnimghkkhiacfaaDCrash
namespace Go.Proofs.Ytnimghkkhiacfaa.P
open Go.RowKit Go.Proofs.YtnimghkkhiacfaaW.PrintWords Go.Proofs.YtnimghkkhiacfaaW.PrintLast Go.Proofs.YtnimghkkhiacfaaW.PrintMore
/-- in W there is a drum that was made behind w. -/
def Dr (w W : World) (g mb : Nat) (F : Files) (room : Nat) (left : Int) (dead : Bool) (ops : Int) : Prop :=
  Below w.heap.size w W ∧ ∃ o, DrumIs W o g mb F room left dead ops ∧ (∀ k, k < w.heap.size → ¬ mine o g mb k)
section
variable {w W W1 : World} {g mb : Nat} {F F' : Files} {room : Nat} {left left' ops ops' : Int} {dead dead' : Bool}
theorem Dr.below (h : Dr w W g mb F room left dead ops) (hb : Below W.heap.size W W1) : Dr w W1 g mb F room left dead ops := by
  obtain ⟨h1, o, h2, h3⟩ := h
  exact ⟨h1.trans (hb.mono h1.size), o, h2.below hb, h3⟩
theorem Dr.did {o : Nat → Int} (hw : Below w.heap.size w W) (ho : ∀ k, k < w.heap.size → ¬ mine o g mb k) (hd : Did W W1 o g mb F' room left' dead' ops') : Dr w W1 g mb F' room left' dead' ops' := by
  obtain ⟨o', h1, h2, h3⟩ := hd
  refine ⟨hw.trans (h3.below hw.size (fun k hk h => ho k hk h)), o', h1, fun k hk hm => ?_⟩
  have := ho k hk
  rcases hm with e | e | e
  · exact this (.inl e)
  · exact this (.inr (.inl e))
  · exact this (.inr (.inr (by rw [← h2 k (Nat.lt_of_lt_of_le hk hw.size)]; exact e)))
theorem dr_new (hb : Below w.heap.size w W) (room : Nat) (hr : room ≤ 4194304) : Calls Try.prog 9 #[.int .i64 room] W fun e w' => ∃ g mb, e = .returned (.tuple #[dptr g, .int .i64 0]) ∧ Dr w w' g mb (fun _ => none) room (-1) false 0 := by
  refine (drNew_any room hr W).mono ?_
  rintro e w' ⟨g, mb, rfl, h1, h2, h3, h4⟩
  exact ⟨g, mb, rfl, hb.trans (h4.mono hb.size), _, h1, fun k hk hm => by
    have := hb.size
    rcases hm with e | e | e
    · omega
    · omega
    · exact e rfl⟩
/-- arguments that are none of a drum's blocks. -/
theorem Dr.arg {α : Type} {d : Kd α} {o : Nat → Int} {ok : Nat → Prop} {A : Option Addr} {n : Nat} {xs : List α} (h : DrumIs W o g mb F room left dead ops) (ho : ∀ k, k < w.heap.size → ¬ mine o g mb k) (hF : Kd.F d W1 ok A n xs) (hok : ∀ k, ok k → k < w.heap.size ∨ W.heap.size ≤ k) :
    ∀ W', Upd W1 W' (mine o g mb) → Kd.C d W' A n xs := fun W' hu => Kd.F_now (Kd.F_step hF (fun k hk hlt => hu.block k hlt (by
      rcases hok k hk with h1 | h1
      · exact ho k h1
      · exact h.fresh h1)))
theorem Dr.append_ok (h : Dr w W g mb F room left false ops) (hb : Below W.heap.size W W1) {n : Int} (hn : 1 ≤ n ∧ n ≤ 1000) (hl : left ≠ 0) (hl2 : -9223372036854775808 ≤ left) (hl3 : left ≤ 9223372036854775807) (ho1 : 0 ≤ ops) (ho2 : ops ≤ 1000000000) {A : Option Addr} {c : Nat} {l : List (List Int)} {ok : Nat → Prop}
    (hF : Kd.F kBs W1 ok A l.length l) (hok : ∀ k, ok k → k < w.heap.size ∨ W.heap.size ≤ k) (hf : sumF F + l.flatten.length ≤ room) :
    Calls Try.prog 11 #[dptr g, .int .i64 n, .slice A l.length c] W1 fun e w' => e = .returned (.int .i64 0) ∧ Dr w w' g mb (upF F n (some ((getF F n).1, (getF F n).2 ++ l.flatten))) room (decL left) false (ops + 1) := by
  obtain ⟨h1, o, h2, h3⟩ := h
  refine (drAppend_ok (h2.below hb) hn hl hl2 hl3 ho1 ho2 (Dr.arg h2 h3 hF hok) hf).mono ?_
  rintro e w' ⟨he, hd⟩
  exact ⟨he, Dr.did (h1.trans (hb.mono h1.size)) h3 hd⟩
theorem Dr.append_full (h : Dr w W g mb F room left false ops) (hb : Below W.heap.size W W1) {n : Int} (hn : 1 ≤ n ∧ n ≤ 1000) (hl : left ≠ 0) (hl2 : -9223372036854775808 ≤ left) (hl3 : left ≤ 9223372036854775807) (ho1 : 0 ≤ ops) (ho2 : ops ≤ 1000000000) {A : Option Addr} {c : Nat} {l : List (List Int)} {ok : Nat → Prop}
    (hF : Kd.F kBs W1 ok A l.length l) (hok : ∀ k, ok k → k < w.heap.size ∨ W.heap.size ≤ k) (hm : l.flatten.length ≤ 1099511627776) (hf : room < sumF F + l.flatten.length) :
    Calls Try.prog 11 #[dptr g, .int .i64 n, .slice A l.length c] W1 fun e w' => e = .returned (.int .i64 5) ∧ Dr w w' g mb F room (decL left) false ops := by
  obtain ⟨h1, o, h2, h3⟩ := h
  refine (drAppend_full (h2.below hb) hn hl hl2 hl3 ho1 ho2 (Dr.arg h2 h3 hF hok) hm hf).mono ?_
  rintro e w' ⟨he, hd⟩
  exact ⟨he, Dr.did (h1.trans (hb.mono h1.size)) h3 hd⟩
theorem Dr.append_dead (h : Dr w W g mb F room left dead ops) {n : Int} (hn : 1 ≤ n ∧ n ≤ 1000) (hd : dead = true ∨ left = 0) {A : Option Addr} {c m : Nat} :
    Calls Try.prog 11 #[dptr g, .int .i64 n, .slice A m c] W fun e w' => e = .returned (.int .i64 140) ∧ Dr w w' g mb F room left true ops := by
  obtain ⟨h1, o, h2, h3⟩ := h
  exact (drAppend_dead h2 hn hd).mono fun e w' ⟨he, hd⟩ => ⟨he, Dr.did h1 h3 hd⟩
theorem Dr.append_arg (h : Dr w W g mb F room left dead ops) {n : Int} (hn : n < 1 ∨ 1000 < n) {A : Option Addr} {c m : Nat} :
    Calls Try.prog 11 #[dptr g, .int .i64 n, .slice A m c] W fun e w' => e = .returned (.int .i64 2) ∧ Dr w w' g mb F room left dead ops := by
  obtain ⟨h1, o, h2, h3⟩ := h
  exact (drAppend_arg h2 hn).mono fun e w' ⟨he, hd⟩ => ⟨he, Dr.did h1 h3 hd⟩
theorem Dr.sync_ok (h : Dr w W g mb F room left false ops) {n : Int} (hn : 1 ≤ n ∧ n ≤ 1000) (hl : left ≠ 0) (hl2 : -9223372036854775808 ≤ left) (hl3 : left ≤ 9223372036854775807) (ho1 : 0 ≤ ops) (ho2 : ops ≤ 1000000000) {s r : List Int} (hF : F n = some (s, r)) :
    Calls Try.prog 12 #[dptr g, .int .i64 n] W fun e w' => e = .returned (.int .i64 0) ∧ Dr w w' g mb (upF F n (some (s ++ r, []))) room (decL left) false (ops + 1) := by
  obtain ⟨h1, o, h2, h3⟩ := h
  exact (drSync_ok h2 hn hl hl2 hl3 ho1 ho2 hF).mono fun e w' ⟨he, hd⟩ => ⟨he, Dr.did h1 h3 hd⟩
theorem Dr.sync_dead (h : Dr w W g mb F room left dead ops) {n : Int} (hn : 1 ≤ n ∧ n ≤ 1000) (hd : dead = true ∨ left = 0) :
    Calls Try.prog 12 #[dptr g, .int .i64 n] W fun e w' => e = .returned (.int .i64 140) ∧ Dr w w' g mb F room left true ops := by
  obtain ⟨h1, o, h2, h3⟩ := h
  exact (drSync_dead h2 hn hd).mono fun e w' ⟨he, hd⟩ => ⟨he, Dr.did h1 h3 hd⟩
theorem Dr.arm (h : Dr w W g mb F room left dead ops) (n : Int) : Calls Try.prog 15 #[dptr g, .int .i64 n] W fun e w' => e = .returned (.tuple #[]) ∧ Dr w w' g mb F room n dead ops := by
  obtain ⟨h1, o, h2, h3⟩ := h
  exact (drArm_any h2 n).mono fun e w' ⟨he, hd, hu⟩ => ⟨he, Dr.did h1 h3 (hd.did_of hu)⟩
theorem Dr.armU (h : Dr w W g mb F room left dead ops) (n : Int) : Calls Try.prog 15 #[dptr g, .int .i64 n] W fun e w' => e = .returned (.tuple #[]) ∧ Dr w w' g mb F room n dead ops ∧ Upd W w' (· = g) := by
  obtain ⟨h1, o, h2, h3⟩ := h
  exact (drArm_any h2 n).mono fun e w' ⟨he, hd, hu⟩ => ⟨he, Dr.did h1 h3 (hd.did_of hu), hu⟩
theorem Dr.glt (h : Dr w W g mb F room left dead ops) : g < W.heap.size := by
  obtain ⟨h1, o, h2, h3⟩ := h
  exact h2.glt
theorem Dr.isDead (h : Dr w W g mb F room left dead ops) : Calls Try.prog 16 #[dptr g] W fun e w' => e = .returned (.bool dead) ∧ w' = W := by
  obtain ⟨h1, o, h2, h3⟩ := h
  exact drDead_any h2
theorem Dr.ops_ (h : Dr w W g mb F room left dead ops) : Calls Try.prog 17 #[dptr g] W fun e w' => e = .returned (.int .i64 ops) ∧ w' = W := by
  obtain ⟨h1, o, h2, h3⟩ := h
  exact drOps_any h2
theorem Dr.free (h : Dr w W g mb F room left dead ops) : Calls Try.prog 29 #[dptr g] W fun e w' => e = .returned (.int .i64 (room - sumF F)) ∧ w' = W := by
  obtain ⟨h1, o, h2, h3⟩ := h
  exact drFree_any h2
theorem Dr.read_ok (h : Dr w W g mb F room left false ops) {n : Int} (hn : 1 ≤ n ∧ n ≤ 1000) {s r : List Int} (hF : F n = some (s, r)) :
    Calls Try.prog 14 #[dptr g, .int .i64 n] W fun e w' => ∃ v, e = .returned (.tuple #[v, .int .i64 0]) ∧ RowB w' W.heap.size v (s ++ r) ∧ Below W.heap.size W w' ∧ Dr w w' g mb F room left false ops := by
  have h0 := h
  obtain ⟨h1, o, h2, h3⟩ := h
  exact (drRead_ok h2 hn hF).mono fun e w' ⟨v, he, hr, hb⟩ => ⟨v, he, hr, hb, h0.below hb⟩
theorem Dr.read_none (h : Dr w W g mb F room left false ops) {n : Int} (hn : 1 ≤ n ∧ n ≤ 1000) (hF : F n = none) :
    Calls Try.prog 14 #[dptr g, .int .i64 n] W fun e w' => e = .returned (.tuple #[.slice none 0 0, .int .i64 7]) ∧ w' = W := by
  obtain ⟨h1, o, h2, h3⟩ := h
  exact drRead_none h2 hn hF
theorem Dr.crash (h : Dr w W g mb F room left dead ops) (hb : Below W.heap.size W W1) {A : Option Addr} {c : Nat} {l : List S33} {ok : Nat → Prop} (hF : Kd.F k33 W1 ok A l.length l) (hok : ∀ k, ok k → k < w.heap.size ∨ W.heap.size ≤ k) :
    Calls Try.prog 13 #[dptr g, .slice A l.length c] W1 fun e w' => e = .returned (.tuple #[]) ∧ Dr w w' g mb (crashF l F) room (-1) false ops := by
  obtain ⟨h1, o, h2, h3⟩ := h
  exact (drCrash_any (h2.below hb) (Dr.arg h2 h3 hF hok)).mono fun e w' ⟨he, hd⟩ => ⟨he, Dr.did (h1.trans (hb.mono h1.size)) h3 hd⟩
end
end Go.Proofs.Ytnimghkkhiacfaa.P
