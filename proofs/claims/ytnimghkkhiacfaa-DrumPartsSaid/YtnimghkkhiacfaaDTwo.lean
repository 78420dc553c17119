/- Two drums side by side. -/
import Derived.Test.YtnimghkkhiacfaaDFiles
import Derived.Test.YtnimghkkhiacfaaDLive
namespace Go.Proofs.Ytnimghkkhiacfaa.P
open Go.RowKit Go.Proofs.YtnimghkkhiacfaaW.PrintWords Go.Proofs.YtnimghkkhiacfaaW.PrintLast Go.Proofs.YtnimghkkhiacfaaW.PrintMore
structure Apart (w W : World) (oa : Nat → Int) (ga ma : Nat) (ob : Nat → Int) (gb mb : Nat) : Prop where
  below : Below w.heap.size w W
  fa : ∀ k, k < w.heap.size → ¬ mine oa ga ma k
  fb : ∀ k, k < w.heap.size → ¬ mine ob gb mb k
  ab : ∀ k, mine oa ga ma k → ¬ mine ob gb mb k
/-- in W there are two drums that were made behind w. -/
def TwoD (w W : World) (ga ma : Nat) (Fa : Files) (ra : Nat) (la : Int) (da : Bool) (pa : Int) (gb mb : Nat) (Fb : Files) (rb : Nat) (lb : Int) (db : Bool) (pb : Int) : Prop :=
  ∃ oa ob, Apart w W oa ga ma ob gb mb ∧ DrumIs W oa ga ma Fa ra la da pa ∧ DrumIs W ob gb mb Fb rb lb db pb
section
variable {w W W1 : World} {ga ma gb mb : Nat} {Fa Fb F' : Files} {ra rb : Nat} {la lb l' pa pb p' : Int} {da db d' : Bool}
theorem TwoD.swap (h : TwoD w W ga ma Fa ra la da pa gb mb Fb rb lb db pb) : TwoD w W gb mb Fb rb lb db pb ga ma Fa ra la da pa := by
  obtain ⟨oa, ob, h1, h2, h3⟩ := h
  exact ⟨ob, oa, ⟨h1.below, h1.fb, h1.fa, fun k hb ha => h1.ab k ha hb⟩, h3, h2⟩
theorem TwoD.dr (h : TwoD w W ga ma Fa ra la da pa gb mb Fb rb lb db pb) : Dr w W ga ma Fa ra la da pa := by
  obtain ⟨oa, ob, h1, h2, h3⟩ := h
  exact ⟨h1.below, oa, h2, h1.fa⟩
theorem TwoD.below (h : TwoD w W ga ma Fa ra la da pa gb mb Fb rb lb db pb) (hb : Below W.heap.size W W1) : TwoD w W1 ga ma Fa ra la da pa gb mb Fb rb lb db pb := by
  obtain ⟨oa, ob, h1, h2, h3⟩ := h
  exact ⟨oa, ob, ⟨h1.below.trans (hb.mono h1.below.size), h1.fa, h1.fb, h1.ab⟩, h2.below hb, h3.below hb⟩
theorem TwoD.did {oa ob : Nat → Int} (h1 : Apart w W oa ga ma ob gb mb) (h3 : DrumIs W ob gb mb Fb rb lb db pb) (hd : Did W W1 oa ga ma F' ra l' d' p') : TwoD w W1 ga ma F' ra l' d' p' gb mb Fb rb lb db pb := by
  obtain ⟨o', a1, a2, a3⟩ := hd
  have hsz := h1.below.size
  refine ⟨o', ob, ⟨h1.below.trans (a3.below hsz (fun k hk h => h1.fa k hk h)), fun k hk hm => ?_, h1.fb, fun k hm => ?_⟩, a1, h3.upd a3 (fun k hm ha => h1.ab k ha hm)⟩
  · refine h1.fa k hk ?_
    rcases hm with e | e | e
    · exact .inl e
    · exact .inr (.inl e)
    · exact .inr (.inr (by rw [← a2 k (Nat.lt_of_lt_of_le hk hsz)]; exact e))
  · by_cases hlt : k < W.heap.size
    · refine h1.ab k ?_
      rcases hm with e | e | e
      · exact .inl e
      · exact .inr (.inl e)
      · exact .inr (.inr (by rw [← a2 k hlt]; exact e))
    · exact h3.fresh (Nat.le_of_not_lt hlt)
theorem twoD_new (h : Dr w W ga ma Fa ra la da pa) (room : Nat) (hr : room ≤ 4194304) : Calls Try.prog 9 #[.int .i64 room] W fun e w' => ∃ gb mb, e = .returned (.tuple #[dptr gb, .int .i64 0]) ∧ TwoD w w' ga ma Fa ra la da pa gb mb (fun _ => none) room (-1) false 0 := by
  obtain ⟨hb, oa, h2, h3⟩ := h
  refine (drNew_any room hr W).mono ?_
  rintro e w' ⟨g, mb, rfl, a1, a2, a3, a4⟩
  refine ⟨g, mb, rfl, oa, _, ⟨hb.trans (a4.mono hb.size), h3, fun k hk hm => ?_, fun k ha hm => ?_⟩, h2.below a4, a1⟩
  · have := hb.size
    rcases hm with e | e | e
    · omega
    · omega
    · exact e rfl
  · have hk : W.heap.size ≤ k := by
      rcases hm with e | e | e
      · omega
      · omega
      · exact absurd rfl e
    exact h2.fresh hk ha
theorem TwoD.append_ok (h : TwoD w W ga ma Fa ra la false pa gb mb Fb rb lb db pb) (hb : Below W.heap.size W W1) {n : Int} (hn : 1 ≤ n ∧ n ≤ 1000) (hl : la ≠ 0) (hl2 : -9223372036854775808 ≤ la) (hl3 : la ≤ 9223372036854775807) (ho1 : 0 ≤ pa) (ho2 : pa ≤ 1000000000) {A : Option Addr} {c : Nat} {l : List (List Int)} {ok : Nat → Prop}
    (hF : Kd.F kBs W1 ok A l.length l) (hok : ∀ k, ok k → k < w.heap.size ∨ W.heap.size ≤ k) (hf : sumF Fa + l.flatten.length ≤ ra) :
    Calls Try.prog 11 #[dptr ga, .int .i64 n, .slice A l.length c] W1 fun e w' => e = .returned (.int .i64 0) ∧ TwoD w w' ga ma (upF Fa n (some ((getF Fa n).1, (getF Fa n).2 ++ l.flatten))) ra (decL la) false (pa + 1) gb mb Fb rb lb db pb := by
  obtain ⟨oa, ob, h1, h2, h3⟩ := h
  refine (drAppend_ok (h2.below hb) hn hl hl2 hl3 ho1 ho2 (Dr.arg h2 h1.fa hF hok) hf).mono ?_
  rintro e w' ⟨he, hd⟩
  exact ⟨he, TwoD.did ⟨h1.below.trans (hb.mono h1.below.size), h1.fa, h1.fb, h1.ab⟩ (h3.below hb) hd⟩
theorem TwoD.append_full (h : TwoD w W ga ma Fa ra la false pa gb mb Fb rb lb db pb) (hb : Below W.heap.size W W1) {n : Int} (hn : 1 ≤ n ∧ n ≤ 1000) (hl : la ≠ 0) (hl2 : -9223372036854775808 ≤ la) (hl3 : la ≤ 9223372036854775807) (ho1 : 0 ≤ pa) (ho2 : pa ≤ 1000000000) {A : Option Addr} {c : Nat} {l : List (List Int)} {ok : Nat → Prop}
    (hF : Kd.F kBs W1 ok A l.length l) (hok : ∀ k, ok k → k < w.heap.size ∨ W.heap.size ≤ k) (hm : l.flatten.length ≤ 1099511627776) (hf : ra < sumF Fa + l.flatten.length) :
    Calls Try.prog 11 #[dptr ga, .int .i64 n, .slice A l.length c] W1 fun e w' => e = .returned (.int .i64 5) ∧ TwoD w w' ga ma Fa ra (decL la) false pa gb mb Fb rb lb db pb := by
  obtain ⟨oa, ob, h1, h2, h3⟩ := h
  refine (drAppend_full (h2.below hb) hn hl hl2 hl3 ho1 ho2 (Dr.arg h2 h1.fa hF hok) hm hf).mono ?_
  rintro e w' ⟨he, hd⟩
  exact ⟨he, TwoD.did ⟨h1.below.trans (hb.mono h1.below.size), h1.fa, h1.fb, h1.ab⟩ (h3.below hb) hd⟩
end
section
variable {w W W1 : World} {g mb : Nat} {F F' : Files} {room : Nat} {left left' ops ops' : Int} {dead dead' : Bool}
theorem Dr.delete_ok (h : Dr w W g mb F room left false ops) {n : Int} (hn : 1 ≤ n ∧ n ≤ 1000) (hl : left ≠ 0) (hl2 : -9223372036854775808 ≤ left) (hl3 : left ≤ 9223372036854775807) (ho1 : 0 ≤ ops) (ho2 : ops ≤ 1000000000) {s r : List Int} (hF : F n = some (s, r)) :
    Calls Try.prog 24 #[dptr g, .int .i64 n] W fun e w' => e = .returned (.int .i64 0) ∧ Dr w w' g mb (upF F n none) room (decL left) false (ops + 1) := by
  obtain ⟨h1, o, h2, h3⟩ := h
  exact (drDelete_ok h2 hn hl hl2 hl3 ho1 ho2 hF).mono fun e w' ⟨he, hd⟩ => ⟨he, Dr.did h1 h3 hd⟩
theorem Dr.delete_none (h : Dr w W g mb F room left false ops) {n : Int} (hn : 1 ≤ n ∧ n ≤ 1000) (hl : left ≠ 0) (hl2 : -9223372036854775808 ≤ left) (hl3 : left ≤ 9223372036854775807) (ho1 : 0 ≤ ops) (ho2 : ops ≤ 1000000000) (hF : F n = none) :
    Calls Try.prog 24 #[dptr g, .int .i64 n] W fun e w' => e = .returned (.int .i64 7) ∧ Dr w w' g mb F room (decL left) false ops := by
  obtain ⟨h1, o, h2, h3⟩ := h
  exact (drDelete_none h2 hn hl hl2 hl3 ho1 ho2 hF).mono fun e w' ⟨he, hd⟩ => ⟨he, Dr.did h1 h3 hd⟩
theorem Dr.delete_dead (h : Dr w W g mb F room left dead ops) {n : Int} (hn : 1 ≤ n ∧ n ≤ 1000) (hd : dead = true ∨ left = 0) :
    Calls Try.prog 24 #[dptr g, .int .i64 n] W fun e w' => e = .returned (.int .i64 140) ∧ Dr w w' g mb F room left true ops := by
  obtain ⟨h1, o, h2, h3⟩ := h
  exact (drDelete_dead h2 hn hd).mono fun e w' ⟨he, hd⟩ => ⟨he, Dr.did h1 h3 hd⟩
theorem Dr.delete_arg (h : Dr w W g mb F room left dead ops) {n : Int} (hn : n < 1 ∨ 1000 < n) :
    Calls Try.prog 24 #[dptr g, .int .i64 n] W fun e w' => e = .returned (.int .i64 2) ∧ Dr w w' g mb F room left dead ops := by
  obtain ⟨h1, o, h2, h3⟩ := h
  exact (drDelete_arg h2 hn).mono fun e w' ⟨he, hd⟩ => ⟨he, Dr.did h1 h3 hd⟩
theorem Dr.read_arg (h : Dr w W g mb F room left dead ops) {n : Int} (hn : n < 1 ∨ 1000 < n) :
    Calls Try.prog 14 #[dptr g, .int .i64 n] W fun e w' => e = .returned (.tuple #[.slice none 0 0, .int .i64 2]) ∧ w' = W := by
  obtain ⟨h1, o, h2, h3⟩ := h
  exact drRead_arg h2 hn
theorem Dr.read_dead (h : Dr w W g mb F room left true ops) {n : Int} (hn : 1 ≤ n ∧ n ≤ 1000) :
    Calls Try.prog 14 #[dptr g, .int .i64 n] W fun e w' => e = .returned (.tuple #[.slice none 0 0, .int .i64 140]) ∧ w' = W := by
  obtain ⟨h1, o, h2, h3⟩ := h
  exact drRead_dead h2 hn
theorem Dr.files (h : Dr w W g mb F room left dead ops) : Calls Try.prog 28 #[dptr g] W fun e w' => ∃ v, e = .returned v ∧ w'.ownsRow W.heap.size 3 1 v (keysF F).length (nums .i64 (keysF F)) ∧ Below W.heap.size W w' := by
  obtain ⟨h1, o, h2, h3⟩ := h
  exact drFiles_any h2
end
end Go.Proofs.Ytnimghkkhiacfaa.P
