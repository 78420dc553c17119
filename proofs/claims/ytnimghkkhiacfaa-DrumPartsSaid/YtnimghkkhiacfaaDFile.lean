/- A drum: its files, what belongs to it. -/
import Derived.Test.YtnimghkkhiacfaaDMap
namespace Go.Proofs.Ytnimghkkhiacfaa.P
open Go.RowKit Go.Maps Go.ChangeMaps Go.Proofs.YtnimghkkhiacfaaW.PrintWords
/-- a row of bytes of one's own. -/
def Row (w : World) (v : Value) (xs : List Int) : Prop := w.ownsRow 0 5 1 v xs.length (nums .u8 xs)
theorem Row.upd {w w' : World} {S : Nat → Prop} {v : Value} {xs : List Int} (h : Row w v xs) (hu : Upd w w' S) (hs : ∀ k, v.ownBlock = some k → ¬ S k) : Row w' v xs := by
  obtain ⟨h0, h⟩ := h
  refine ⟨h0, ?_⟩
  rcases h with h | ⟨g, cap, cur, rfl, h1, h2, h3⟩
  · exact .inl h
  · refine .inr ⟨g, cap, cur, rfl, h1, ?_, h3⟩
    have hlt : g < w.heap.size := (Array.getElem?_eq_some_iff.1 h2).1
    exact (hu.block g hlt (hs g (by simp [Value.ownBlock]))).trans h2
theorem Row.nil (w : World) : Row w (.slice none 0 0) [] := ⟨rfl, .inl ⟨rfl, rfl⟩⟩
theorem Row.lt {w : World} {v : Value} {xs : List Int} (h : Row w v xs) : ∀ k, v.ownBlock = some k → k < w.heap.size := by
  obtain ⟨h0, h⟩ := h
  intro k hk
  rcases h with ⟨rfl, _⟩ | ⟨g, cap, cur, rfl, h1, h2, h3⟩
  · simp [Value.ownBlock] at hk
  · simp [Value.ownBlock] at hk
    subst hk
    exact (Array.getElem?_eq_some_iff.1 h2).1
theorem Row.reads {w : World} {v : Value} {xs : List Int} (h : Row w v xs) : ∃ A c, v = .slice A xs.length c ∧ ReadsInt w .u8 A xs.length xs := own_reads h
/-- a file: its block, its two rows; all are of owner n. -/
def FileAt (w : World) (o : Nat → Int) (n : Int) (fb : Nat) (s r : List Int) : Prop :=
  o fb = n ∧ ∃ vs vr, Blk w fb 70 #[vs, vr] ∧ Row w vs s ∧ Row w vr r ∧ (∀ k, vs.ownBlock = some k → o k = n ∧ k ≠ fb) ∧ (∀ k, vr.ownBlock = some k → o k = n ∧ k ≠ fb) ∧ (∀ k, vs.ownBlock = some k → vr.ownBlock ≠ some k)
theorem FileAt.upd {w w' : World} {o : Nat → Int} {n : Int} {fb : Nat} {s r : List Int} {S : Nat → Prop} (h : FileAt w o n fb s r) (hu : Upd w w' S) (hS : ∀ k, o k = n → ¬ S k) : FileAt w' o n fb s r := by
  obtain ⟨h0, vs, vr, hb, h1, h2, h3, h4, h5⟩ := h
  exact ⟨h0, vs, vr, hb.upd hu (hS fb h0), h1.upd hu (fun k hk => hS k (h3 k hk).1), h2.upd hu (fun k hk => hS k (h4 k hk).1), h3, h4, h5⟩
theorem FileAt.re {w : World} {o o' : Nat → Int} {n : Int} {fb : Nat} {s r : List Int} (h : FileAt w o n fb s r) (he : ∀ k, k < w.heap.size → o k = n → o' k = n) : FileAt w o' n fb s r := by
  obtain ⟨h0, vs, vr, hb, h1, h2, h3, h4, h5⟩ := h
  exact ⟨he fb hb.lt h0, vs, vr, hb, h1, h2, fun k hk => ⟨he k (h1.lt k hk) (h3 k hk).1, (h3 k hk).2⟩, fun k hk => ⟨he k (h2.lt k hk) (h4 k hk).1, (h4 k hk).2⟩, h5⟩
abbrev Files := Int → Option (List Int × List Int)
def szF (v : Option (List Int × List Int)) : Nat := match v with | none => 0 | some (s, r) => s.length + r.length
def sumL (f : Nat → Nat) : List Nat → Nat
  | [] => 0
  | x :: l => f x + sumL f l
theorem sumL_same {f f' : Nat → Nat} {x : Nat} (h : ∀ y, y ≠ x → f' y = f y) : ∀ l : List Nat, x ∉ l → sumL f' l = sumL f l
  | [], _ => rfl
  | y :: l, hx => by
    unfold sumL
    rw [h y (fun e => hx (e ▸ List.mem_cons_self ..)), sumL_same h l (fun h => hx (List.mem_cons_of_mem _ h))]
theorem sumL_up {f f' : Nat → Nat} {x : Nat} (h : ∀ y, y ≠ x → f' y = f y) : ∀ l : List Nat, l.Nodup → x ∈ l → sumL f' l + f x = sumL f l + f' x
  | [], _, hx => by cases hx
  | y :: l, hn, hx => by
    have hn' := List.nodup_cons.1 hn
    unfold sumL
    by_cases e : y = x
    · subst e
      rw [sumL_same h l hn'.1]; omega
    · have hl : x ∈ l := by
        rcases List.mem_cons.1 hx with h | h
        · exact absurd h.symm e
        · exact h
      have ih := sumL_up h l hn'.2 hl
      rw [h y e]; omega
theorem sumL_le (f : Nat → Nat) {x : Nat} : ∀ l : List Nat, x ∈ l → f x ≤ sumL f l
  | [], hx => by cases hx
  | y :: l, hx => by
    unfold sumL
    rcases List.mem_cons.1 hx with rfl | h
    · omega
    · have := sumL_le f l h; omega
theorem sumL_zero {f : Nat → Nat} (h : ∀ x, f x = 0) : ∀ l : List Nat, sumL f l = 0
  | [] => rfl
  | y :: l => by unfold sumL; rw [h y, sumL_zero h l]
/-- how many bytes all files have. -/
def sumF (F : Files) : Nat := sumL (fun i => szF (F i)) (List.range 1001)
theorem sumF_up (F : Files) {n : Int} (h0 : 0 ≤ n) (h1 : n ≤ 1000) (v : Option (List Int × List Int)) : sumF (upF F n v) + szF (F n) = sumF F + szF v := by
  obtain ⟨m, rfl⟩ : ∃ m : Nat, n = m := ⟨n.toNat, by omega⟩
  have := sumL_up (f := fun i => szF (F i)) (f' := fun i => szF (upF F m v i)) (x := m) (fun y hy => by rw [upF_other F _ (show ((y : Nat) : Int) ≠ m by omega)]) (List.range 1001) List.nodup_range (List.mem_range.2 (by omega))
  simp only [upF_same] at this
  exact this
theorem szF_le (F : Files) {n : Int} (h0 : 0 ≤ n) (h1 : n ≤ 1000) : szF (F n) ≤ sumF F := by
  obtain ⟨m, rfl⟩ : ∃ m : Nat, n = m := ⟨n.toNat, by omega⟩
  exact sumL_le (fun i => szF (F i)) _ (List.mem_range.2 (by omega))
theorem sumF_none : sumF (fun _ => none) = 0 := sumL_zero (fun _ => rfl) _
def ptrs (F : Files) (fb : Int → Nat) : Int → Option Value := fun n => (F n).map fun _ => .pointer (some ⟨fb n, 0, none⟩)
/-- a drum at block g, its map at block mb; o: whose a block is (0: none of a file's). -/
structure DrumIs (w : World) (o : Nat → Int) (g mb : Nat) (F : Files) (room : Nat) (left : Int) (dead : Bool) (ops : Int) : Prop where
  blk : Blk w g 64 #[.map (some mb), .int .i64 (room - sumF F), .int .i64 left, .bool dead, .int .i64 ops]
  zg : o g = 0
  zm : o mb = 0
  lt : ∀ k, o k ≠ 0 → k < w.heap.size
  key : ∀ n x, F n = some x → 1 ≤ n ∧ n ≤ 1000
  fit : sumF F ≤ room
  big : room ≤ 4194304
  ex : ∃ fb : Int → Nat, MI w mb (ptrs F fb) ∧ ∀ n x, F n = some x → FileAt w o n (fb n) x.1 x.2
/-- the blocks of a drum. -/
def mine (o : Nat → Int) (g mb : Nat) (k : Nat) : Prop := k = g ∨ k = mb ∨ o k ≠ 0
section
variable {w w' : World} {o o' : Nat → Int} {g mb : Nat} {F : Files} {room : Nat} {left ops : Int} {dead : Bool}
theorem DrumIs.ne (h : DrumIs w o g mb F room left dead ops) : g ≠ mb := by
  obtain ⟨fb, hm, _⟩ := h.ex
  exact hm.block h.blk
theorem DrumIs.glt (h : DrumIs w o g mb F room left dead ops) : g < w.heap.size := h.blk.lt
theorem DrumIs.mlt (h : DrumIs w o g mb F room left dead ops) : mb < w.heap.size := by
  obtain ⟨fb, hm, _⟩ := h.ex
  exact hm.lt
theorem DrumIs.upd {S : Nat → Prop} (h : DrumIs w o g mb F room left dead ops) (hu : Upd w w' S) (hS : ∀ k, mine o g mb k → ¬ S k) : DrumIs w' o g mb F room left dead ops := by
  obtain ⟨fb, hm, hf⟩ := h.ex
  exact ⟨h.blk.upd hu (hS g (.inl rfl)), h.zg, h.zm, fun k hk => Nat.lt_of_lt_of_le (h.lt k hk) hu.size, h.key, h.fit, h.big, fb, hm.upd hu (hS mb (.inr (.inl rfl))), fun n x hx => (hf n x hx).upd hu (fun k hk => hS k (.inr (.inr (by have := (h.key n x hx).1; omega))))⟩
theorem DrumIs.below (h : DrumIs w o g mb F room left dead ops) (hb : Below w.heap.size w w') : DrumIs w' o g mb F room left dead ops := h.upd (Upd.of_below hb (fun _ => False)) (fun _ _ x => x)
/-- its own cells are written. -/
theorem DrumIs.turn {left' ops' : Int} {dead' : Bool} (h : DrumIs w o g mb F room left dead ops) (hu : Upd w w' (· = g)) (hb : Blk w' g 64 #[.map (some mb), .int .i64 (room - sumF F), .int .i64 left', .bool dead', .int .i64 ops']) : DrumIs w' o g mb F room left' dead' ops' := by
  obtain ⟨fb, hm, hf⟩ := h.ex
  exact ⟨hb, h.zg, h.zm, fun k hk => Nat.lt_of_lt_of_le (h.lt k hk) hu.size, h.key, h.fit, h.big, fb, hm.upd hu (fun e => h.ne e.symm), fun n x hx => (hf n x hx).upd hu (fun k hk e => by have := (h.key n x hx).1; have := h.zg; subst e; omega)⟩
end
end Go.Proofs.Ytnimghkkhiacfaa.P
