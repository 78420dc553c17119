/- Words over any program: blocks known whole, bytes that are read, what a step keeps. -/
import Derived.WalkKit
import Derived.WalkLawsBesides
import Derived.WalkSpells
import Derived.Laws.CopyOwn
import Derived.Laws.MakeOwn
import Derived.Deep.OwnRows
import Derived.Deep.Draws
import Derived.Maps.AppendAt
import Derived.Deep.AppendLies
import Derived.Lib.Hide
import Derived.Outline
import Derived.Deep.QuietTactic
import Derived.BigQuiet
import Derived.Deep.RegionHeld3
import Derived.Deep.RegionLaw
import Derived.KernelRfl
namespace Go.Proofs.Ytmanpicmbeeceaa
open Go.RowKit

/-! ### what a call keeps: all old blocks but those in S -/
structure Upd (w w' : World) (S : Nat → Prop) : Prop where
  os : w'.os = w.os
  tape : w'.tape = w.tape
  output : w'.output = w.output
  size : w.heap.size ≤ w'.heap.size
  block : ∀ k, k < w.heap.size → ¬ S k → w'.heap[k]? = w.heap[k]?
theorem Upd.refl (w : World) (S : Nat → Prop) : Upd w w S := ⟨rfl, rfl, rfl, Nat.le_refl _, fun _ _ _ => rfl⟩
theorem Upd.trans {a b c : World} {S : Nat → Prop} (h : Upd a b S) (k : Upd b c S) : Upd a c S :=
  ⟨k.os.trans h.os, k.tape.trans h.tape, k.output.trans h.output, Nat.le_trans h.size k.size, fun i hi hs => (k.block i (Nat.lt_of_lt_of_le hi h.size) hs).trans (h.block i hi hs)⟩
theorem Upd.mono {a b : World} {S T : Nat → Prop} (h : Upd a b S) (hs : ∀ k, k < a.heap.size → S k → T k) : Upd a b T :=
  ⟨h.os, h.tape, h.output, h.size, fun i hi ht => h.block i hi (fun k => ht (hs i hi k))⟩
theorem Upd.of_below {a b : World} (h : Below a.heap.size a b) (S : Nat → Prop) : Upd a b S := ⟨h.os, h.tape, h.output, h.size, fun i hi _ => h.block i hi⟩
theorem Upd.below {a b : World} {S : Nat → Prop} {B : Nat} (h : Upd a b S) (hB : B ≤ a.heap.size) (hs : ∀ k, k < B → ¬ S k) : Below B a b :=
  ⟨h.os, h.tape, h.output, h.size, fun i hi => h.block i (by omega) (hs i hi)⟩
theorem Upd.of_grown {a b : World} {row : Option Nat} (h : a.grownBy b row) {S : Nat → Prop} (hs : ∀ k, row = some k → S k) : Upd a b S :=
  ⟨h.os, h.tape, h.output, h.size, fun i hi hn => h.block i hi (fun e => hn (hs i e.symm))⟩
theorem Upd.drew {a b : World} {S : Nat → Prop} (h : Upd a b S) : Upd a b.drew S := ⟨h.os, h.tape, h.output, h.size, h.block⟩
theorem Upd.drewN {a b : World} {S : Nat → Prop} (h : Upd a b S) (n : Nat) : Upd a (b.drewN n) S := ⟨h.os, h.tape, h.output, h.size, h.block⟩
theorem Upd.alloc {a b : World} {S : Nat → Prop} (h : Upd a b S) (o : Obj) : Upd a (b.alloc o) S :=
  h.trans ⟨rfl, rfl, rfl, by simp, fun k hk _ => Below.heap_alloc _ _ _ hk⟩
theorem Upd.setCell {a b : World} {S : Nat → Prop} (h : Upd a b S) {p : Addr} (hp : S p.block ∨ a.heap.size ≤ p.block) (u : Value) : Upd a (b.setCell p u) S :=
  ⟨h.os, h.tape, h.output, by simpa [World.setCell] using h.size, fun k hk hs => (Below.heap_setCell _ _ _ _ (by rintro rfl; rcases hp with hp | hp; exact hs hp; omega)).trans (h.block k hk hs)⟩

/-! ### a block that is known whole -/
def Blk (w : World) (g : Nat) (t : TypeId) (cs : Array Value) : Prop := w.heap[g]? = some (.cells cs t (0, 0))
section
variable {w w' : World} {g : Nat} {t : TypeId} {cs : Array Value}
theorem Blk.lt (h : Blk w g t cs) : g < w.heap.size := by
  rcases Nat.lt_or_ge g w.heap.size with hlt | hge
  · exact hlt
  · unfold Blk at h; rw [Array.getElem?_eq_none hge] at h; cases h
theorem Blk.cell (h : Blk w g t cs) (i : Nat) : w.cell? ⟨g, i, none⟩ = cs[i]? := cell_of_row w g i cs t (0, 0) h
theorem Blk.frozen (h : Blk w g t cs) (i : Nat) : w.frozen? ⟨g, i, none⟩ = false := by
  unfold Blk at h
  simp [World.frozen?, h]
theorem Blk.new (w : World) (t : TypeId) (cs : Array Value) : Blk (w.alloc (.cells cs t)) w.heap.size t cs := heap_alloc_new w _
theorem Blk.drew (h : Blk w g t cs) : Blk w.drew g t cs := h
theorem Blk.drewN (h : Blk w g t cs) (n : Nat) : Blk (w.drewN n) g t cs := h
theorem Blk.alloc (h : Blk w g t cs) (o : Obj) : Blk (w.alloc o) g t cs := (Below.heap_alloc w o g h.lt).trans h
theorem Blk.set_ (h : Blk w g t cs) (i : Nat) (u : Value) : Blk (w.setCell ⟨g, i, none⟩ u) g t (cs.setIfInBounds i u) := by
  unfold Blk at h ⊢
  simp [World.setCell, Array.getElem?_modify, h]
theorem Blk.far (h : Blk w g t cs) {p : Addr} (hp : g ≠ p.block) (u : Value) : Blk (w.setCell p u) g t cs := (Below.heap_setCell w p u g hp).trans h
theorem Blk.below {B : Nat} (h : Blk w g t cs) (hb : Below B w w') (hg : g < B) : Blk w' g t cs := (hb.block g hg).trans h
theorem Blk.upd {S : Nat → Prop} (h : Blk w g t cs) (hb : Upd w w' S) (hg : ¬ S g) : Blk w' g t cs := (hb.block g h.lt hg).trans h
theorem Blk.grown {row : Option Nat} (h : Blk w g t cs) (hb : w.grownBy w' row) (hg : some g ≠ row) : Blk w' g t cs := (hb.block g h.lt hg).trans h
theorem Blk.ne_ {g' : Nat} {t' : TypeId} {cs' : Array Value} (h : Blk w g t cs) (h' : Blk w g' t' cs') (hne : t ≠ t') : g ≠ g' := by
  rintro rfl
  unfold Blk at h h'
  rw [h] at h'
  injection h' with h'
  injection h' with _ ht
  exact hne ht
theorem Blk.c2 {a b : Value} (h : Blk w g t #[a, b]) : w.cell? ⟨g, 0, none⟩ = some a ∧ w.cell? ⟨g, 1, none⟩ = some b ∧ w.frozen? ⟨g, 0, none⟩ = false ∧ w.frozen? ⟨g, 1, none⟩ = false ∧ g < w.heap.size := ⟨h.cell 0, h.cell 1, h.frozen 0, h.frozen 1, h.lt⟩
/-- what the walk wants of a struct's cell. -/
theorem Blk.c1 {a : Value} (h : Blk w g t #[a]) : w.cell? ⟨g, 0, none⟩ = some a ∧ w.frozen? ⟨g, 0, none⟩ = false ∧ g < w.heap.size := ⟨h.cell 0, h.frozen 0, h.lt⟩
end

/-! ### what is known of blocks that nobody writes any more: no world stands in it -/
abbrev PHeap := Nat → Option Obj
def Fits (w : World) (H : PHeap) : Prop := ∀ k o, H k = some o → w.heap[k]? = some o
def PHeap.le (H H' : PHeap) : Prop := ∀ k o, H k = some o → H' k = some o
theorem PHeap.le.refl (H : PHeap) : H.le H := fun _ _ h => h
theorem PHeap.le.trans {A B C : PHeap} (h : A.le B) (k : B.le C) : A.le C := fun _ _ x => k _ _ (h _ _ x)
theorem Fits.mono {w : World} {H H' : PHeap} (h : Fits w H') (hl : H.le H') : Fits w H := fun k o x => h k o (hl k o x)
theorem Fits.lt {w : World} {H : PHeap} (h : Fits w H) {k : Nat} {o : Obj} (hk : H k = some o) : k < w.heap.size := by
  rcases Nat.lt_or_ge k w.heap.size with hlt | hge
  · exact hlt
  · have := h k o hk; rw [Array.getElem?_eq_none hge] at this; cases this
theorem Fits.none_ {w : World} {H : PHeap} (h : Fits w H) {k : Nat} (hk : w.heap.size ≤ k) : H k = none := by
  cases e : H k with
  | none => rfl
  | some o => have := h.lt e; omega
theorem Fits.below {w w' : World} {H : PHeap} (h : Fits w H) (hb : Below w.heap.size w w') : Fits w' H := fun k o x => (hb.block k (h.lt x)).trans (h k o x)
theorem Fits.upd {w w' : World} {H : PHeap} {S : Nat → Prop} (h : Fits w H) (hb : Upd w w' S) (hs : ∀ k, S k → H k = none) : Fits w' H := fun k o x =>
  (hb.block k (h.lt x) (fun hk => by rw [hs k hk] at x; cases x)).trans (h k o x)
@[go_sem] theorem Fits.alloc {w : World} {H : PHeap} (h : Fits w H) (o : Obj) : Fits (w.alloc o) H := fun k _ x => (Below.heap_alloc w o k (h.lt x)).trans (h k _ x)
@[go_sem] theorem Fits.drew {w : World} {H : PHeap} (h : Fits w H) : Fits w.drew H := h
@[go_sem] theorem Fits.drewN {w : World} {H : PHeap} (h : Fits w H) (n : Nat) : Fits (w.drewN n) H := h
theorem Fits.setCell {w : World} {H : PHeap} (h : Fits w H) {p : Addr} (hp : H p.block = none) (u : Value) : Fits (w.setCell p u) H := fun k o x =>
  (Below.heap_setCell w p u k (by rintro rfl; rw [hp] at x; cases x)).trans (h k o x)
theorem Fits.grown {w w' : World} {H : PHeap} {row : Option Nat} (h : Fits w H) (hg : w.grownBy w' row) (hr : ∀ k, row = some k → H k = none) : Fits w' H := fun k o x =>
  (hg.block k (h.lt x) (fun e => by rw [hr k e.symm] at x; cases x)).trans (h k o x)

/-- whatever fits holds this in the cell. -/
def HCell (H : PHeap) (a : Addr) (u : Value) : Prop := ∀ w, Fits w H → w.cell? a = some u
theorem HCell.mono {H H' : PHeap} {a : Addr} {u : Value} (h : HCell H a u) (hl : H.le H') : HCell H' a u := fun w hw => h w (hw.mono hl)

/-- what one call adds: old blocks stay, what is known grows by new blocks alone. -/
structure Grow (w : World) (H : PHeap) (w' : World) (H' : PHeap) : Prop where
  below : Below w.heap.size w w'
  fits : Fits w' H'
  le : H.le H'
  new : ∀ k, H' k ≠ none → H k ≠ none ∨ w.heap.size ≤ k
theorem Grow.refl {w : World} {H : PHeap} (h : Fits w H) : Grow w H w H := ⟨Below.refl _ _, h, PHeap.le.refl _, fun _ h => .inl h⟩
theorem Grow.of_below {w w' : World} {H : PHeap} (h : Fits w H) (hb : Below w.heap.size w w') : Grow w H w' H := ⟨hb, h.below hb, PHeap.le.refl _, fun _ h => .inl h⟩
theorem Grow.trans {a b c : World} {A B C : PHeap} (h : Grow a A b B) (k : Grow b B c C) : Grow a A c C :=
  ⟨h.below.trans (k.below.mono h.below.size), k.fits, h.le.trans k.le, fun i hi => by
    rcases k.new i hi with h1 | h1
    · exact h.new i h1
    · exact .inr (Nat.le_trans h.below.size h1)⟩

/-- a block of one's own is written no more. -/
def PHeap.put (H : PHeap) (g : Nat) (o : Obj) : PHeap := fun k => if k = g then some o else H k
theorem PHeap.le_put {H : PHeap} {g : Nat} (o : Obj) (h : H g = none) : H.le (H.put g o) := fun k x hx => by
  unfold PHeap.put
  split
  · subst_vars; rw [h] at hx; cases hx
  · exact hx
theorem PHeap.put_self (H : PHeap) (g : Nat) (o : Obj) : H.put g o g = some o := by simp [PHeap.put]
theorem Fits.put {w : World} {H : PHeap} {g : Nat} {o : Obj} (h : Fits w H) (hg : w.heap[g]? = some o) : Fits w (H.put g o) := fun k x hx => by
  unfold PHeap.put at hx
  split at hx
  · subst_vars; injection hx with hx; subst hx; exact hg
  · exact h k x hx
theorem HCell.of_blk {H : PHeap} {g t : Nat} {cs : Array Value} {fr : Nat × Nat} (h : H g = some (.cells cs t fr)) {j : Nat} {u : Value} (hj : cs[j]? = some u) : HCell H ⟨g, j, none⟩ u := fun w hw => by
  rw [cell_of_row w g j cs t fr (hw g _ h)]; exact hj
theorem Grow.put {w w' : World} {H H' : PHeap} {g : Nat} {o : Obj} (h : Grow w H w' H') (hg : w'.heap[g]? = some o) (hw : w.heap.size ≤ g) (hn : H' g = none) : Grow w H w' (H'.put g o) :=
  ⟨h.below, h.fits.put hg, h.le.trans (PHeap.le_put o hn), fun k hk => by
    by_cases e : k = g
    · subst e; exact .inr hw
    · exact h.new k (by unfold PHeap.put at hk; rwa [if_neg e] at hk)⟩

/-! ### cells in a row from an address on; nil let in where there are none -/
theorem block_of_add (a : Addr) (n : Nat) : (a.add n).block = a.block := by unfold Addr.add; split <;> rfl
theorem add_of_add (a : Addr) (i j : Nat) : (a.add i).add j = a.add (i + j) := by
  unfold Addr.add
  by_cases hi : i = 0 <;> by_cases hj : j = 0 <;> simp [hi, hj, Nat.add_assoc]
theorem add_plain (g j : Nat) : (⟨g, 0, none⟩ : Addr).add j = ⟨g, j, none⟩ := by unfold Addr.add; split <;> simp_all
def HReads (H : PHeap) (A : Option Addr) (xs : List Value) : Prop :=
  0 < xs.length → ∃ ad, A = some ad ∧ ∀ j u, xs[j]? = some u → HCell H (ad.add j) u
section
variable {H H' : PHeap} {A : Option Addr} {xs : List Value}
theorem HReads.mono (h : HReads H A xs) (hl : H.le H') : HReads H' A xs := fun hp => by
  obtain ⟨ad, e, hc⟩ := h hp
  exact ⟨ad, e, fun j u hu => (hc j u hu).mono hl⟩
theorem HReads.nil_ : HReads H A [] := fun h => absurd h (by simp)
theorem HReads.drop (h : HReads H A xs) (k : Nat) : HReads H (A.map (·.add k)) (xs.drop k) := fun hp => by
  rw [List.length_drop] at hp
  obtain ⟨ad, rfl, hc⟩ := h (by omega)
  exact ⟨_, rfl, fun j u hu => by rw [add_of_add]; exact hc _ u (by rw [← hu, List.getElem?_drop])⟩
theorem HReads.take (h : HReads H A xs) (k : Nat) : HReads H A (xs.take k) := fun hp => by
  have hp' : 0 < xs.length := by rw [List.length_take] at hp; omega
  obtain ⟨ad, rfl, hc⟩ := h hp'
  exact ⟨_, rfl, fun j u hu => hc j u (by rw [List.getElem?_take] at hu; split at hu; exact hu; cases hu)⟩
theorem HReads.at_ (h : HReads H A xs) {i : Nat} {u : Value} (hi : xs[i]? = some u) : ∃ ad, A = some ad ∧ HCell H (ad.add i) u := by
  obtain ⟨ad, e, hc⟩ := h (by have := (List.getElem?_eq_some_iff.1 hi).1; omega)
  exact ⟨ad, e, hc i u hi⟩
theorem HReads.of_own {w : World} {base e size n : Nat} {v : Value} (h : w.ownsRow base e size v n xs) (hk : ∀ k, v.ownBlock = some k → H k = w.heap[k]?) : ∃ A c, v = .slice A n c ∧ n ≤ c ∧ HReads H A xs := by
  rcases h.2 with ⟨rfl, rfl⟩ | ⟨g, cap, cur, rfl, hb, hg, hn, _, _, ht⟩
  · exact ⟨none, 0, rfl, Nat.le_refl _, fun hp => by have := h.1; omega⟩
  · refine ⟨_, cap, rfl, hn, fun _ => ⟨_, rfl, fun j u hu => ?_⟩⟩
    rw [add_plain]
    refine HCell.of_blk ((hk g rfl).trans hg) (j := j) ?_
    rw [← ht, List.getElem?_take] at hu
    split at hu
    · simpa using hu
    · cases hu
end

/-! ### kinds: what a value's cells say -/
/-- sz: cells; by_: bytes of an element (what a slice's room is reckoned by). -/
structure Kd (α : Type) where
  sz : Nat
  by_ : Nat
  R : PHeap → α → List Value → Prop
  pos : 0 < sz
  len : ∀ {H x cs}, R H x cs → cs.length = sz
  one : ∀ {H x cs}, R H x cs → ∀ u ∈ cs, u.oneCell' = true
  mono : ∀ {H H' : PHeap} {x cs}, H.le H' → R H x cs → R H' x cs
/-- elements one behind the other. -/
inductive Reps {α : Type} (d : Kd α) (H : PHeap) : List α → List Value → Prop
  | nil : Reps d H [] []
  | cons {x : α} {c : List Value} {xs : List α} {cs : List Value} : d.R H x c → Reps d H xs cs → Reps d H (x :: xs) (c ++ cs)
section
variable {α : Type} {d : Kd α} {H H' : PHeap} {xs ys : List α} {cs ds : List Value}
theorem Reps.length (h : Reps d H xs cs) : cs.length = xs.length * d.sz := by
  induction h with
  | nil => simp
  | cons h _ ih => rw [List.length_append, d.len h, ih, List.length_cons, Nat.succ_mul, Nat.add_comm]
theorem Reps.mono (h : Reps d H xs cs) (hl : H.le H') : Reps d H' xs cs := by
  induction h with
  | nil => exact .nil
  | cons h _ ih => exact .cons (d.mono hl h) ih
theorem Reps.one (h : Reps d H xs cs) : ∀ u ∈ cs, u.oneCell' = true := by
  induction h with
  | nil => intro u hu; cases hu
  | cons h _ ih =>
    intro u hu
    rcases List.mem_append.1 hu with hu | hu
    · exact d.one h u hu
    · exact ih u hu
theorem Reps.append (h : Reps d H xs cs) (k : Reps d H ys ds) : Reps d H (xs ++ ys) (cs ++ ds) := by
  induction h with
  | nil => exact k
  | cons h _ ih => rw [List.cons_append, List.append_assoc]; exact .cons h ih
theorem Reps.snoc (h : Reps d H xs cs) {x : α} {c : List Value} (k : d.R H x c) : Reps d H (xs ++ [x]) (cs ++ c) := by
  have := h.append (.cons k .nil); rwa [List.append_nil] at this
theorem Reps.drop (h : Reps d H xs cs) : ∀ n : Nat, Reps d H (xs.drop n) (cs.drop (n * d.sz)) := by
  induction h with
  | nil => intro n; simpa using Reps.nil
  | cons h ht ih =>
    intro n
    cases n with
    | zero => simpa using Reps.cons h ht
    | succ n =>
      rw [List.drop_succ_cons, Nat.succ_mul, Nat.add_comm, ← List.drop_drop]
      have e := d.len h
      rw [← e, List.drop_left, e]
      exact ih n
theorem Reps.take (h : Reps d H xs cs) : ∀ n : Nat, Reps d H (xs.take n) (cs.take (n * d.sz)) := by
  induction h with
  | nil => intro n; simpa using Reps.nil
  | @cons x c xs cs h ht ih =>
    intro n
    cases n with
    | zero => simpa using Reps.nil
    | succ n =>
      have e := d.len h
      have e2 : (c ++ cs).take ((n + 1) * d.sz) = c ++ cs.take (n * d.sz) := by
        rw [Nat.succ_mul, Nat.add_comm, ← e, List.take_length_add_append]
      rw [List.take_succ_cons, e2]
      exact .cons h (ih n)
theorem Reps.get (h : Reps d H xs cs) {i : Nat} {x : α} (hi : xs[i]? = some x) : ∃ c, d.R H x c ∧ c.length = d.sz ∧ ∀ j, j < d.sz → cs[i * d.sz + j]? = c[j]? := by
  induction h generalizing i with
  | nil => simp at hi
  | @cons y c xs cs h ht ih =>
    cases i with
    | zero =>
      simp at hi; subst hi
      exact ⟨c, h, d.len h, fun j hj => by rw [Nat.zero_mul, Nat.zero_add, List.getElem?_append_left (by rw [d.len h]; exact hj)]⟩
    | succ i =>
      obtain ⟨c', hc, hl, hj⟩ := ih (by simpa using hi)
      refine ⟨c', hc, hl, fun j hjl => ?_⟩
      rw [List.getElem?_append_right (by rw [d.len h, Nat.succ_mul]; omega), d.len h, ← hj j hjl]
      congr 1
      rw [Nat.succ_mul]; omega
end

namespace Kd
def int (k : IntKind) : Kd Int where
  sz := 1
  by_ := match k with | .u8 | .i8 => 1 | .u16 | .i16 => 2 | .u32 | .i32 => 4 | _ => 8
  R := fun _ x cs => cs = [.int k x] ∧ (Lit.int k x).wf = true
  pos := by decide
  len := fun h => by rw [h.1]; rfl
  one := fun h u hu => by rw [h.1] at hu; rw [List.mem_singleton.1 hu]; rfl
  mono := fun _ h => h
def bool : Kd Bool where
  sz := 1
  by_ := 1
  R := fun _ x cs => cs = [.bool x]
  pos := by decide
  len := fun h => by rw [h]; rfl
  one := fun h u hu => by rw [h] at hu; rw [List.mem_singleton.1 hu]; rfl
  mono := fun _ h => h
def byte : Kd UInt8 where
  sz := 1
  by_ := 1
  R := fun _ x cs => cs = [.int .u8 x.toNat]
  pos := by decide
  len := fun h => by rw [h]; rfl
  one := fun h u hu => by rw [h] at hu; rw [List.mem_singleton.1 hu]; rfl
  mono := fun _ h => h
def str : Kd ByteArray where
  sz := 1
  by_ := 16
  R := fun _ x cs => cs = [.string x] ∧ x.size ≤ 140737488355328
  pos := by decide
  len := fun h => by rw [h.1]; rfl
  one := fun h u hu => by rw [h.1] at hu; rw [List.mem_singleton.1 hu]; rfl
  mono := fun _ h => h
/-- a slice value that reads as a list. -/
def Sl {α : Type} (d : Kd α) (H : PHeap) (v : Value) (xs : List α) : Prop :=
  ∃ A c inner, v = .slice A xs.length c ∧ xs.length ≤ c ∧ (c ≤ maxLen ∧ xs.length * d.by_ ≤ 140737488355328) ∧ HReads H A inner ∧ Reps d H xs inner
theorem Sl.mono {α : Type} {d : Kd α} {H H' : PHeap} {v : Value} {xs : List α} (h : Sl d H v xs) (hl : H.le H') : Sl d H' v xs := by
  obtain ⟨A, c, inner, e, hc, hm, hr, hp⟩ := h
  exact ⟨A, c, inner, e, hc, hm, hr.mono hl, hp.mono hl⟩
def slice {α : Type} (d : Kd α) : Kd (List α) where
  sz := 1
  by_ := 24
  R := fun H xs cs => ∃ v, cs = [v] ∧ Sl d H v xs
  pos := by decide
  len := fun ⟨_, h, _⟩ => by rw [h]; rfl
  one := fun ⟨v, h, A, c, _, e, _⟩ u hu => by rw [h] at hu; rw [List.mem_singleton.1 hu, e]; rfl
  mono := fun hl ⟨v, h, hs⟩ => ⟨v, h, Sl.mono hs hl⟩
def pair {α β : Type} (a : Kd α) (b : Kd β) : Kd (α × β) where
  sz := a.sz + b.sz
  by_ := a.by_ + b.by_
  R := fun H x cs => ∃ c0 c1, cs = c0 ++ c1 ∧ a.R H x.1 c0 ∧ b.R H x.2 c1
  pos := Nat.add_pos_left a.pos _
  len := fun ⟨c0, c1, h, h0, h1⟩ => by rw [h, List.length_append, a.len h0, b.len h1]
  one := fun ⟨c0, c1, h, h0, h1⟩ u hu => by
    rw [h] at hu
    rcases List.mem_append.1 hu with hu | hu
    · exact a.one h0 u hu
    · exact b.one h1 u hu
  mono := fun hl ⟨c0, c1, h, h0, h1⟩ => ⟨c0, c1, h, a.mono hl h0, b.mono hl h1⟩
/-- A Lean structure by its fields; its bytes are told (there may be gaps). -/
def iso {α β : Type} (d : Kd α) (f : β → α) (bytes : Nat) : Kd β where
  sz := d.sz
  by_ := bytes
  R := fun H x cs => d.R H (f x) cs
  pos := d.pos
  len := d.len
  one := d.one
  mono := d.mono
end Kd
open Kd (Sl)

/-- an element of a slice that is read. -/
theorem sl_get {α : Type} {d : Kd α} {H : PHeap} {A : Option Addr} {n c : Nat} {xs : List α} (h : Sl d H (.slice A n c) xs) {i : Nat} {x : α} (hi : xs[i]? = some x) :
    ∃ ad cs, A = some ad ∧ d.R H x cs ∧ cs.length = d.sz ∧ ∀ j u, cs[j]? = some u → HCell H (ad.add (i * d.sz + j)) u := by
  obtain ⟨A', c', inner, e, _, _, hr, hp⟩ := h
  simp only [Value.slice.injEq] at e
  obtain ⟨rfl, _, _⟩ := e
  obtain ⟨cs, hc, hl, hj⟩ := hp.get hi
  · have h0 := d.pos
    have hlt : i * d.sz + 0 < inner.length := by
      rw [hp.length]
      have : i < xs.length := (List.getElem?_eq_some_iff.1 hi).1
      have h2 : (i + 1) * d.sz ≤ xs.length * d.sz := Nat.mul_le_mul_right _ this
      rw [Nat.succ_mul] at h2; omega
    obtain ⟨ad, e, hcell⟩ := hr (by omega)
    exact ⟨ad, cs, e, hc, hl, fun j u hu => hcell _ u (by rw [hj j (by have := (List.getElem?_eq_some_iff.1 hu).1; omega)]; exact hu)⟩
theorem sl_get1 {α : Type} {d : Kd α} (h1 : d.sz = 1) {H : PHeap} {A : Option Addr} {n c : Nat} {xs : List α} (h : Sl d H (.slice A n c) xs) {i : Nat} {x : α} (hi : xs[i]? = some x) :
    ∃ ad u, A = some ad ∧ d.R H x [u] ∧ HCell H (ad.add i) u := by
  obtain ⟨ad, cs, e, hc, hl, hj⟩ := sl_get h hi
  rw [h1] at hl hj
  match cs, hl with
  | [u], _ => exact ⟨ad, u, e, hc, by simpa using hj 0 u rfl⟩
theorem sl_len {α : Type} {d : Kd α} {H : PHeap} {v : Value} {xs : List α} (h : Sl d H v xs) : ∃ A c, v = .slice A xs.length c ∧ xs.length ≤ c ∧ c ≤ 9223372036854775807 := by
  obtain ⟨A, c, _, e, hc, hm, _⟩ := h
  exact ⟨A, c, e, hc, by have := hm.1; unfold maxLen at this; omega⟩
theorem sl_bound {α : Type} {d : Kd α} {H : PHeap} {v : Value} {xs : List α} (h : Sl d H v xs) : xs.length * d.by_ ≤ 140737488355328 := by
  obtain ⟨A, c, _, e, hc, hm, _⟩ := h
  exact hm.2

/-! ### bytes -/
def byt (b : UInt8) : Value := .int .u8 b.toNat
def byts (bs : List UInt8) : List Value := bs.map byt
theorem byts_length (bs : List UInt8) : (byts bs).length = bs.length := by simp [byts]
theorem byts_one (bs : List UInt8) : ∀ v ∈ byts bs, v.oneCell' = true := by
  intro v hv
  simp only [byts, List.mem_map] at hv
  obtain ⟨b, _, rfl⟩ := hv
  rfl
theorem byts_append (a b : List UInt8) : byts (a ++ b) = byts a ++ byts b := by simp [byts]
theorem byts_get {bs : List UInt8} {i : Nat} {b : UInt8} (h : bs[i]? = some b) : (byts bs)[i]? = some (.int .u8 b.toNat) := by simp [byts, h, byt]
theorem reps_byts {H : PHeap} (bs : List UInt8) : Reps Kd.byte H bs (byts bs) := by
  induction bs with
  | nil => exact .nil
  | cons b bs ih => exact .cons (c := [byt b]) rfl ih
theorem byts_of_reps {H : PHeap} {bs : List UInt8} {cs : List Value} (h : Reps Kd.byte H bs cs) : cs = byts bs := by
  induction h with
  | nil => rfl
  | cons h _ ih => rw [h, ih]; rfl
theorem toList_made (z : Value) (n : Nat) : madeCells #[z] n = (List.replicate n z).toArray := by
  apply Array.toList_inj.1; rw [toList_madeCells_one]
abbrev Bys (H : PHeap) (v : Value) (bs : List UInt8) : Prop := Sl Kd.byte H v bs

/-! ### copy into a block that is known whole -/
theorem wpList_copy_upd {P : Program} {w : World} {ops : Array Oper} {rest : List Oper} {o : Oper} {a : Act} {Q : Exit → Act → World → Prop} (hgd : o.guard = none) (d s : Operand) (dT sT : TypeId)
    (ho : o.op = .call { callee := .builtin .copy, args := #[d, s], argTypes := #[dT, sT] }) (elem : TypeId) (hu : P.underlying dT = some (.slice elem)) (hsz : (P.info? elem).map (·.size) = some 1)
    (H : PHeap) (hH : Fits w H) (dp sp : Option Addr) (dLen dCap sLen sCap : Nat) (hd : a.eval d = .slice dp dLen dCap) (hs : a.eval s = .slice sp sLen sCap)
    (g off : Nat) (cur : Array Value) (t : TypeId) (hg : Blk w g t cur) (cs : List Value) (hn : cs.length = Nat.min sLen dLen)
    (hdp : 0 < cs.length → dp = some ⟨g, off, none⟩) (hr : HReads H sp cs)
    (hfit : off + cs.length ≤ cur.size) (h1 : ∀ v ∈ cs, v.oneCell' = true)
    (h : ∀ w', Blk w' g t (cur.toList.take off ++ (cs ++ cur.toList.drop (off + cs.length))).toArray → Upd w w' (· = g) → wpList P ops Q rest (a.put o.dst (goInt cs.length)) w') :
    wpList P ops Q (o :: rest) a w := by
  by_cases h0 : cs.length = 0
  · obtain rfl : cs = [] := List.eq_nil_of_length_eq_zero h0
    refine wpList_copy_nothing hgd d s dT sT ho elem hu hsz dp sp dLen dCap sLen sCap hd hs (by simpa using hn.symm) ?_
    exact h w (by simpa using hg) (Upd.refl _ _)
  · obtain rfl := hdp (by omega)
    obtain ⟨ad, rfl, hsrc0⟩ := hr (by omega)
    have hsrc := fun j v hv => hsrc0 j v hv w hH
    refine wpList_copy_own hgd d s dT sT ho elem hu hsz g off dLen dCap ad sLen sCap hd hs cur t hg cs hn hsrc hfit h1 ?_
    exact h _ (setRow_heap w g _ _ t _ hg)
      ⟨rfl, rfl, rfl, by simp [World.setRow], fun k _ hk => setRow_other w g k _ (fun e => hk e)⟩
theorem Upd.cells {w w' : World} {g : Nat} (h : Upd w w' (· = g)) :
    (∀ b o, b < w.heap.size → b ≠ g → w'.cell? ⟨b, o, none⟩ = w.cell? ⟨b, o, none⟩) ∧ (∀ b o, b < w.heap.size → b ≠ g → w'.frozen? ⟨b, o, none⟩ = w.frozen? ⟨b, o, none⟩) :=
  ⟨fun b _ hb hn => World.cell?_of_block (w := w) (h.block b hb hn), fun b _ hb hn => World.frozen?_of_block (w := w) (h.block b hb hn)⟩
theorem bcell {W w1 : World} (hb : Below W.heap.size W w1) : (∀ b o, b < W.heap.size → w1.cell? ⟨b, o, none⟩ = W.cell? ⟨b, o, none⟩) ∧ (∀ b o, b < W.heap.size → w1.frozen? ⟨b, o, none⟩ = W.frozen? ⟨b, o, none⟩) :=
  ⟨fun b o h => hb.cell (p := ⟨b, o, none⟩) h, fun b o h => hb.frozen (p := ⟨b, o, none⟩) h⟩
theorem keep1 {W w1 : World} (hb : Below W.heap.size W w1) {g o : Nat} {v : Value} (hl : g < W.heap.size) (h : W.cell? ⟨g, o, none⟩ = some v ∧ W.frozen? ⟨g, o, none⟩ = false) :
    w1.cell? ⟨g, o, none⟩ = some v ∧ w1.frozen? ⟨g, o, none⟩ = false := ⟨((bcell hb).1 _ _ hl).trans h.1, ((bcell hb).2 _ _ hl).trans h.2⟩
theorem keepA {W : World} {a : Addr} {v : Value} (h : W.cell? a = some v ∧ W.frozen? a = false) (o : Obj) : (W.alloc o).cell? a = some v ∧ (W.alloc o).frozen? a = false := by
  have hl := World.block_lt_of_cell? W _ h.1
  have hb := Below.heap_alloc W o a.block hl
  exact ⟨(World.cell?_of_block (w := W) hb).trans h.1, (World.frozen?_of_block (w := W) hb).trans h.2⟩
theorem keepG {W w1 : World} {row : Option Nat} (hg : W.grownBy w1 row) {a : Addr} {v : Value} (hn : some a.block ≠ row) (h : W.cell? a = some v ∧ W.frozen? a = false) : w1.cell? a = some v ∧ w1.frozen? a = false := by
  have hl := World.block_lt_of_cell? W _ h.1
  have hb := hg.block a.block hl hn
  exact ⟨(World.cell?_of_block (w := W) hb).trans h.1, (World.frozen?_of_block (w := W) hb).trans h.2⟩
theorem own_ltb {w : World} {base e size n : Nat} {v : Value} {xs : List Value} (h : w.ownsRow base e size v n xs) (k : Nat) (hk : v.ownBlock = some k) : k < w.heap.size := (h.lt k hk).2
theorem own_upd {w w' : World} {base e size n : Nat} {v : Value} {xs : List Value} {S : Nat → Prop} (h : w.ownsRow base e size v n xs) (hu : Upd w w' S) (hs : ∀ k, v.ownBlock = some k → ¬ S k) : w'.ownsRow base e size v n xs := by
  obtain ⟨h1, h2⟩ := h
  refine ⟨h1, ?_⟩
  rcases h2 with h2 | ⟨g, cap, cur, rfl, hg, hh, r⟩
  · exact .inl h2
  · have hl : g < w.heap.size := Blk.lt (t := e) (cs := cur) hh
    exact .inr ⟨g, cap, cur, rfl, hg, (hu.block g hl (hs g rfl)).trans hh, r⟩
theorem own_below {w w' : World} {base e size n : Nat} {v : Value} {xs : List Value} (h : w.ownsRow base e size v n xs) (hb : Below w.heap.size w w') : w'.ownsRow base e size v n xs :=
  own_upd h (Upd.of_below hb (fun _ => False)) (fun _ _ h => h)
theorem own_ne {w : World} {base e size n g t : Nat} {v : Value} {xs : List Value} {cs : Array Value} (h : w.ownsRow base e size v n xs) (hg : Blk w g t cs) (hne : e ≠ t) : v.ownBlock ≠ some g := by
  rcases h.2 with ⟨rfl, _⟩ | ⟨g', cap, cur, rfl, _, hh, _⟩
  · simp [Value.ownBlock]
  · intro he
    have : g' = g := by simpa [Value.ownBlock] using he
    subst this
    exact Blk.ne_ (t := e) hh hg hne rfl
theorem Upd.grown {a b c : World} {S : Nat → Prop} {row : Option Nat} (h : Upd a b S) (hg : b.grownBy c row) (hs : ∀ k, row = some k → S k ∨ a.heap.size ≤ k) : Upd a c S :=
  ⟨hg.os.trans h.os, hg.tape.trans h.tape, hg.output.trans h.output, Nat.le_trans h.size hg.size, fun k hk hn =>
    (hg.block k (Nat.lt_of_lt_of_le hk h.size) (fun e => by rcases hs k e.symm with h1 | h1; exact hn h1; omega)).trans (h.block k hk hn)⟩
theorem own_blk {w : World} {base e size n g m cap : Nat} {xs : List Value} (h : w.ownsRow base e size (.slice (some ⟨g, 0, none⟩) m cap) n xs) : ∃ cur, Blk w g e cur := by
  rcases h.2 with ⟨h, _⟩ | ⟨g', _, cur, h, _, hh, _⟩
  · cases h
  · simp only [Value.slice.injEq, Option.some.injEq, Addr.mk.injEq] at h
    obtain ⟨⟨rfl, _⟩, _⟩ := h
    exact ⟨cur, hh⟩
/-! ### append(s, x): x has just been laid into a block of one element -/
theorem run_push {P : Program} (w1 : World) (cs : Array Value) (t ty e : TypeId) (i : TypeInfo) (z : Value) (size bytes : Nat) (ht : P.underlying t = some (.slice e)) (hi : P.info? e = some i) (hz : i.zero = some z)
    (hsize : i.size = size) (hby : i.bytes = bytes) (hzs : z.cells.size = size) (hsz : 0 < size) (v : Value) (n : Nat) (xs : List Value) (c : Nat) (hcs : cs.size = size) (h1 : ∀ u ∈ cs.toList, u.oneCell' = true)
    (hown : w1.ownsRow 0 e size v n xs) (hb : (n + 1) * bytes ≤ 140737488355328) (hb1 : 1 ≤ bytes) :
    ∃ g cap w', (Builtin.append_ #[t, t] ty #[v, .slice (some ⟨w1.heap.size, 0, none⟩) 1 c]).run P (w1.alloc (.cells cs e)) = .ok (.slice (some ⟨g, 0, none⟩) (n + 1) cap) w' ∧
      w'.ownsRow 0 e size (.slice (some ⟨g, 0, none⟩) (n + 1) cap) (n + 1) (xs ++ cs.toList) ∧ (w1.alloc (.cells cs e)).grownBy w' v.ownBlock ∧ (v.ownBlock = some g ∨ g = w1.heap.size + 1) := by
  have hn1 : (n + 1) * 1 ≤ (n + 1) * bytes := Nat.mul_le_mul_left _ hb1
  obtain ⟨v', w', hr, ho, hg, _, hat⟩ := run_append_own_at (P := P) (w1.alloc (.cells cs e)) 0 t ty e i z size bytes ht hi hz hsize hby hzs hsz v n xs (hown.alloc _) ⟨w1.heap.size, 0, none⟩ 1 c cs.toList (by simpa using hcs)
    (World.news_of_block (t := e) (fr := (0, 0)) (heap_alloc_new w1 _)) h1 (by unfold maxLen; omega) hb (Nat.zero_le _)
  rcases ho.2 with ⟨_, h0⟩ | ⟨g, cap, cur, rfl, hr2⟩
  · omega
  · refine ⟨g, cap, w', hr, ho, hg, ?_⟩
    rcases hat with h | h
    · exact .inl h.symm
    · simp only [Value.ownBlock, Option.some.injEq, World.size_alloc] at h; exact .inr h
theorem step_push {P : Program} {ops : Array Oper} {o : Oper} {a : Act} {K : Act → World → Prop} {Q : Exit → Act → World → Prop} {E : Prop} {w1 : World} {cs : Array Value} {e : TypeId} (hgd : o.guard = none) (s x : Operand) (t : TypeId)
    (ho : o.op = .call { callee := .builtin .append, args := #[s, x], argTypes := #[t, t] })
    (i : TypeInfo) (z : Value) (size bytes : Nat) (ht : P.underlying t = some (.slice e)) (hi : P.info? e = some i) (hz : i.zero = some z)
    (hsize : i.size = size) (hby : i.bytes = bytes) (hzs : z.cells.size = size) (hsz : 0 < size) (hb1 : 1 ≤ bytes)
    (v : Value) (n : Nat) (xs : List Value) (c : Nat) (hs : a.eval s = v) (hx : a.eval x = .slice (some ⟨w1.heap.size, 0, none⟩) 1 c) (hcs : cs.size = size)
    (hown : w1.ownsRow 0 e size v n xs) (h1 : ∀ u ∈ cs.toList, u.oneCell' = true) (hb : (n + 1) * bytes ≤ 140737488355328)
    (h : ∀ g cap w', w'.ownsRow 0 e size (.slice (some ⟨g, 0, none⟩) (n + 1) cap) (n + 1) (xs ++ cs.toList) → (w1.alloc (.cells cs e)).grownBy w' v.ownBlock → (v.ownBlock = some g ∨ g = w1.heap.size + 1) → K (a.put o.dst (.slice (some ⟨g, 0, none⟩) (n + 1) cap)) w') :
    if Region.wanted o (yielded ops a.tmps) = true then Oper.wp P o a (w1.alloc (.cells cs e)) K Q else E := by
  have hw : Region.wanted o (yielded ops a.tmps) = true := by simp [Region.wanted, hgd]
  rw [if_pos hw]
  obtain ⟨g, cap, w', hr, h2, h3, h4⟩ := run_push (P := P) w1 cs t o.type e i z size bytes ht hi hz hsize hby hzs hsz v n xs c hcs h1 hown hb hb1
  unfold Oper.wp execOp
  simp only [ho, resolve, invoke, builtin, Sem.run_bind, Sem.run_pure, Result.andThen_ok, List.map_toArray, List.map_cons, List.map_nil, hs, hx, hr]
  exact h g cap w' h2 h3 h4
/-! ### append(s[:i], s[j:]...), both of one row of one's own; clear -/
theorem run_cut {P : Program} (w : World) (t ty e : TypeId) (i : TypeInfo) (size : Nat) (ht : P.underlying t = some (.slice e)) (hi : P.info? e = some i) (hsize : i.size = size)
    (g n cap : Nat) (cur : Array Value) (hg : Blk w g e cur) (hcur : cur.size = cap * size) (A : Option Addr) (m c off : Nat) (hA : (0 < m → A = some ⟨g, off, none⟩) ∧ ∃ ad, A = some ad)
    (hroom : n + m ≤ cap) (hoff : off + m * size ≤ cap * size) (h1 : ∀ u ∈ (cur.toList.drop off).take (m * size), u.oneCell' = true) :
    ∃ w', (Builtin.append_ #[t, t] ty #[.slice (some ⟨g, 0, none⟩) n cap, .slice A m c]).run P w = .ok (.slice (some ⟨g, 0, none⟩) (n + m) cap) w' ∧
      Blk w' g e (cur.toList.take (n * size) ++ (cur.toList.drop off).take (m * size) ++ cur.toList.drop (n * size + m * size)).toArray ∧ Upd w w' (· = g) := by
  subst hsize
  obtain ⟨hA1, ad, rfl⟩ := hA
  have hl : ((cur.toList.drop off).take (m * i.size)).length = m * i.size := by rw [List.length_take, List.length_drop, Array.length_toList]; omega
  have hr := run_append_room (P := P) w t ty e i ht hi g n cap cur hg ad m c ((cur.toList.drop off).take (m * i.size)) hl (fun j u hu => by
    have hj := (List.getElem?_eq_some_iff.1 hu).1
    rw [hl] at hj
    have hm : 0 < m := by rcases Nat.eq_zero_or_pos m with h | h; subst h; omega; exact h
    have hA2 := hA1 hm
    simp only [Option.some.injEq] at hA2
    subst hA2
    rw [Addr.add_lit, hg.cell]
    rw [List.getElem?_take, if_pos hj, List.getElem?_drop] at hu
    simpa using hu) h1 hroom (by
    have h2 : (n + m) * i.size ≤ cap * i.size := Nat.mul_le_mul_right _ hroom
    rw [Nat.add_mul] at h2; omega)
  refine ⟨_, hr, ?_, ⟨rfl, rfl, rfl, by simp [World.setRow], fun k _ hk => setRow_other w g k _ (fun e => hk e)⟩⟩
  have := setRow_heap w g cur ((cur.toList.take (n * i.size) ++ (cur.toList.drop off).take (m * i.size) ++ cur.toList.drop (n * i.size + ((cur.toList.drop off).take (m * i.size)).length)).toArray) e _ hg
  rw [hl] at this
  rw [hl]
  exact this
theorem step_cut {P : Program} {ops : Array Oper} {o : Oper} {a : Act} {K : Act → World → Prop} {Q : Exit → Act → World → Prop} {E : Prop} {w : World} (hgd : o.guard = none) (s x : Operand) (t : TypeId)
    (ho : o.op = .call { callee := .builtin .append, args := #[s, x], argTypes := #[t, t] }) (e : TypeId) (i : TypeInfo) (size : Nat) (ht : P.underlying t = some (.slice e)) (hi : P.info? e = some i) (hsize : i.size = size)
    (g n cap : Nat) (cur : Array Value) (A : Option Addr) (m c off : Nat) (hs : a.eval s = .slice (some ⟨g, 0, none⟩) n cap) (hx : a.eval x = .slice A m c) (hg : Blk w g e cur) (hcur : cur.size = cap * size) 
    (hA : (0 < m → A = some ⟨g, off, none⟩) ∧ ∃ ad, A = some ad) (hroom : n + m ≤ cap) (hoff : off + m * size ≤ cap * size) (h1 : ∀ u ∈ (cur.toList.drop off).take (m * size), u.oneCell' = true)
    (h : ∀ w', Blk w' g e (cur.toList.take (n * size) ++ (cur.toList.drop off).take (m * size) ++ cur.toList.drop (n * size + m * size)).toArray → Upd w w' (· = g) → K (a.put o.dst (.slice (some ⟨g, 0, none⟩) (n + m) cap)) w') :
    if Region.wanted o (yielded ops a.tmps) = true then Oper.wp P o a w K Q else E := by
  have hw : Region.wanted o (yielded ops a.tmps) = true := by simp [Region.wanted, hgd]
  rw [if_pos hw]
  obtain ⟨w', hr, h2, h3⟩ := run_cut (P := P) w t o.type e i size ht hi hsize g n cap cur hg hcur A m c off hA hroom hoff h1
  unfold Oper.wp execOp
  simp only [ho, resolve, invoke, builtin, Sem.run_bind, Sem.run_pure, Result.andThen_ok, List.map_toArray, List.map_cons, List.map_nil, hs, hx, hr]
  exact h w' h2 h3
theorem wpList_clear {P : Program} {ops : Array Oper} {rest : List Oper} {o : Oper} {a : Act} {Q : Exit → Act → World → Prop} {w : World} (hgd : o.guard = none) (s : Operand) (t : TypeId)
    (ho : o.op = .call { callee := .builtin .clear, args := #[s], argTypes := #[t] }) (e : TypeId) (z : Value) (ht : P.underlying t = some (.slice e)) (hz : ∀ w : World, (zeroValue e).run P w = .ok z w)
    (g off n c : Nat) (cur : Array Value) (hs : a.eval s = .slice (some ⟨g, off, none⟩) (n + 1) c) (hg : Blk w g e cur) (hz1 : ∀ u ∈ z.cells.toList, u.oneCell' = true) (hfit : off + (n + 1) * z.cells.size ≤ cur.size)
    (h : ∀ w' zs, zs.length = (n + 1) * z.cells.size → Blk w' g e (cur.toList.take off ++ zs ++ cur.toList.drop (off + zs.length)).toArray → Upd w w' (· = g) → wpList P ops Q rest (a.put o.dst (.tuple #[])) w') : wpList P ops Q (o :: rest) a w := by
  refine wpList_plain hgd fun K hK => ?_
  have hsz : (Builtin.zeroCells z.cells (n + 1)).toList.length = (n + 1) * z.cells.size := by rw [Array.length_toList, size_zeroCells]
  have hone : ∀ u ∈ (Builtin.zeroCells z.cells (n + 1)).toList, u.oneCell' = true := by
    intro u hu
    simp only [Builtin.zeroCells, Array.toList_map, List.mem_map, Array.toList_range, List.mem_range] at hu
    obtain ⟨j, hj, rfl⟩ := hu
    rcases Nat.eq_zero_or_pos z.cells.size with hp | hp
    · rw [hp] at hj; simp at hj
    · have hl : j % z.cells.size < z.cells.size := Nat.mod_lt _ hp
      rw [getElem!_pos z.cells _ hl]
      exact hz1 _ (by simp)
  have hst := run_storeCells_at P g off e (Builtin.zeroCells z.cells (n + 1)).toList 0 cur w hg (by rw [hsz]; omega) hone
  have hr : (Builtin.clear_ #[t] o.type #[.slice (some ⟨g, off, none⟩) (n + 1) c]).run P w = .ok (.tuple #[]) (w.setRow g (cur.toList.take off ++ (Builtin.zeroCells z.cells (n + 1)).toList ++ cur.toList.drop (off + (Builtin.zeroCells z.cells (n + 1)).toList.length)).toArray) := by
    rw [Nat.add_zero] at hst
    simp [Builtin.clear_, run_underlying ht, hz, hst]
  unfold Oper.wp execOp
  simp only [ho, resolve, invoke, builtin, Sem.run_bind, Sem.run_pure, Result.andThen_ok, List.map_toArray, List.map_cons, List.map_nil, hs, hr]
  exact hK _ _ (h _ _ hsz (setRow_heap w g cur _ e _ hg) ⟨rfl, rfl, rfl, by simp [World.setRow], fun k _ hk => setRow_other w g k _ (fun e => hk e)⟩)
theorem wpList_clear' {P : Program} {ops : Array Oper} {rest : List Oper} {o : Oper} {a : Act} {Q : Exit → Act → World → Prop} {w : World} (hgd : o.guard = none) (s : Operand) (t : TypeId)
    (ho : o.op = .call { callee := .builtin .clear, args := #[s], argTypes := #[t] }) (e : TypeId) (z : Value) (ht : P.underlying t = some (.slice e)) (hz : ∀ w : World, (zeroValue e).run P w = .ok z w)
    (g off m c : Nat) (cur : Array Value) (hs : a.eval s = .slice (some ⟨g, off, none⟩) m c) (hg : Blk w g e cur) (hz1 : ∀ u ∈ z.cells.toList, u.oneCell' = true) (hm : 0 < m) (hfit : off + m * z.cells.size ≤ cur.size)
    (h : ∀ w' zs, zs.length = m * z.cells.size → Blk w' g e (cur.toList.take off ++ zs ++ cur.toList.drop (off + zs.length)).toArray → Upd w w' (· = g) → wpList P ops Q rest (a.put o.dst (.tuple #[])) w') : wpList P ops Q (o :: rest) a w := by
  obtain ⟨m, rfl⟩ : ∃ k, m = k + 1 := ⟨m - 1, by omega⟩
  exact wpList_clear hgd s t ho e z ht hz g off m c cur hs hg hz1 hfit h
theorem cut_list {α : Type} (cur : List α) (cap n i : Nat) (h : i + 1 ≤ n) (hn : n ≤ cap) (hs : cur.length = cap * 2) :
    (cur.take (i * 2) ++ (cur.drop ((i + 1) * 2)).take ((n - (i + 1)) * 2) ++ cur.drop (i * 2 + (n - (i + 1)) * 2)).length = cap * 2 ∧
    (cur.take (i * 2) ++ (cur.drop ((i + 1) * 2)).take ((n - (i + 1)) * 2) ++ cur.drop (i * 2 + (n - (i + 1)) * 2)).take ((n - 1) * 2) = cur.take (i * 2) ++ (cur.take (n * 2)).drop ((i + 1) * 2) := by
  have e1 : (cur.take (i * 2)).length = i * 2 := by rw [List.length_take]; omega
  have e2 : ((cur.drop ((i + 1) * 2)).take ((n - (i + 1)) * 2)).length = (n - (i + 1)) * 2 := by rw [List.length_take, List.length_drop]; omega
  constructor
  · rw [List.length_append, List.length_append, e1, e2, List.length_drop]; omega
  · rw [List.take_append_of_le_length (by rw [List.length_append, e1, e2]; omega), List.take_of_length_le (by rw [List.length_append, e1, e2]; omega), List.drop_take]
    congr 2
    omega
theorem ret_slice {A : Option Addr} {a b c : Nat} (h : a = b) : Ending.returned (.slice A a c) = .returned (.slice A b c) := by rw [h]
theorem ret_int' {k : IntKind} {a b : Int} (h : a = b) : Ending.returned (.int k a) = .returned (.int k b) := by rw [h]
theorem ret_bool {a b : Bool} (h : a = b) : Ending.returned (.bool a) = .returned (.bool b) := by rw [h]
/-! ### append(s, x...): s nil or a row of one's own; x is read -/
theorem own_shape {w : World} {base e size n : Nat} {v : Value} {xs : List Value} (h : w.ownsRow base e size v n xs) : ∃ A c, v = .slice A n c ∧ n ≤ c ∧ c ≤ maxLen := by
  rcases h.2 with ⟨rfl, rfl⟩ | ⟨g, cap, cur, rfl, _, _, hn, hm, _⟩
  · exact ⟨none, 0, rfl, Nat.le_refl _, by unfold maxLen; omega⟩
  · exact ⟨_, cap, rfl, hn, hm⟩
theorem run_append_of_nil {P : Program} (w : World) (base : Nat) (t ty e : TypeId) (i : TypeInfo) (size : Nat) (ht : P.underlying t = some (.slice e)) (hi : P.info? e = some i)
    (v : Value) (n : Nat) (xs : List Value) (hown : w.ownsRow base e size v n xs) (c : Nat) : (Builtin.append_ #[t, t] ty #[v, .slice none 0 c]).run P w = .ok v w := by
  rcases hown.2 with ⟨rfl, rfl⟩ | ⟨g, cap, cur, rfl, _, _, hnc, _⟩
  · simp [Builtin.append_, run_underlying ht, sizeOf, typeInfo, hi, Builtin.lenOf, Builtin.firstCells]
  · simp [Builtin.append_, run_underlying ht, sizeOf, typeInfo, hi, Builtin.lenOf, Builtin.firstCells, hnc, storeCells]
theorem run_append_h {P : Program} (w : World) (t ty e : TypeId) (i : TypeInfo) (z : Value) (size bytes : Nat) (ht : P.underlying t = some (.slice e)) (hi : P.info? e = some i) (hz : i.zero = some z)
    (hsize : i.size = size) (hby : i.bytes = bytes) (hzs : z.cells.size = size) (hsz : 0 < size) (hb1 : 1 ≤ bytes)
    (v : Value) (n : Nat) (xs : List Value) (hown : w.ownsRow 0 e size v n xs)
    (H : PHeap) (hF : Fits w H) (A : Option Addr) (m c : Nat) (news : List Value) (hr : HReads H A news) (hl : news.length = m * size) (h1 : ∀ u ∈ news, u.oneCell' = true) (hb : (n + m) * bytes ≤ 140737488355328) :
    ∃ A' c' w', (Builtin.append_ #[t, t] ty #[v, .slice A m c]).run P w = .ok (.slice A' (n + m) c') w' ∧ w'.ownsRow 0 e size (.slice A' (n + m) c') (n + m) (xs ++ news) ∧ w.grownBy w' v.ownBlock ∧
      ((Value.slice A' (n + m) c').ownBlock = v.ownBlock ∨ (Value.slice A' (n + m) c').ownBlock = some w.heap.size) := by
  have hnm : (n + m) * 1 ≤ (n + m) * bytes := Nat.mul_le_mul_left _ hb1
  have key : ∃ v' w', (Builtin.append_ #[t, t] ty #[v, .slice A m c]).run P w = .ok v' w' ∧ w'.ownsRow 0 e size v' (n + m) (xs ++ news) ∧ w.grownBy w' v.ownBlock ∧ (v'.ownBlock = v.ownBlock ∨ v'.ownBlock = some w.heap.size) := by
    rcases A with _ | ad
    · have hm : m = 0 := by
        rcases Nat.eq_zero_or_pos m with h0 | h0
        · exact h0
        · have : 0 < news.length := by rw [hl]; exact Nat.mul_pos h0 hsz
          obtain ⟨ad, h, _⟩ := hr this
          cases h
      subst hm
      have hn : news = [] := List.eq_nil_of_length_eq_zero (by simpa using hl)
      subst hn
      exact ⟨v, w, run_append_of_nil w 0 t ty e i size ht hi v n xs hown c, by simpa using hown, World.grownBy.refl w _, .inl rfl⟩
    · have hcells : ∀ j u, news[j]? = some u → w.cell? (ad.add j) = some u := by
        intro j u hu
        obtain ⟨ad', h, hc⟩ := hr (by have := (List.getElem?_eq_some_iff.1 hu).1; omega)
        injection h with h
        subst h
        exact hc j u hu w hF
      obtain ⟨v', w', hrun, h2, h3, _, h5⟩ := run_append_own_at (P := P) w 0 t ty e i z size bytes ht hi hz hsize hby hzs hsz v n xs hown ad m c news hl hcells h1 (by unfold maxLen; omega) hb (Nat.zero_le _)
      exact ⟨v', w', hrun, h2, h3, h5⟩
  obtain ⟨v', w', hr, h2, h3, h4⟩ := key
  obtain ⟨A', c', rfl, _⟩ := own_shape h2
  exact ⟨A', c', w', hr, h2, h3, h4⟩
section
variable {P : Program} {ops : Array Oper} {rest : List Oper} {o : Oper} {a : Act} {w : World} (hgd : o.guard = none) (s x : Operand) (t : TypeId)
    (ho : o.op = .call { callee := .builtin .append, args := #[s, x], argTypes := #[t, t] })
    (e : TypeId) (i : TypeInfo) (z : Value) (size bytes : Nat) (ht : P.underlying t = some (.slice e)) (hi : P.info? e = some i) (hz : i.zero = some z)
    (hsize : i.size = size) (hby : i.bytes = bytes) (hzs : z.cells.size = size) (hsz : 0 < size) (hb1 : 1 ≤ bytes)
    (v : Value) (n : Nat) (xs : List Value) (H : PHeap) (A : Option Addr) (m c : Nat) (news : List Value) (hs : a.eval s = v) (hx : a.eval x = .slice A m c)
    (hown : w.ownsRow 0 e size v n xs) (hF : Fits w H) (hr : HReads H A news) (hl : news.length = m * size) (h1 : ∀ u ∈ news, u.oneCell' = true) (hb : (n + m) * bytes ≤ 140737488355328)
include hgd ho ht hi hz hsize hby hzs hsz hb1 hs hx hown hF hr hl h1 hb
omit hgd in
theorem wp_append_h {K : Act → World → Prop} {Q : Exit → Act → World → Prop}
    (h : ∀ A' c' w', w'.ownsRow 0 e size (.slice A' (n + m) c') (n + m) (xs ++ news) → w.grownBy w' v.ownBlock → ((Value.slice A' (n + m) c').ownBlock = v.ownBlock ∨ (Value.slice A' (n + m) c').ownBlock = some w.heap.size) → K (a.put o.dst (.slice A' (n + m) c')) w') : o.wp P a w K Q := by
  obtain ⟨A', c', w', hrun, h2, h3, h4⟩ := run_append_h (P := P) w t o.type e i z size bytes ht hi hz hsize hby hzs hsz hb1 v n xs hown H hF A m c news hr hl h1 hb
  unfold Oper.wp execOp
  simp only [ho, resolve, invoke, builtin, Sem.run_bind, Sem.run_pure, Result.andThen_ok, List.map_toArray, List.map_cons, List.map_nil, hs, hx, hrun]
  exact h A' c' w' h2 h3 h4
theorem wpList_append_h {Q : Exit → Act → World → Prop}
    (h : ∀ A' c' w', w'.ownsRow 0 e size (.slice A' (n + m) c') (n + m) (xs ++ news) → w.grownBy w' v.ownBlock → ((Value.slice A' (n + m) c').ownBlock = v.ownBlock ∨ (Value.slice A' (n + m) c').ownBlock = some w.heap.size) → wpList P ops Q rest (a.put o.dst (.slice A' (n + m) c')) w') : wpList P ops Q (o :: rest) a w :=
  wpList_plain hgd fun _ hK => wp_append_h (K := _) (Q := Q) s x t ho e i z size bytes ht hi hz hsize hby hzs hsz hb1 v n xs H A m c news hs hx hown hF hr hl h1 hb fun A' c' w' h2 h3 h4 => hK _ _ (h A' c' w' h2 h3 h4)
theorem step_append_h {K : Act → World → Prop} {Q : Exit → Act → World → Prop} {E : Prop}
    (h : ∀ A' c' w', w'.ownsRow 0 e size (.slice A' (n + m) c') (n + m) (xs ++ news) → w.grownBy w' v.ownBlock → ((Value.slice A' (n + m) c').ownBlock = v.ownBlock ∨ (Value.slice A' (n + m) c').ownBlock = some w.heap.size) → K (a.put o.dst (.slice A' (n + m) c')) w') :
    if Region.wanted o (yielded ops a.tmps) = true then Oper.wp P o a w K Q else E := by
  have hw : Region.wanted o (yielded ops a.tmps) = true := by simp [Region.wanted, hgd]
  rw [if_pos hw]
  exact wp_append_h (K := K) (Q := Q) s x t ho e i z size bytes ht hi hz hsize hby hzs hsz hb1 v n xs H A m c news hs hx hown hF hr hl h1 hb h
end
theorem own_empty (w : World) (e size : Nat) : (w.alloc (.cells #[] e)).ownsRow 0 e size (.slice (some ⟨w.heap.size, 0, none⟩) 0 0) 0 [] :=
  ⟨by simp, .inr ⟨w.heap.size, 0, #[], rfl, Nat.zero_le _, heap_alloc_new w _, Nat.le_refl _, by unfold maxLen; omega, by simp, by simp⟩⟩
/-- a row of one's own that is written no more is known: as a list. -/
theorem own_freeze {α : Type} {d : Kd α} {w W : World} {H H' : PHeap} {e : Nat} {v : Value} {xs : List α} {cells : List Value} (hG : Grow w H W H') (hown : W.ownsRow 0 e d.sz v xs.length cells) (hr : Reps d H' xs cells) (hlim : xs.length * d.by_ ≤ 140737488355328)
    (hn : ∀ k, v.ownBlock = some k → w.heap.size ≤ k ∧ H' k = none) : ∃ H2, Grow w H W H2 ∧ H'.le H2 ∧ Sl d H2 v xs := by
  rcases hown.2 with ⟨rfl, h0⟩ | ⟨g, cap, cur, rfl, _, hg, hle, hm, hs, ht⟩
  · have hx : xs = [] := List.eq_nil_of_length_eq_zero h0
    subst hx
    cases hr
    exact ⟨H', hG, PHeap.le.refl _, none, 0, [], rfl, Nat.le_refl _, ⟨by unfold maxLen; omega, hlim⟩, HReads.nil_, .nil⟩
  · obtain ⟨h1, h2⟩ := hn g rfl
    refine ⟨H'.put g (.cells cur e (0, 0)), hG.put hg h1 h2, PHeap.le_put _ h2, _, _, cells, rfl, hle, ⟨hm, hlim⟩, fun _ => ⟨_, rfl, fun j u hu => ?_⟩, hr.mono (PHeap.le_put _ h2)⟩
    rw [add_plain]
    refine HCell.of_blk (PHeap.put_self _ _ _) (j := j) ?_
    rw [← ht, List.getElem?_take] at hu
    split at hu
    · simpa using hu
    · cases hu
end Go.Proofs.Ytmanpicmbeeceaa
