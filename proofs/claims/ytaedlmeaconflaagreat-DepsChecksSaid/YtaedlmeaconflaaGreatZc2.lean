/- what the claim's row stands on, part 2. -/
import Derived.Test.YtaedlmeaconflaaGreatZc0
import Derived.Test.YtaedlmeaconflaaGreatZc1
import Derived.Lib.SliceRun
import Derived.Lib.Hide
import Derived.Shelf.Abstract
import Derived.Outline
import Derived.ProofKit
import Derived.OpenShut
import Derived.ShutString
import Derived.ChangeOld
import Derived.SizedLaws
import Derived.Deep.Slices
import Derived.Test.YtaedlmeaconflaaGreatProg
import Derived.Below
import Derived.Deep.Draws
import Derived.Deep.AppendLies
import Derived.Maps.AppendAt
import Derived.OwnWalk
import Derived.Laws.BytesArg
import Derived.Laws.MakeOwn
import Derived.Laws.OwnMore
import Derived.Deep.OwnRows
import Derived.Tactics
import Derived.Lib.ConvBytes
import Derived.Laws.Slices
import Derived.WalkKit
import Derived.KernelRfl
import Derived.RowKit3
import Derived.Deep.LoopGhost
import Derived.Deep.QuietTactic
import Derived.BigQuiet
import Derived.WideLaws
import Derived.Deep.DeepCutAuto
import Derived.Deep.CutBlock
import Derived.Deep.RegionHeld3
import Derived.Laws.Rows
import Derived.Lib.AppendStr
import Derived.ArgAppend
import Derived.Laws.IdiomCopy
import Derived.OrdersHeld
import Derived.Laws.BitsLemmas
import Derived.RowKit
import Derived.WalkLawsBesides
import Derived.IntWalk
import Derived.Shelf.SlSortCmp.WholeK
import Derived.Shelf.SlGeneric
import Derived.Shelf.SlLaysF0
import Derived.Shelf.SlIterI.Nil
import Derived.Shelf.Sort.Plain
import Derived.Ground.NamesProg
import Derived.Ground.SlsfProg
import Derived.Ground.GgzProg
import Derived.Shelf.SlSortCmp.NoneTotal
import Derived.Shelf.SlSortCmp.QuietGrown
section
set_option linter.unusedVariables false
set_option linter.unusedSimpArgs false
namespace Go.Proofs.YtaedlmeaconflaaGreat.P
open Go.RowKit Go.Proofs.YtaedlmeaconflaaGreatW.PrintWords Go.Proofs.YtaedlmeaconflaaGreatW.PrintLast Go.Proofs.YtaedlmeaconflaaGreatW.PrintMore
structure Upd (w w' : World) (S : Nat → Prop) : Prop where
  os : w'.os = w.os
  tape : w'.tape = w.tape
  output : w'.output = w.output
  size : w.heap.size ≤ w'.heap.size
  block : ∀ k, k < w.heap.size → ¬ S k → w'.heap[k]? = w.heap[k]?
theorem Upd.refl (w : World) (S : Nat → Prop) : Upd w w S := ⟨rfl, rfl, rfl, Nat.le_refl _, fun _ _ _ => rfl⟩
theorem Upd.trans {a b c : World} {S : Nat → Prop} (h : Upd a b S) (k : Upd b c S) : Upd a c S :=
  ⟨k.os.trans h.os, k.tape.trans h.tape, k.output.trans h.output, Nat.le_trans h.size k.size, fun i hi hs => (k.block i (Nat.lt_of_lt_of_le hi h.size) hs).trans (h.block i hi hs)⟩
theorem Upd.mono {a b : World} {S T : Nat → Prop} (h : Upd a b S) (hs : ∀ k, k < a.heap.size → S k → T k) : Upd a b T :=
  ⟨h.os, h.tape, h.output, h.size, fun i hi ht => h.block i hi (fun k => ht (hs i hi k))⟩
theorem Upd.of_below {a b : World} (h : Below a.heap.size a b) (S : Nat → Prop) : Upd a b S := ⟨h.os, h.tape, h.output, h.size, fun i hi _ => h.block i hi⟩
theorem Upd.below {a b : World} {S : Nat → Prop} {B : Nat} (h : Upd a b S) (hB : B ≤ a.heap.size) (hs : ∀ k, k < B → ¬ S k) : Below B a b :=
  ⟨h.os, h.tape, h.output, h.size, fun i hi => h.block i (by omega) (hs i hi)⟩
theorem Upd.of_grown {a b : World} {row : Option Nat} (h : a.grownBy b row) {S : Nat → Prop} (hs : ∀ k, row = some k → S k) : Upd a b S :=
  ⟨h.os, h.tape, h.output, h.size, fun i hi hn => h.block i hi (fun e => hn (hs i e.symm))⟩
theorem Upd.drew {a b : World} {S : Nat → Prop} (h : Upd a b S) : Upd a b.drew S := ⟨h.os, h.tape, h.output, h.size, h.block⟩
theorem Upd.drewN {a b : World} {S : Nat → Prop} (h : Upd a b S) (n : Nat) : Upd a (b.drewN n) S := ⟨h.os, h.tape, h.output, h.size, h.block⟩
theorem Upd.alloc {a b : World} {S : Nat → Prop} (h : Upd a b S) (o : Obj) : Upd a (b.alloc o) S :=
  h.trans ⟨rfl, rfl, rfl, by simp, fun k hk _ => Below.heap_alloc _ _ _ hk⟩
theorem Upd.setCell {a b : World} {S : Nat → Prop} (h : Upd a b S) {p : Addr} (hp : S p.block ∨ a.heap.size ≤ p.block) (u : Value) : Upd a (b.setCell p u) S :=
  ⟨h.os, h.tape, h.output, by simpa [World.setCell] using h.size, fun k hk hs => (Below.heap_setCell _ _ _ _ (by rintro rfl; rcases hp with hp | hp; exact hs hp; omega)).trans (h.block k hk hs)⟩
def Blk (w : World) (g : Nat) (t : TypeId) (cs : Array Value) : Prop := w.heap[g]? = some (.cells cs t (0, 0))
section
variable {w w' : World} {g : Nat} {t : TypeId} {cs : Array Value}
theorem Blk.lt (h : Blk w g t cs) : g < w.heap.size := by
  rcases Nat.lt_or_ge g w.heap.size with hlt | hge
  · exact hlt
  · unfold Blk at h; rw [Array.getElem?_eq_none hge] at h; cases h
theorem Blk.cell (h : Blk w g t cs) (i : Nat) : w.cell? ⟨g, i, none⟩ = cs[i]? := cell_of_row w g i cs t (0, 0) h
theorem Blk.frozen (h : Blk w g t cs) (i : Nat) : w.frozen? ⟨g, i, none⟩ = false := by
  unfold Blk at h
  simp [World.frozen?, h]
theorem Blk.new (w : World) (t : TypeId) (cs : Array Value) : Blk (w.alloc (.cells cs t)) w.heap.size t cs := heap_alloc_new w _
theorem Blk.drew (h : Blk w g t cs) : Blk w.drew g t cs := h
theorem Blk.drewN (h : Blk w g t cs) (n : Nat) : Blk (w.drewN n) g t cs := h
theorem Blk.alloc (h : Blk w g t cs) (o : Obj) : Blk (w.alloc o) g t cs := (Below.heap_alloc w o g h.lt).trans h
theorem Blk.set_ (h : Blk w g t cs) (i : Nat) (u : Value) : Blk (w.setCell ⟨g, i, none⟩ u) g t (cs.setIfInBounds i u) := by
  unfold Blk at h ⊢
  simp [World.setCell, Array.getElem?_modify, h]
theorem Blk.far (h : Blk w g t cs) {p : Addr} (hp : g ≠ p.block) (u : Value) : Blk (w.setCell p u) g t cs := (Below.heap_setCell w p u g hp).trans h
theorem Blk.below {B : Nat} (h : Blk w g t cs) (hb : Below B w w') (hg : g < B) : Blk w' g t cs := (hb.block g hg).trans h
theorem Blk.upd {S : Nat → Prop} (h : Blk w g t cs) (hb : Upd w w' S) (hg : ¬ S g) : Blk w' g t cs := (hb.block g h.lt hg).trans h
theorem Blk.grown {row : Option Nat} (h : Blk w g t cs) (hb : w.grownBy w' row) (hg : some g ≠ row) : Blk w' g t cs := (hb.block g h.lt hg).trans h
theorem Blk.ne_ {g' : Nat} {t' : TypeId} {cs' : Array Value} (h : Blk w g t cs) (h' : Blk w g' t' cs') (hne : t ≠ t') : g ≠ g' := by
  rintro rfl
  unfold Blk at h h'
  rw [h] at h'
  injection h' with h'
  injection h' with _ ht
  exact hne ht
theorem Blk.c2 {a b : Value} (h : Blk w g t #[a, b]) : w.cell? ⟨g, 0, none⟩ = some a ∧ w.cell? ⟨g, 1, none⟩ = some b ∧ w.frozen? ⟨g, 0, none⟩ = false ∧ w.frozen? ⟨g, 1, none⟩ = false ∧ g < w.heap.size := ⟨h.cell 0, h.cell 1, h.frozen 0, h.frozen 1, h.lt⟩
theorem Blk.c1 {a : Value} (h : Blk w g t #[a]) : w.cell? ⟨g, 0, none⟩ = some a ∧ w.frozen? ⟨g, 0, none⟩ = false ∧ g < w.heap.size := ⟨h.cell 0, h.frozen 0, h.lt⟩
end
theorem Upd.kept {a b : World} {S : Nat → Prop} (h : Upd a b S) : Kept a b S := ⟨h.size, fun i hi hs => h.block i hi hs⟩
theorem Upd.setCells {a b : World} {S : Nat → Prop} {g : Nat} (h : Upd a b S) (hg : S g ∨ a.heap.size ≤ g) : ∀ (vs : List Value) (o : Nat), Upd a (b.setCells g o vs) S
  | vs, o => by
    induction vs generalizing b o with
    | nil => exact h
    | cons v r ih => exact ih (h.setCell (p := ⟨g, o, none⟩) hg v) (o + 1)
theorem Upd.grown {a b c : World} {S : Nat → Prop} {row : Option Nat} (h : Upd a b S) (hg : b.grownBy c row) (hr : ∀ k, row = some k → S k ∨ a.heap.size ≤ k) : Upd a c S :=
  ⟨hg.os.trans h.os, hg.tape.trans h.tape, hg.output.trans h.output, Nat.le_trans h.size hg.size, fun i hi hs => (hg.block i (Nat.lt_of_lt_of_le hi h.size) (fun e => by rcases hr i e.symm with h1 | h1; exact hs h1; omega)).trans (h.block i hi hs)⟩
theorem Upd.then_below {a b c : World} {S : Nat → Prop} (h : Upd a b S) (k : Below b.heap.size b c) : Upd a c S := h.trans (Upd.of_below k S)
theorem own_setCells {base n size cap g : Nat} {e : TypeId} : ∀ (vs : List Value) (o : Nat) (w : World) (xs : List Value), w.ownsRow base e size (.slice (some ⟨g, 0, none⟩) n cap) n xs →
    ∃ ys, (w.setCells g o vs).ownsRow base e size (.slice (some ⟨g, 0, none⟩) n cap) n ys ∧ ys.take o = xs.take o
  | [], o, w, xs, h => ⟨xs, h, rfl⟩
  | v :: r, o, w, xs, h => by
    obtain ⟨h1, _⟩ := h.stored o v
    obtain ⟨ys, hy, ht⟩ := own_setCells r (o + 1) _ _ h1
    refine ⟨ys, hy, ?_⟩
    have e1 : ys.take o = (ys.take (o + 1)).take o := by rw [List.take_take, Nat.min_eq_left (by omega)]
    have e2 : xs.take o = ((xs.set o v).take (o + 1)).take o := by
      rw [List.take_take, Nat.min_eq_left (by omega)]
      apply List.ext_getElem?
      intro i
      rw [List.getElem?_take, List.getElem?_take]
      split
      · rw [List.getElem?_set_ne (by omega)]
      · rfl
    rw [e1, ht, ← e2]
end Go.Proofs.YtaedlmeaconflaaGreat.P
end
section
set_option linter.unusedVariables false
set_option linter.unusedSimpArgs false
namespace Go.Proofs.YtaedlmeaconflaaGreat.P
open Go.ChangeShapes Go.WideShapes Go.ChangeAt Go.RowKit Go.Deep Go.Proofs.YtaedlmeaconflaaGreatW.PrintWords
theorem add_of_add (a : Addr) (i j : Nat) : (a.add i).add j = a.add (i + j) := by
  unfold Addr.add
  by_cases hi : i = 0 <;> by_cases hj : j = 0 <;> simp [hi, hj, Nat.add_assoc]
def Opens {α : Type} (P : Program) (d : Kd α) (t : TypeId) (p : α → Prop) : Prop :=
  ∀ (H : Type) (enc : TypeId × Value → H) (W : World) (base : Nat) (spare : Nat → Bool) (held : Bool) (fuel : Nat) (cs : List Value) (x : DataW H × List MemPlace),
    DataW.trod enc P W base spare held fuel t cs = some x → ∃ a, d.K W a cs ∧ p a
section
variable {P : Program} {t : TypeId}
theorem opens_int {k : IntKind} (ht : P.underlying t = some (.int k)) : Opens P (Kd.int k) t (fun x => (Lit.int k x).wf = true) := fun H enc W base spare held fuel cs x h => by
  obtain ⟨n, rfl, _, hw⟩ := DataW.trod_int ht h
  exact ⟨n, rfl, hw⟩
theorem opens_slice {α : Type} {d : Kd α} {e : TypeId} {p : α → Prop} (ei : Nat) (ht : P.underlying t = some (.slice e)) (hc : P.cellsOf e = d.sz) (he : Opens P d e p) : Opens P (Kd.slice ei d) t (fun xs => xs.length ≤ 9223372036854775807 ∧ ∀ x ∈ xs, p x) := fun H enc W base spare held fuel cs x h => by
  rcases open_slice ht h with ⟨rfl, rfl⟩ | ⟨a, len, cap, m, n, D, Pl, rfl, _, hl, hm, hmm, rfl, hx⟩
  · exact ⟨[], ⟨none, 0, rfl, Nat.le_refl _, Kd.C_nil _ _⟩, by simp, by simp⟩
  · have hle : len ≤ m := by rw [hmm]; split <;> omega
    have key : ∀ k, k ≤ len → ∃ xs : List α, xs.length = k ∧ (∀ y ∈ xs, p y) ∧ ∀ j y, xs[j]? = some y → ∃ c, c.length = d.sz ∧ d.K W y c ∧ ∀ i u, c[i]? = some u → W.cell? (a.add (j * d.sz + i)) = some u := by
      intro k
      induction k with
      | zero => intro _; exact ⟨[], rfl, by simp, fun j y hy => by simp at hy⟩
      | succ k ih =>
        intro hk
        obtain ⟨xs, hxl, hp, hi⟩ := ih (by omega)
        obtain ⟨cs', hcs, htr⟩ := hx k (by omega)
        obtain ⟨y, hy, hpy⟩ := he _ _ _ _ _ _ _ _ _ htr
        obtain ⟨_, hcl, hcell⟩ := World.cells?_some hcs
        refine ⟨xs ++ [y], by simp [hxl], fun z hz => ?_, fun j z hz => ?_⟩
        · rcases List.mem_append.1 hz with hz | hz
          · exact hp z hz
          · rw [List.mem_singleton.1 hz]; exact hpy
        · rcases Nat.lt_or_ge j xs.length with hj | hj
          · rw [List.getElem?_append_left hj] at hz; exact hi j z hz
          · rw [List.getElem?_append_right hj] at hz
            have hj0 : j - xs.length = 0 := by have := (List.getElem?_eq_some_iff.1 hz).1; simpa using this
            rw [hj0] at hz
            simp only [List.getElem?_cons_zero, Option.some.injEq] at hz
            subst hz
            refine ⟨cs', d.K_len hy, hy, fun i u hu => ?_⟩
            have hil := (List.getElem?_eq_some_iff.1 hu).1
            have := hcell i (by omega)
            rw [hu, hc, add_of_add] at this
            rw [show j = k by omega]
            exact this
    obtain ⟨xs, hxl, hp, hi⟩ := key len (Nat.le_refl _)
    subst hxl
    have hmx : xs.length ≤ 9223372036854775807 := by have := hm; unfold maxLen at this; omega
    exact ⟨xs, ⟨some a, cap, rfl, hl, rfl, hmx, fun _ => ⟨a, rfl, hi⟩⟩, hmx, hp⟩
def OpensF {α : Type} (P : Program) (d : Kd α) (fs : List Field) (off : Nat) (p : α → Prop) : Prop :=
  ∀ (H : Type) (enc : TypeId × Value → H) (W : World) (base : Nat) (spare : Nat → Bool) (held : Bool) (fuel : Nat) (cs : List Value) (xs : List (DataW H × List MemPlace)),
    xs.length = fs.length → (∀ (i : Nat) (f : Field), fs[i]? = some f → DataW.trod enc P W base spare held fuel f.type ((cs.drop f.offset).take (P.cellsOf f.type)) = xs[i]?) →
    cs.length = off + d.sz → ∃ a, d.K W a (cs.drop off) ∧ p a
theorem opensF_one {α : Type} {d : Kd α} {f : Field} {off : Nat} {p : α → Prop} (ho : f.offset = off) (hc : P.cellsOf f.type = d.sz) (he : Opens P d f.type p) : OpensF P d [f] off p := fun H enc W base spare held fuel cs xs hl h hcs => by
  match xs, hl with
  | [x], _ =>
    have h0 := h 0 f rfl
    rw [ho, hc, List.take_of_length_le (by rw [List.length_drop]; omega)] at h0
    exact he _ _ _ _ _ _ _ _ _ h0
theorem opensF_cons {α β : Type} {d0 : Kd α} {d1 : Kd β} {f : Field} {fs : List Field} {off : Nat} {p : α → Prop} {q : β → Prop} (ho : f.offset = off) (hc : P.cellsOf f.type = d0.sz) (he : Opens P d0 f.type p) (hr : OpensF P d1 fs (off + d0.sz) q) : OpensF P (Kd.pair d0 d1) (f :: fs) off (fun x => p x.1 ∧ q x.2) := fun H enc W base spare held fuel cs xs hl h hcs => by
  match xs, hl with
  | x :: xs, hl =>
    have h0 := h 0 f rfl
    rw [ho, hc] at h0
    have hcs' : cs.length = off + (d0.sz + d1.sz) := hcs
    obtain ⟨a, ha, hp⟩ := he _ _ _ _ _ _ _ _ _ h0
    obtain ⟨b, hb, hq⟩ := hr _ enc W base spare held fuel cs xs (by simpa using hl) (fun i g hg => h (i + 1) g (by simpa using hg)) (by omega)
    exact ⟨(a, b), ⟨_, _, by rw [← List.drop_drop]; exact (List.take_append_drop d0.sz (cs.drop off)).symm, ha, hb⟩, hp, hq⟩
theorem opens_struct {α : Type} {d : Kd α} {fs : List Field} {p : α → Prop} (ht : P.underlying t = some (.struct fs.toArray)) (hc : P.cellsOf t = d.sz) (he : OpensF P d fs 0 p) : Opens P d t p := fun H enc W base spare held fuel cs x h => by
  obtain ⟨xs, n, rfl, rfl, hl, hxl, hf⟩ := DataW.trod_struct ht h
  obtain ⟨a, ha⟩ := he _ enc W base spare held n cs xs (by simpa using hxl) (fun i f hf' => hf i f (by simpa using hf')) (by omega)
  exact ⟨a, by simpa using ha⟩
theorem opens_iso {α β : Type} {d : Kd α} {f : β → α} {g : α → β} {p : α → Prop} (hg : ∀ a, f (g a) = a) (h : Opens P d t p) : Opens P (Kd.iso d f) t (fun b => p (f b)) := fun H enc W base spare held fuel cs x h1 => by
  obtain ⟨a, ha, hp⟩ := h H enc W base spare held fuel cs x h1
  exact ⟨g a, by show d.K W (f (g a)) cs; rw [hg]; exact ha, by show p (f (g a)); rw [hg]; exact hp⟩
theorem opens_mono {α : Type} {d : Kd α} {p q : α → Prop} (h : Opens P d t p) (hq : ∀ a, p a → q a) : Opens P d t q := fun H enc W base spare held fuel cs x h1 => by
  obtain ⟨a, ha, hp⟩ := h H enc W base spare held fuel cs x h1
  exact ⟨a, ha, hq a hp⟩
theorem open_sl {α : Type} {d : Kd α} {ei : Nat} {p : List α → Prop} (ho : Opens P (Kd.slice ei d) t p) {H : Type} {enc : TypeId × Value → H} {W : World} {base : Nat} {spare : Nat → Bool} {held : Bool} {A : Option Addr} {n c : Nat} {y : DataW H} {q : List MemPlace}
    (h : DataW.Trod enc P W base spare held t (.slice A n c) y q) (_ : ∀ n ∈ y.weights P t, n ≤ reachBytes) : ∃ xs, n = xs.length ∧ xs.length ≤ c ∧ Kd.C d W A xs.length xs ∧ p xs := by
  obtain ⟨fuel, hf⟩ := h
  obtain ⟨xs, ⟨A', c', e, hc, hC⟩, hp⟩ := ho _ _ _ _ _ _ _ _ _ hf
  simp only [Value.cells] at e
  have : (Value.slice A n c) = .slice A' xs.length c' := by simpa using e
  injection this with e1 e2 e3
  subst e1 e2 e3
  exact ⟨xs, rfl, hc, hC, hp⟩
end
end Go.Proofs.YtaedlmeaconflaaGreat.P
end
section
set_option linter.unusedVariables false
set_option linter.unusedSimpArgs false
namespace Go.Proofs.YtaedlmeaconflaaGreat.P
open Go.RowKit Go.Proofs.YtaedlmeaconflaaGreatW.PrintWords Go.Proofs.YtaedlmeaconflaaGreatW.PrintLast Go.Proofs.YtaedlmeaconflaaGreatW.PrintMore
attribute [local go_sem] max2_int min2_int max_two min_two max_three min_three max_four min_four   -- for this text's walks alone
set_option linter.unusedVariables false
set_option linter.unusedSimpArgs false
def errW : Option Int → Value
 | none => .nilIface
 | some c => .iface 0 (.int .i64 c)
theorem errW_none : errW none = .nilIface := rfl
theorem errW_some (c : Int) : errW (some c) = .iface 0 (.int .i64 c) := rfl
theorem info5 : (Tryz.prog.info? 5).map (fun i => (i.zero, i.size, i.bytes)) = some (some (.int .u8 0), 1, 1) := by kernel_rfl
theorem info41 : (Tryz.prog.info? 41).map (fun i => (i.zero, i.size, i.bytes)) = some (some (.agg #[(.int .i64 0), (.int .i64 0)]), 2, 16) := by kernel_rfl
structure S41 where
 f0 : Int
 f1 : Int
def z41 : S41 := ⟨(0 : Int), (0 : Int)⟩
def k41 : Kd S41 := Kd.iso (Kd.pair (Kd.int .i64) (Kd.int .i64)) (fun x : S41 => (x.f0, x.f1))
theorem k41_heap : Kd.Heap k41 := Kd.heap_iso _ (Kd.heap_pair (Kd.heap_int .i64) (Kd.heap_int .i64))
theorem k41_open {w : World} {x : S41} {cs : List Value} (h : k41.K w x cs) : cs = [.int .i64 x.f0, .int .i64 x.f1] := by
 obtain ⟨_, _, rfl, rfl, rfl⟩ := h
 exact rfl
theorem k41_openM {w : World} {base : Nat} {ok : Nat → Prop} {x : S41} {cs : List Value} (h : k41.M w base ok x cs) : cs = [.int .i64 x.f0, .int .i64 x.f1] := by
 obtain ⟨_, _, rfl, rfl, rfl⟩ := h
 exact rfl
theorem k41_mkM (w : World) (base : Nat) (ok : Nat → Prop) (x : S41)  : k41.M w base ok x [.int .i64 x.f0, .int .i64 x.f1] := ⟨[.int .i64 x.f0], [.int .i64 x.f1], rfl, rfl, rfl⟩
def rd_T41 (xs : List S41) (i : Int) : S41 := xs.getD i.toNat z41
theorem at_T41 {w : World} {A : Option Addr} {n : Nat} {xs : List S41} (h : Kd.C k41 w A n xs) (i : Int) (h0 : 0 ≤ i) (h1 : i < n) : ∃ ad , A = some ad ∧ w.cell? (ad.add (i.toNat * 2)) = some (.int .i64 (rd_T41 xs i).f0) ∧ w.cell? ⟨(ad.add (i.toNat * 2)).block, (ad.add (i.toNat * 2)).off + 1, none⟩ = some (.int .i64 (rd_T41 xs i).f1) := by
 obtain ⟨ad, c, e, _, hK, hc0⟩ := Kd.C_get h z41 i h0 h1
 have hc : ∀ j u, c[j]? = some u → w.cell? (ad.add (i.toNat * 2 + j)) = some u := hc0
 obtain rfl := k41_open hK
 exact ⟨ad, e, hc 0 _ rfl, by rw [← add_field _ _ 1 (by omega)]; exact hc 1 _ rfl⟩
structure S26 where
 f0 : Int
 f1 : (List S41)
def z26 : S26 := ⟨(0 : Int), ([] : List S41)⟩
def k26 : Kd S26 := Kd.iso (Kd.pair (Kd.int .i64) (Kd.slice 41 k41)) (fun x : S26 => (x.f0, x.f1))
theorem k26_open {w : World} {x : S26} {cs : List Value} (h : k26.K w x cs) : ∃ A1 c1, cs = [.int .i64 x.f0, .slice A1 x.f1.length c1] ∧ x.f1.length ≤ c1 ∧ k41.C w A1 x.f1.length x.f1 := by
 obtain ⟨_, _, rfl, rfl, ⟨A1, c1, rfl, l1, g1⟩⟩ := h
 exact ⟨A1, c1, rfl, l1, g1⟩
theorem k26_mk (w : World) (x : S26) {A1 : Option Addr} {c1 : Nat} (l1 : x.f1.length ≤ c1) (g1 : k41.C w A1 x.f1.length x.f1) : k26.K w x [.int .i64 x.f0, .slice A1 x.f1.length c1] := ⟨[.int .i64 x.f0], [.slice A1 x.f1.length c1], rfl, rfl, ⟨A1, c1, rfl, l1, g1⟩⟩
theorem k26_mkM (w : World) (base : Nat) (ok : Nat → Prop) (x : S26) {v1 : Value} (g1 : k41.R 41 w base ok v1 x.f1) : k26.M w base ok x [.int .i64 x.f0, v1] := ⟨[.int .i64 x.f0], [v1], rfl, rfl, ⟨v1, rfl, g1⟩⟩
def rd_T26 (xs : List S26) (i : Int) : S26 := xs.getD i.toNat z26
theorem at_T26 {w : World} {A : Option Addr} {n : Nat} {xs : List S26} (h : Kd.C k26 w A n xs) (i : Int) (h0 : 0 ≤ i) (h1 : i < n) : ∃ ad A1 c1, A = some ad ∧ w.cell? (ad.add (i.toNat * 2)) = some (.int .i64 (rd_T26 xs i).f0) ∧ w.cell? ⟨(ad.add (i.toNat * 2)).block, (ad.add (i.toNat * 2)).off + 1, none⟩ = some (.slice A1 (rd_T26 xs i).f1.length c1) ∧ (rd_T26 xs i).f1.length ≤ c1 ∧ k41.C w A1 (rd_T26 xs i).f1.length (rd_T26 xs i).f1 := by
 obtain ⟨ad, c, e, _, hK, hc0⟩ := Kd.C_get h z26 i h0 h1
 have hc : ∀ j u, c[j]? = some u → w.cell? (ad.add (i.toNat * 2 + j)) = some u := hc0
 obtain ⟨A1, c1, rfl, l1, g1⟩ := k26_open hK
 exact ⟨ad, A1, c1, e, hc 0 _ rfl, by rw [← add_field _ _ 1 (by omega)]; exact hc 1 _ rfl, l1, g1⟩
end Go.Proofs.YtaedlmeaconflaaGreat.P
end
section
set_option linter.unusedVariables false
set_option linter.unusedSimpArgs false
namespace Go.Proofs.YtaedlmeaconflaaGreat.P
open Go.ChangeShapes Go.WideShapes Go.ChangeAt Go.RowKit Go.Deep Go.Proofs.YtaedlmeaconflaaGreatW.PrintWords
theorem opens_stamp : Opens Tryz.prog k41 41 (fun _ => True) := opens_mono (opens_iso (g := fun x => (⟨x.1, x.2⟩ : S41)) (fun _ => rfl) (opens_struct Tryz.underlying41 (by kernel_rfl)
  (opensF_cons rfl (by kernel_rfl) (opens_int Tryz.underlying2) (opensF_one rfl (by kernel_rfl) (opens_int Tryz.underlying3))))) (fun _ _ => trivial)
theorem opens_stamps : Opens Tryz.prog (Kd.slice 41 k41) 24 (fun xs => xs.length ≤ 9223372036854775807 ∧ ∀ x ∈ xs, True) := opens_slice 41 Tryz.underlying24 (by kernel_rfl) opens_stamp
theorem opens_dep : Opens Tryz.prog k26 26 (fun s => s.f1.length ≤ 9223372036854775807) := opens_mono (opens_iso (g := fun x => (⟨x.1, x.2⟩ : S26)) (fun _ => rfl) (opens_struct Tryz.underlying26 (by kernel_rfl)
  (opensF_cons rfl (by kernel_rfl) (opens_int Tryz.underlying3) (opensF_one rfl (by kernel_rfl) opens_stamps)))) (fun _ h => h.2.1)
theorem opens_deps : Opens Tryz.prog (Kd.slice 26 k26) 22 (fun l => l.length ≤ 9223372036854775807 ∧ ∀ s ∈ l, s.f1.length ≤ 9223372036854775807) := opens_slice 26 Tryz.underlying22 (by kernel_rfl) opens_dep
theorem opens_bytes : Opens Tryz.prog (Kd.slice 5 (Kd.int .u8)) 23 (fun xs => xs.length ≤ 9223372036854775807 ∧ ∀ x ∈ xs, (Lit.int .u8 x).wf = true) := opens_slice 5 Tryz.underlying23 (by kernel_rfl) (opens_int Tryz.underlying5)
end Go.Proofs.YtaedlmeaconflaaGreat.P
end
section
set_option linter.unusedVariables false
set_option linter.unusedSimpArgs false
namespace Go.Proofs.YtaedlmeaconflaaGreat.P
def leBytes : Nat → Nat → List Int
  | 0, _ => []
  | k + 1, n => ((n % 256 : Nat) : Int) :: leBytes k (n / 256)
theorem leBytes_len : ∀ k n, (leBytes k n).length = k
  | 0, _ => rfl
  | k + 1, n => by simp [leBytes, leBytes_len k]
theorem leBytes_snoc : ∀ k n, leBytes (k + 1) n = leBytes k n ++ [((n / 256 ^ k % 256 : Nat) : Int)]
  | 0, n => by simp [leBytes]
  | k + 1, n => by
    rw [leBytes, leBytes_snoc k (n / 256), leBytes, Nat.div_div_eq_div_mul, Nat.pow_succ, Nat.mul_comm 256]
    rfl
theorem leBytes_byte : ∀ k n, ∀ x ∈ leBytes k n, 0 ≤ x ∧ x < 256
  | 0, _ => by simp [leBytes]
  | k + 1, n => by
    intro x hx
    unfold leBytes at hx
    rcases List.mem_cons.1 hx with rfl | hx
    · omega
    · exact leBytes_byte k _ x hx
def leNum : List Int → Nat
  | [] => 0
  | b :: r => b.toNat + 256 * leNum r
def bytesOk (xs : List Int) : Prop := ∀ x ∈ xs, 0 ≤ x ∧ x < 256
theorem leNum_lt : ∀ (xs : List Int), bytesOk xs → leNum xs < 256 ^ xs.length
  | [], _ => by simp [leNum]
  | b :: r, h => by
    have h1 := leNum_lt r (fun x hx => h x (List.mem_cons_of_mem _ hx))
    have h2 := h b (List.mem_cons_self ..)
    rw [List.length_cons, Nat.pow_succ]
    unfold leNum
    omega
theorem leNum_snoc (xs : List Int) (b : Int) : leNum (xs ++ [b]) = leNum xs + 256 ^ xs.length * b.toNat := by
  induction xs with
  | nil => simp [leNum]
  | cons a r ih =>
    rw [List.cons_append, leNum, ih, leNum, List.length_cons, Nat.pow_succ, Nat.mul_add, ← Nat.mul_assoc]
    rw [Nat.mul_comm 256 (256 ^ r.length)]
    omega
theorem leNum_leBytes : ∀ k n, leNum (leBytes k n) = n % 256 ^ k
  | 0, n => by simp [leBytes, leNum, Nat.mod_one]
  | k + 1, n => by
    rw [leBytes, leNum, leNum_leBytes k, Nat.pow_succ, Nat.mul_comm (256 ^ k) 256, Nat.mod_mul]
    simp only [Int.toNat_natCast]
theorem or_join {k acc b : Nat} (hk : k < 8) (ha : acc < 256 ^ k) (hb : b < 256) : bits .or .u64 (acc : Int) (IntKind.u64.wrap (IntKind.u64.wrap (b : Int) * 2 ^ (8 * k))) = ((acc + 256 ^ k * b : Nat) : Int) := by
  have hp : (2 : Nat) ^ (8 * k) = 256 ^ k := by rw [Nat.pow_mul]
  have h1 : 256 ^ k * b + 256 ^ k ≤ 256 ^ 8 := by
    rw [← Nat.mul_succ]
    refine Nat.le_trans (Nat.mul_le_mul_left _ (show b + 1 ≤ 256 by omega)) ?_
    rw [← Nat.pow_succ]
    exact Nat.pow_le_pow_right (by decide) (by omega)
  have h2 : (256 : Nat) ^ 8 = 18446744073709551616 := by decide
  have e1 : IntKind.u64.wrap (b : Int) = b := Go.IntWalk.u64_in _ (by omega)
  have e2 : (b : Int) * 2 ^ (8 * k) = ((256 ^ k * b : Nat) : Int) := by
    rw [← hp, Int.natCast_mul, Int.mul_comm]; simp
  have e3 : IntKind.u64.wrap ((256 ^ k * b : Nat) : Int) = ((256 ^ k * b : Nat) : Int) := Go.IntWalk.u64_in _ (by omega)
  rw [e1, e2, e3]
  have hw : ∀ n : Int, 0 ≤ n → n < 2 ^ 64 → IntKind.u64.wrap n = n := fun n h0 h1 => Go.IntWalk.u64_in n (by omega)
  rw [(bits_nat .u64 64 (by decide) hw acc (256 ^ k * b) (by omega) (by omega)).2, ← hp, Nat.or_comm, ← Nat.two_pow_add_eq_or_of_lt (by omega) b, Nat.add_comm]
def u64 (x : Int) : Nat := (x % 18446744073709551616).toNat
def i64 (n : Nat) : Int := if n < 9223372036854775808 then n else (n : Int) - 18446744073709551616
theorem u64_lt (x : Int) : u64 x < 18446744073709551616 := by unfold u64; omega
theorem i64_u64 {x : Int} (h0 : -9223372036854775808 ≤ x) (h1 : x ≤ 9223372036854775807) : i64 (u64 x) = x := by unfold i64 u64; split <;> omega
def laidI (x : Int) : List Int := leBytes 8 (u64 x)
theorem laidI_len (x : Int) : (laidI x).length = 8 := leBytes_len _ _
end Go.Proofs.YtaedlmeaconflaaGreat.P
end
section
set_option linter.unusedVariables false
set_option linter.unusedSimpArgs false
namespace Go.Proofs.YtaedlmeaconflaaGreat.P
open Go.RowKit Go.Proofs.YtaedlmeaconflaaGreatW.PrintWords Go.Proofs.YtaedlmeaconflaaGreatW.PrintLast Go.Proofs.YtaedlmeaconflaaGreatW.PrintMore
theorem infoB : (Tryz.prog.info? 5).map (fun i => (i.zero, i.size, i.bytes)) = some (some (.int .u8 0), 1, 1) := by kernel_rfl
theorem stop_append {P : Program} {ops : Array Oper} {rest : List Oper} {o : Oper} {a : Go.Act} {Q : Exit → Go.Act → World → Prop} {w : World} {xs : Array Operand} {ts : Array TypeId} (_ho : o.op = .call { callee := .builtin .append, args := xs, argTypes := ts })
    (h : RowKit.Hid (wpList P ops Q (o :: rest) a w)) : wpList P ops Q (o :: rest) a w := h.out
abbrev ptr (g : Nat) : Value := .pointer (some ⟨g, 0, none⟩)
def RowB (w : World) (base : Nat) (v : Value) (xs : List Int) : Prop := w.ownsRow base 5 1 v xs.length (nums .u8 xs)
theorem RowB.upd {w w' : World} {S : Nat → Prop} {b : Nat} {v : Value} {xs : List Int} (h : RowB w b v xs) (hu : Upd w w' S) (hs : ∀ k, v.ownBlock = some k → ¬ S k) : RowB w' b v xs := by
  obtain ⟨h0, h⟩ := h
  refine ⟨h0, ?_⟩
  rcases h with h | ⟨g, cap, cur, rfl, h1, h2, h3⟩
  · exact .inl h
  · refine .inr ⟨g, cap, cur, rfl, h1, ?_, h3⟩
    have hlt : g < w.heap.size := (Array.getElem?_eq_some_iff.1 h2).1
    exact (hu.block g hlt (hs g (by simp [Value.ownBlock]))).trans h2
theorem RowB.ge {w : World} {b : Nat} {v : Value} {xs : List Int} (h : RowB w b v xs) : ∀ k, v.ownBlock = some k → b ≤ k ∧ k < w.heap.size := by
  obtain ⟨h0, h⟩ := h
  intro k hk
  rcases h with ⟨rfl, _⟩ | ⟨g, cap, cur, rfl, h1, h2, h3⟩
  · simp [Value.ownBlock] at hk
  · simp [Value.ownBlock] at hk
    subst hk
    exact ⟨h1, (Array.getElem?_eq_some_iff.1 h2).1⟩
theorem RowB.below {w w' : World} {b : Nat} {v : Value} {xs : List Int} (h : RowB w b v xs) (hb : Below w.heap.size w w') : RowB w' b v xs := h.upd (Upd.of_below hb (fun _ => False)) (fun _ _ h => h)
structure PenIs (w : World) (base g : Nat) (xs : List Int) : Prop where
  ge : base ≤ g
  ex : ∃ v, Blk w g 79 #[v] ∧ RowB w base v xs ∧ v.ownBlock ≠ some g
theorem PenIs.lt {w : World} {base g : Nat} {xs : List Int} (h : PenIs w base g xs) : g < w.heap.size := by
  obtain ⟨v, hb, _⟩ := h.ex
  exact hb.lt
theorem PenIs.upd {w w' : World} {S : Nat → Prop} {base g : Nat} {xs : List Int} (h : PenIs w base g xs) (hu : Upd w w' S) (hs : ∀ k, base ≤ k → ¬ S k) : PenIs w' base g xs := by
  obtain ⟨v, hb, hr, hn⟩ := h.ex
  exact ⟨h.ge, v, hb.upd hu (hs g h.ge), hr.upd hu (fun k hk => hs k (hr.ge k hk).1), hn⟩
theorem PenIs.below {w w' : World} {base g : Nat} {xs : List Int} (h : PenIs w base g xs) (hb : Below w.heap.size w w') : PenIs w' base g xs := h.upd (Upd.of_below hb (fun _ => False)) (fun _ _ h => h)
theorem PenIs.new (w : World) : PenIs (w.alloc (.cells #[.slice none 0 0] 79)) w.heap.size w.heap.size [] :=
  ⟨Nat.le_refl _, .slice none 0 0, Blk.new w 79 _, ⟨rfl, .inl ⟨rfl, rfl⟩⟩, by simp [Value.ownBlock]⟩
theorem RowB.ne {w : World} {b g : Nat} {v : Value} {xs : List Int} {t : TypeId} {cs : Array Value} (h : RowB w b v xs) (hB : Blk w g t cs) (ht : t ≠ 5) : v.ownBlock ≠ some g := by
  intro e
  obtain ⟨_, h⟩ := h
  rcases h with ⟨rfl, _⟩ | ⟨g', cap, cur, rfl, h1, h2, h3⟩
  · simp [Value.ownBlock] at e
  · simp [Value.ownBlock] at e
    subst e
    unfold Blk at hB
    rw [h2] at hB
    injection hB with hB
    injection hB with _ hB
    exact ht hB.symm
theorem PenIs.laid {w w1 : World} {base g : Nat} {ys : List Int} {v v1 : Value} (hge : base ≤ g) (hB : Blk w g 79 #[v]) (hn : v.ownBlock ≠ some g) (ho : RowB w1 base v1 ys) (hg : w.grownBy w1 v.ownBlock) : PenIs (w1.setCell ⟨g, 0, none⟩ v1) base g ys := by
  have hB1 := hB.grown hg (fun e => hn e.symm)
  have hne : v1.ownBlock ≠ some g := ho.ne hB1 (by decide)
  refine ⟨hge, v1, hB1.set_ 0 v1, ?_, hne⟩
  exact ho.upd ((Upd.refl w1 (· = g)).setCell (p := ⟨g, 0, none⟩) (.inl rfl) v1) (fun k hk e => hne (e ▸ hk))
def KeepT (w w' : World) : Prop := ∀ (b : Nat) (t : TypeId) (cs : Array Value), t ≠ 5 → t ≠ 79 → Blk w b t cs → Blk w' b t cs
structure KB (base : Nat) (w w' : World) : Prop where
  b : Below base w w'
  k : KeepT w w'
theorem KB.refl (base : Nat) (w : World) : KB base w w := ⟨Below.refl _ _, fun _ _ _ _ _ h => h⟩
theorem KB.trans {base : Nat} {a b c : World} (h : KB base a b) (h' : KB base b c) : KB base a c := ⟨h.b.trans h'.b, fun g t cs h1 h2 hb => h'.k g t cs h1 h2 (h.k g t cs h1 h2 hb)⟩
theorem KB.of_below {base : Nat} {a b : World} (h : Below a.heap.size a b) (hb : base ≤ a.heap.size) : KB base a b := ⟨h.mono hb, fun g t cs _ _ hB => hB.below h hB.lt⟩
theorem KB.step {base g : Nat} {w wr w1 : World} {v v1 : Value} {Y : List Int} (h : KB base w wr) (hbl : Below base w w1) (hBk : Blk wr g 79 #[v]) (hr : RowB wr base v Y) (hg : wr.grownBy w1 v.ownBlock) (hge : base ≤ g) : KB base w (w1.setCell ⟨g, 0, none⟩ v1) :=
  ⟨hbl.setCell hge _, fun b t cs h1 h2 hB => by
    have hr1 := h.k b t cs h1 h2 hB
    have hr2 := hr1.grown hg (fun e => (hr.ne hr1 h1) e.symm)
    exact hr2.far (p := ⟨g, 0, none⟩) (hr1.ne_ hBk h2) _⟩
section
variable {base g : Nat} {xs : List Int}
def LowA (w : World) (base g : Nat) (xs : List Int) (n many : Nat) (nv kv : Value) (wr : World) : Prop := ∃ k : Nat, kv = .int .i64 k ∧ k ≤ many ∧ nv = .int .u64 ((n / 256 ^ k : Nat) : Int) ∧ PenIs wr base g (xs ++ leBytes k n) ∧ KB base w wr
set_option maxHeartbeats 1000000 in
theorem low_any (n : Nat) (many : Nat) (hm : many ≤ 8) (hn : n < 18446744073709551616) (w : World) (h : PenIs w base g xs) (hl : xs.length ≤ 140000000000000) : Calls Tryz.prog 89 #[ptr g, .int .u64 (n : Int), .int .i64 (many : Int)] w fun e w' => e = .returned (.tuple #[]) ∧ PenIs w' base g (xs ++ leBytes many n) ∧ KB base w w' := by
  have H := Lib.hid h; clear h
  go_enter Tryz.func89, Tryz.ntmps89
  go_wp2
  go_loopw [1, 9] (fun nv kv wr => LowA w base g xs n many nv kv wr) (fun _ k _ => many - (intOf k).toNat)
  case atStart => exact ⟨0, rfl, Nat.zero_le _, by simp, by simpa [leBytes] using H.out, KB.refl _ _⟩
  case round =>
    obtain ⟨k, rfl, hk, rfl, hP, hB⟩ := hrel
    by_cases hlt : k < many
    · obtain ⟨v, hBk, hr, hn0⟩ := hP.ex
      have hge := hP.ge
      have hsn := leBytes_snoc k n
      have hdv : n / 256 ^ (k + 1) = n / 256 ^ k / 256 := by rw [Nat.div_div_eq_div_mul, Nat.pow_succ]
      have hlY : (xs ++ leBytes k n).length ≤ 140000000000008 := by rw [List.length_append, leBytes_len]; omega
      have hsn' : xs ++ leBytes (k + 1) n = (xs ++ leBytes k n) ++ [((n / 256 ^ k % 256 : Nat) : Int)] := by rw [hsn, List.append_assoc]
      have hmlt : n / 256 ^ k < 18446744073709551616 := Nat.lt_of_le_of_lt (Nat.div_le_self _ _) hn
      obtain ⟨m, hm'⟩ : ∃ m, n / 256 ^ k = m := ⟨_, rfl⟩
      obtain ⟨Y, hY⟩ : ∃ Y, xs ++ leBytes k n = Y := ⟨_, rfl⟩
      rw [hm'] at hdv hsn' hmlt ⊢
      rw [hY] at hr hlY hsn'
      have HS := Lib.hid (And.intro hdv (And.intro hsn' (And.intro hBk (And.intro hr (And.intro hn0 (And.intro hge hB))))))
      obtain ⟨A, c, rfl, _⟩ := own_reads hr
      have hc0 : wr.cell? ⟨g, 0, none⟩ = some (.slice A Y.length c) := hBk.cell 0
      have hBx := Lib.hid hBk
      have HL := Lib.hid (show (Y.length + 1) * 1 ≤ 140737488355328 by omega)
      have HG := Lib.hid (show base ≤ wr.heap.size from Nat.le_trans hge (Nat.le_of_lt hBk.lt))
      clear hP hr hsn hdv hsn' hBk hn0 hge hm' hY hB
      go_wp2_with (first | ((with_reducible refine gate_builtin (b := .append) (xs := #[.tmp 15, .tmp 18]) rfl ?_); at_builtin; refine stop_append rfl ?_))
      refine Lib.hid ?_;refine print_append_num (w0 := w) base rfl (.tmp 15) (.tmp 18) 23 5 .u8 1 rfl Tryz.underlying23 infoB (by decide) (.slice A Y.length c) Y (((m : Nat) : Int) % 256) rfl rfl HS.out.2.2.2.1 HS.out.2.2.2.2.2.2.b HG.out HL.out ?_;intro v1 w1 ho hbl hg hat
      have hB1 := hBx.out.grown hg (fun e => HS.out.2.2.2.2.1 e.symm)
      have hz1 := hB1.frozen 0
      have hc1 : w1.cell? ⟨g, 0, none⟩ = some (.slice A Y.length c) := hB1.cell 0
      have HO1 := Lib.hid (And.intro ho (And.intro hbl (And.intro hg hat)))
      obtain ⟨A1, c1, rfl⟩ := own_slice ho
      clear ho hbl hg hat hB1 hc0
      go_wp2
      obtain ⟨ho, hbl, hg, hat⟩ := HO1.out
      obtain ⟨hdv, hsn', hBk, hr, hn0, hge, hB⟩ := HS.out
      have hP1 := PenIs.laid hge hBk hn0 ho hg
      go_roundw
      case rel => exact ⟨k + 1, by go_num, by omega, by rw [hdv]; simp, by rw [hsn']; simpa using hP1, hB.step hbl hBk hr hg hge⟩
      case measure => simp [intOf]; omega
    · obtain rfl : k = many := by omega
      go_wp2
      (try simp only [Exit.inBlock, Exit.then]); refine bodyPost_end (results_none rfl _ _ _) rfl ?_
      exact ⟨rfl, hP, hB⟩
theorem rd_nat (xs : List Int) {k : Nat} (hk : k < xs.length) : Go.Proofs.YtaedlmeaconflaaGreatW.PrintWords.rd xs (k : Int) = xs[k] := by simp [Go.Proofs.YtaedlmeaconflaaGreatW.PrintWords.rd, List.getD_eq_getElem?_getD, List.getElem?_eq_getElem hk]
def laidIs (l : List Int) : List Int := (l.map laidI).flatten
theorem laidIs_len (l : List Int) : (laidIs l).length = 8 * l.length := by
  induction l with
  | nil => rfl
  | cons x l ih => unfold laidIs at ih ⊢; rw [List.map_cons, List.flatten_cons, List.length_append, ih, laidI_len, List.length_cons]; omega
theorem laidIs_snoc (l : List Int) {k : Nat} (hk : k < l.length) : laidIs (l.take (k + 1)) = laidIs (l.take k) ++ laidI l[k] := by
  unfold laidIs
  rw [List.take_succ_eq_append_getElem hk, List.map_append, List.flatten_append]; simp
def IntA (w : World) (base g : Nat) (xs : List Int) (l : List Int) (kv : Value) (wr : World) : Prop := ∃ k : Nat, kv = .int .i64 k ∧ k ≤ l.length ∧ PenIs wr base g (xs ++ laidIs (l.take k)) ∧ KB base w wr
theorem u64_cast (x : Int) : ((u64 x : Nat) : Int) = x % 18446744073709551616 := by unfold u64; omega
set_option maxHeartbeats 1000000 in
theorem pnInt_any (A : Option Addr) (c : Nat) (l : List Int) (w : World) (h : PenIs w base g xs) (hC : ∀ W, KB base w W → Kd.C (Kd.int .i64) W A l.length l) (hl : xs.length + 8 * l.length ≤ 140000000000000) : Calls Tryz.prog 48 #[ptr g, .slice A l.length c] w fun e w' => e = .returned (.tuple #[]) ∧ PenIs w' base g (xs ++ laidIs l) ∧ KB base w w' := by
  have HC := Lib.hid hC; have H := Lib.hid h; clear h hC
  go_enter Tryz.func48, Tryz.ntmps48
  go_wp2
  go_loopw [8] (fun kv wr => IntA w base g xs l kv wr) (fun k _ => l.length - (intOf k).toNat)
  case atStart => exact ⟨0, rfl, Nat.zero_le _, by simpa [laidIs] using H.out, KB.refl _ _⟩
  case round =>
    obtain ⟨k, rfl, hk, hP, hB⟩ := hrel
    by_cases hlt : k < l.length
    · obtain ⟨ad, rfl, hcell⟩ := Kd.at_int (HC.out wr hB) (k : Int) (by omega) (by omega)
      rw [rd_nat l hlt] at hcell
      simp only [Int.toNat_natCast] at hcell
      have hsn := laidIs_snoc l hlt
      have hY : (xs ++ laidIs (l.take k)).length ≤ 140000000000000 := by rw [List.length_append, laidIs_len, List.length_take]; omega
      have hlow := low_any (u64 l[k]) 8 (by omega) (u64_lt _) wr hP hY
      rw [u64_cast, List.append_assoc, show leBytes 8 (u64 l[k]) = laidI l[k] from rfl, ← hsn] at hlow
      generalize l[k] = x at *
      have HLOW := Lib.hid hlow; have HB := Lib.hid hB
      clear hlow hsn hP hB
      go_wp2_with fail
      refine HLOW.out.mono ?_
      rintro e w1 ⟨rfl, hP1, hB1⟩
      go_wp2_with fail
      go_roundw
      case rel => exact ⟨k + 1, by go_num, by omega, hP1, HB.out.trans hB1⟩
      case measure => simp [intOf]; omega
    · obtain rfl : k = l.length := by omega
      rw [List.take_length] at hP
      go_wp2
      (try simp only [Exit.inBlock, Exit.then]); refine bodyPost_end (results_none rfl _ _ _) rfl ?_
      exact ⟨rfl, hP, hB⟩
end
theorem own_lit0 (W : World) {b : Nat} (hb : b ≤ W.heap.size) : RowB (W.alloc (.cells #[] 5)) b (.slice (some ⟨W.heap.size, 0, none⟩) 0 0) [] :=
  ⟨rfl, .inr ⟨W.heap.size, 0, #[], rfl, hb, heap_alloc_new W _, Nat.le_refl _, Nat.zero_le _, rfl, rfl⟩⟩
set_option maxHeartbeats 1000000 in
theorem bclone_any (A : Option Addr) (c : Nat) (xs : List Int) (w : World) (hr : ReadsInt w .u8 A xs.length xs) (hb : xs.length * 1 ≤ 140737488355328) :
    Calls Tryz.prog 75 #[.slice A xs.length c] w fun e w' => ∃ v, e = .returned v ∧ RowB w' w.heap.size v xs ∧ Below w.heap.size w w' := by
  have q22 : ∀ (w : World) (a : Option Addr) (n c n' c' : Nat), (binOp .eql 23 (.slice a n c) (.slice none n' c')).run Tryz.prog w = .ok (.bool a.isNone) w := fun w a n c n' c' => Lib.run_eql_slice_nil w _ _ a n c n' c' Tryz.underlying23
  rcases A with _ | ad
  · have h0 : xs = [] := by
      rcases xs with _ | ⟨x, xs⟩
      · rfl
      · obtain ⟨_, h, _⟩ := hr.2.2 (by simp)
        cases h
    subst h0
    go_enter Tryz.func75, Tryz.ntmps75
    go_wp2
    go_ret
    exact ⟨_, rfl, ⟨rfl, .inl ⟨rfl, rfl⟩⟩, Below.refl _ _⟩
  · have HR := Lib.hid hr; have HB := Lib.hid hb
    clear hr hb
    go_enter Tryz.func75, Tryz.ntmps75
    go_wp2_with (first | ((with_reducible refine gate_builtin (b := .append) (xs := #[.tmp 5, .tmp 6]) rfl ?_); at_builtin; refine stop_append rfl ?_))
    refine Lib.hid ?_;refine print_append_row (w0 := w) w.heap.size rfl (.tmp 5) (.tmp 6) 23 5 .u8 1 rfl Tryz.underlying23 infoB (by decide) (.slice (some ⟨w.heap.size, 0, none⟩) 0 0) [] xs (some ad) xs.length c rfl rfl (own_lit0 w (Nat.le_refl _)) (HR.out.below ((Below.refl _ _).alloc (Nat.le_refl _) _)) ((Below.refl _ _).alloc (Nat.le_refl _) _) (by simp) (by simpa using HB.out) ?_;intro v1 w1 ho hbl _ _
    simp only [List.nil_append] at ho
    have HO := Lib.hid (And.intro ho hbl)
    obtain ⟨A1, c1, rfl⟩ := own_slice ho
    clear ho hbl
    go_wp2
    go_ret
    exact ⟨_, rfl, HO.out.1, HO.out.2⟩
section
variable {base g : Nat} {xs : List Int}
theorem pnBytes_any (w : World) (h : PenIs w base g xs) (hl : xs.length ≤ 140000000000000) : Calls Tryz.prog 50 #[ptr g] w fun e w' => ∃ v, e = .returned v ∧ RowB w' w.heap.size v xs ∧ Below w.heap.size w w' := by
  obtain ⟨v, hB, hr, hn⟩ := h.ex
  obtain ⟨A, c, rfl, hrd⟩ := own_reads hr
  have hc0 : w.cell? ⟨g, 0, none⟩ = some (.slice A xs.length c) := hB.cell 0
  have hcl := bclone_any A c xs w hrd (by omega)
  have HCL := Lib.hid hcl
  clear h hB hr hn hrd hcl
  go_enter Tryz.func50, Tryz.ntmps50
  go_wp2_with fail
  refine HCL.out.mono ?_
  rintro e w1 ⟨v1, rfl, ho, hb⟩
  have HO := Lib.hid (And.intro ho hb)
  obtain ⟨A1, c1, rfl⟩ := own_slice ho
  clear ho hb
  go_wp2
  go_ret
  exact ⟨_, rfl, HO.out.1, HO.out.2⟩
end
end Go.Proofs.YtaedlmeaconflaaGreat.P
end
section
set_option linter.unusedVariables false
set_option linter.unusedSimpArgs false
namespace Go.Proofs.YtaedlmeaconflaaGreat.P
open Go.RowKit
def LastPost (P : Program) (ops : Array Oper) (o : Oper) (Q : Exit → Act → World → Prop) : Exit → Act → World → Prop
  | .normal, a, w => wpList P ops Q [o] a w
  | e, a, w => Q e a w
theorem lastPost_wp {P : Program} {ops : Array Oper} {o : Oper} {Q : Exit → Act → World → Prop} {a : Act} {w : World} (h : wpList P ops Q [o] a w) : LastPost P ops o Q .normal a w := h
def lastOk (l : List Oper) (o : Oper) : Bool :=
  (List.range l.length).all (fun i => match l[i]? with
    | some x => x.after.toList.all (fun e => decide (e.on < i)) && (match x.guard with | none => true | some (j, _) => decide (j < l.length))
    | none => true) &&
  (List.range l.length).all (fun j => o.after.toList.any (fun e => e.on == j && Region.binds .any e) || (List.range l.length).any (fun k => decide (j < k) && (match l[k]? with | some x => x.after.toList.any (fun e => e.on == j && Region.binds .any e) | none => false))) &&
  o.after.toList.all (fun e => decide (e.on < l.length)) && (match o.guard with | none => true | some _ => false)
structure LastOk (l : List Oper) (o : Oper) : Prop where
  low : ∀ (i : Nat) (x : Oper), l[i]? = some x → ∀ e ∈ x.after, e.on < i
  guard : ∀ (i : Nat) (x : Oper), l[i]? = some x → ∀ (j : Nat) (b : Bool), x.guard = some (j, b) → j < l.length
  all : ∀ j, j < l.length → (∃ e ∈ o.after, e.on = j ∧ Region.binds .any e = true) ∨ ∃ k x, j < k ∧ l[k]? = some x ∧ ∃ e ∈ x.after, e.on = j ∧ Region.binds .any e = true
  lt : ∀ e ∈ o.after, e.on < l.length
  ng : o.guard = none
theorem LastOk.of {l : List Oper} {o : Oper} (h : lastOk l o = true) : LastOk l o := by
  simp only [lastOk, Bool.and_eq_true, List.all_eq_true, List.any_eq_true, List.mem_range, Array.mem_toList_iff, decide_eq_true_eq, beq_iff_eq, Bool.or_eq_true] at h
  obtain ⟨⟨⟨h1, h2⟩, h3⟩, h4⟩ := h
  refine ⟨fun i x hx => ?_, fun i x hx j b hg => ?_, fun j hj => ?_, h3, ?_⟩
  · have := h1 i (List.getElem?_eq_some_iff.1 hx).1
    rw [hx] at this
    simp only [Bool.and_eq_true, List.all_eq_true, Array.mem_toList_iff, decide_eq_true_eq] at this
    exact this.1
  · have := h1 i (List.getElem?_eq_some_iff.1 hx).1
    rw [hx] at this
    simp only [Bool.and_eq_true, hg, decide_eq_true_eq] at this
    exact this.2
  · rcases h2 j hj with ⟨e, he, h, k⟩ | ⟨k, hk, hjk, hx⟩
    · exact .inl ⟨e, he, h, k⟩
    · right
      rw [List.getElem?_eq_getElem hk] at hx
      simp only [List.any_eq_true, Array.mem_toList_iff, Bool.and_eq_true, beq_iff_eq] at hx
      exact ⟨k, l[k], hjk, List.getElem?_eq_getElem hk, hx⟩
  · revert h4; cases o.guard <;> simp
section
variable {P : Program} {l : List Oper} {o : Oper} {Q : Exit → Act → World → Prop}
theorem lastPost_out (h : LetsOut (LastPost P (l ++ [o]).toArray o Q)) : LetsOut Q := h
theorem oper_post {x : Oper} {a : Act} {w : World} {K : Act → World → Prop} {Q' : Exit → Act → World → Prop} (hp : ∀ c a w, Q' (.panic c) a w → Q (.panic c) a w) (ho : LetsOut Q' → LetsOut Q)
    (hh : x.wp P a w K Q') : x.wp P a w K Q := by
  unfold Oper.wp at *
  generalize (execOp a.eval x).run P w = r at *
  cases r with
  | ok n w' =>
    cases n <;> simp only [Oper.upon] at hh ⊢ <;>
      first
        | exact hh
        | exact Calls.mono hh (fun e w'' he => by cases e <;> first | exact he | exact hp _ _ _ he | exact ho he)
  | halt y w' => cases y <;> simp only [Oper.upon] at hh ⊢ <;> first | exact hh | exact hp _ _ _ hh
theorem all_listed (hok : LastOk l o) {listed : Array Bool} (hs : listed.size = l.length) (h : Region.ready .any l.toArray listed = []) : ∀ i, i < l.length → listed.getD i false = true := by
  intro i
  induction i using Nat.strongRecOn with
  | _ i ih =>
    intro hi
    by_cases hl : listed.getD i false = true
    · exact hl
    · have hx := List.getElem?_eq_getElem hi
      have : i ∈ Region.ready .any l.toArray listed := by
        rw [mem_ready]
        refine ⟨?_, l[i], (by simp [hi]), fun e he _ => ih e.on (hok.low i _ hx e he) (by have := hok.low i _ hx e he; omega)⟩
        simp only [Array.getD_eq_getD_getElem?, Array.getElem?_eq_getElem (show i < listed.size by omega), Option.getD_some] at hl ⊢
        simpa using hl
      rw [h] at this; cases this
theorem push_getD {listed : Array Bool} {i : Nat} (hi : i < listed.size) (b d : Bool) : (listed.push b).getD i d = listed.getD i d := by
  simp [Array.getD_eq_getD_getElem?, Array.getElem?_push, Nat.ne_of_lt hi]
theorem ready_old (hok : LastOk l o) {listed : Array Bool} (hs : listed.size = l.length) {i : Nat} (hi : i < l.length) (h : i ∈ Region.ready .any (l ++ [o]).toArray (listed.push false)) : i ∈ Region.ready .any l.toArray listed := by
  rw [mem_ready] at h ⊢
  obtain ⟨h1, x, hx, h2⟩ := h
  rw [push_getD (by omega)] at h1
  have hx' : l[i]? = some x := by simpa [List.getElem?_append_left hi] using hx
  refine ⟨h1, x, by simpa using hx', fun e he hb => ?_⟩
  have := h2 e he hb
  rwa [push_getD (by have := hok.low i x hx' e he; omega)] at this
theorem old_ready (hok : LastOk l o) {listed : Array Bool} (hs : listed.size = l.length) {i : Nat} (h : i ∈ Region.ready .any l.toArray listed) : i ∈ Region.ready .any (l ++ [o]).toArray (listed.push false) := by
  rw [mem_ready] at h ⊢
  obtain ⟨h1, x, hx, h2⟩ := h
  have hi : i < l.length := by have := (Array.getElem?_eq_some_iff.1 hx).1; simpa using this
  have hx' : l[i]? = some x := by simpa using hx
  refine ⟨by rw [push_getD (by omega)]; exact h1, x, by simpa [List.getElem?_append_left hi] using hx', fun e he hb => ?_⟩
  rw [push_getD (by have := hok.low i x hx' e he; omega)]
  exact h2 e he hb
def Closed (l : List Oper) (listed : Array Bool) : Prop := ∀ i x, l[i]? = some x → listed.getD i false = true → ∀ e ∈ x.after, Region.binds .any e = true → listed.getD e.on false = true
theorem closed_set {listed : Array Bool} (hc : Closed l listed) {i : Nat} (hi : i ∈ Region.ready .any l.toArray listed) : Closed l (listed.setIfInBounds i true) := by
  intro j x hx hj e he hb
  obtain ⟨_, y, hy, h2⟩ := mem_ready.1 hi
  have hy' : l[i]? = some y := by simpa using hy
  by_cases hij : i = j
  · subst hij
    rw [hx] at hy'
    injection hy' with hy'
    subst hy'
    exact getD_set_true (h2 e he hb)
  · rw [getD_set_ne false hij] at hj
    exact getD_set_true (hc j x hx hj e he hb)
theorem ready_last (hok : LastOk l o) {listed : Array Bool} (hs : listed.size = l.length) (hc : Closed l listed) : l.length ∈ Region.ready .any (l ++ [o]).toArray (listed.push false) ↔ ∀ i, i < l.length → listed.getD i false = true := by
  rw [mem_ready]
  constructor
  · rintro ⟨_, x, hx, h⟩
    have : x = o := by simp at hx; exact hx.symm
    subst this
    have key : ∀ d i, i < l.length → l.length - i ≤ d → listed.getD i false = true := by
      intro d
      induction d with
      | zero => intro i hi hd; omega
      | succ d ih =>
        intro i hi hd
        rcases hok.all i hi with ⟨e, he, rfl, hb⟩ | ⟨k, y, hk, hy, e, he, rfl, hb⟩
        · have := h e he hb
          rwa [push_getD (by omega)] at this
        · have hkl := (List.getElem?_eq_some_iff.1 hy).1
          exact hc k y hy (ih k hkl (by omega)) e he hb
    exact fun i hi => key _ i hi (Nat.le_refl _)
  · intro h
    refine ⟨by simp [Array.getD_eq_getD_getElem?, ← hs], o, by simp, fun e he _ => ?_⟩
    rw [push_getD (by have := hok.lt e he; omega)]
    exact h _ (hok.lt e he)
theorem ready_end {listed : Array Bool} (hs : listed.size = l.length) (h : ∀ i, i < l.length → listed.getD i false = true) : Region.ready .any (l ++ [o]).toArray ((listed.push false).setIfInBounds l.length true) = [] := by
  apply List.eq_nil_iff_forall_not_mem.2
  intro i hi
  rw [mem_ready] at hi
  obtain ⟨h1, x, hx, _⟩ := hi
  have hlt : i < l.length + 1 := by have := (Array.getElem?_eq_some_iff.1 hx).1; simpa using this
  have e : (listed.push false).setIfInBounds l.length true = listed.push true := by
    apply Array.ext_getElem?
    intro j;simp only [Array.getElem?_setIfInBounds, Array.getElem?_push, Array.size_push]
    by_cases hj : l.length = j
    · subst hj; simp [hs]
    · simp [hj, show ¬ j = listed.size by omega]
  rw [e] at h1
  rcases Nat.lt_or_ge i l.length with hl | hl
  · rw [push_getD (by omega)] at h1
    have := h i hl
    simp only [Array.getD_eq_getD_getElem?, Array.getElem?_eq_getElem (show i < listed.size by omega), Option.getD_some] at h1 this
    rw [this] at h1; cases h1
  · have : i = listed.size := by omega
    subst this
    simp [Array.getD_eq_getD_getElem?] at h1
theorem wpOp_last (_hok : LastOk l o) {K : Act → World → Prop} {a : Act} {w : World} (h : wpList P (l ++ [o]).toArray Q [o] a w) (hK : ∀ a w, Q .normal a w → K a w) : wpOp P (l ++ [o]).toArray Q l.length K a w := by
  unfold wpOp
  have e : (l ++ [o]).toArray[l.length]? = some o := by simp
  rw [e]
  have hw : Region.wanted o (yielded (l ++ [o]).toArray a.tmps) = true := by simp [Region.wanted, _hok.ng]
  simp only [wpList, hw, if_true] at h ⊢
  exact h.imp (Oper.wp_mono fun a w h => hK a w h) id
theorem wpOp_old (hok : LastOk l o) {K K' : Act → World → Prop} {a : Act} {w : World} {i : Nat} (hi : i < l.length) (hK : ∀ a w, K a w → K' a w) (h : wpOp P l.toArray (LastPost P (l ++ [o]).toArray o Q) i K a w) :
    wpOp P (l ++ [o]).toArray Q i K' a w := by
  unfold wpOp at h ⊢
  have hx := List.getElem?_eq_getElem hi
  have e1 : l.toArray[i]? = some l[i] := by simp [hi]
  have e2 : (l ++ [o]).toArray[i]? = some l[i] := by simp [List.getElem?_append_left hi, hi]
  rw [e1] at h
  rw [e2]
  have hy : Region.wanted l[i] (yielded (l ++ [o]).toArray a.tmps) = Region.wanted l[i] (yielded l.toArray a.tmps) := by
    unfold Region.wanted
    split
    · rfl
    · rename_i j b hg
      have hj := hok.guard i _ hx j b hg
      have : yielded (l ++ [o]).toArray a.tmps j = yielded l.toArray a.tmps j := by
        unfold yielded
        rw [show (l ++ [o]).toArray[j]? = l.toArray[j]? from by simp [List.getElem?_append_left hj]]
      rw [this]
  simp only [hy]
  split
  · rename_i hw
    simp only [hw, if_true] at h
    rcases h with h | h
    · exact .inl (oper_post (Q' := LastPost P (l ++ [o]).toArray o Q) (fun _ _ _ h => h) lastPost_out (Oper.wp_mono hK h))
    · exact .inr ⟨h.1, lastPost_out h.2⟩
  · rename_i hw
    simp only [hw] at h
    exact hK _ _ h
theorem wpAny_last (hok : LastOk l o) : ∀ (fuel : Nat) (listed : Array Bool) (a : Act) (w : World), listed.size = l.length → Closed l listed → wpAny P .any l.toArray (LastPost P (l ++ [o]).toArray o Q) fuel listed a w →
    wpAny P .any (l ++ [o]).toArray Q (fuel + 1) (listed.push false) a w := by
  intro fuel
  induction fuel with
  | zero =>
    intro listed a w hs hc h
    obtain ⟨h1, h2⟩ := h
    have hall := all_listed hok hs h1
    have hin := (ready_last hok hs hc).2 hall
    refine ⟨fun h0 => (by rw [h0] at hin; cases hin), fun i hi => ?_⟩
    have hlt : i < l.length + 1 := by
      obtain ⟨_, x, hx, _⟩ := mem_ready.1 hi
      have := (Array.getElem?_eq_some_iff.1 hx).1; simpa using this
    rcases Nat.lt_or_ge i l.length with hl | hl
    · have := ready_old hok hs hl hi
      rw [h1] at this; cases this
    · obtain rfl : i = l.length := by omega
      exact wpOp_last hok h2 (fun a w h => ⟨ready_end hs hall, h⟩)
  | succ fuel ih =>
    intro listed a w hs hc h
    obtain ⟨h1, h2⟩ := h
    refine ⟨fun h0 => ?_, fun i hi => ?_⟩
    · by_cases hr : Region.ready .any l.toArray listed = []
      · have hin := (ready_last hok hs hc).2 (all_listed hok hs hr)
        rw [h0] at hin; cases hin
      · obtain ⟨j, hj⟩ := List.exists_mem_of_ne_nil _ hr
        have := old_ready hok hs hj
        rw [h0] at this; cases this
    · have hlt : i < l.length + 1 := by
        obtain ⟨_, x, hx, _⟩ := mem_ready.1 hi
        have := (Array.getElem?_eq_some_iff.1 hx).1; simpa using this
      rcases Nat.lt_or_ge i l.length with hl | hl
      · refine wpOp_old hok hl (fun a w h => ?_) (h2 i (ready_old hok hs hl hi))
        have e : (listed.push false).setIfInBounds i true = (listed.setIfInBounds i true).push false := by
          apply Array.ext_getElem?
          intro j;simp only [Array.getElem?_setIfInBounds, Array.getElem?_push, Array.size_push, Array.size_setIfInBounds]
          by_cases hj : i = j
          · subst hj; simp [show i < listed.size by omega, show ¬ i = listed.size by omega, show i < listed.size + 1 by omega]
          · simp [hj]
        rw [e]
        exact ih _ a w (by simpa using hs) (closed_set hc (ready_old hok hs hl hi)) h
      · obtain rfl : i = l.length := by omega
        have hall := (ready_last hok hs hc).1 hi
        have hr : Region.ready .any l.toArray listed = [] := by
          apply List.eq_nil_iff_forall_not_mem.2
          intro j hj
          obtain ⟨h0, x, hx, _⟩ := mem_ready.1 hj
          have hjl : j < l.length := by have := (Array.getElem?_eq_some_iff.1 hx).1; simpa using this
          have := hall j hjl
          simp only [Array.getD_eq_getD_getElem?, Array.getElem?_eq_getElem (show j < listed.size by omega), Option.getD_some] at h0 this
          rw [this] at h0; cases h0
        exact wpOp_last hok (h1 hr) (fun a w h => ⟨fun _ => h, fun j hj => by rw [ready_end hs hall] at hj; cases hj⟩)
theorem wp_region_last {id : Nat} {a : Act} {w : World} (hm : P.follows .mixedOrders = true) (hk : lastOk l o = true)
    (h : wpAny P .any l.toArray (LastPost P (l ++ [o]).toArray o Q) l.length (Array.replicate l.length false) a { w with drawn := w.drawn + 1 }) : (Code.region id (l ++ [o]).toArray true).wp P Q a w := by
  refine wp_region_any hm ?_
  have := wpAny_last (LastOk.of hk) l.length (Array.replicate l.length false) a _ (by simp) (fun i x hx hi => by simp [Array.getD_eq_getD_getElem?, Array.getElem?_replicate] at hi; split at hi <;> simp at hi) h
  have e : Array.replicate (l ++ [o]).toArray.size false = (Array.replicate l.length false).push false := by
    simp [Array.replicate_succ]
  rw [e]
  simpa using this
end
theorem cellA {W : World} {a : Addr} {v : Value} (h : W.cell? a = some v) (o : Obj) : (W.alloc o).cell? a = some v :=
  (World.cell?_of_block (w := W) (Below.heap_alloc W o a.block (World.block_lt_of_cell? W _ h))).trans h
theorem cellG {W w1 : World} {row : Option Nat} (hg : W.grownBy w1 row) {a : Addr} {v : Value} (hn : some a.block ≠ row) (h : W.cell? a = some v) : w1.cell? a = some v :=
  (World.cell?_of_block (w := W) (hg.block a.block (World.block_lt_of_cell? W _ h) hn)).trans h
end Go.Proofs.YtaedlmeaconflaaGreat.P
end
section
set_option linter.unusedVariables false
set_option linter.unusedSimpArgs false
namespace Go.Proofs.YtaedlmeaconflaaGreat.P
open Go.RowKit
def lastOk2 (l : List Oper) (o : Oper) : Bool :=
  (List.range l.length).all (fun i => match l[i]? with
    | some x => x.after.toList.all (fun e => !Region.binds .any e || decide (e.on < i)) && (match x.guard with | none => true | some (j, _) => decide (j < l.length))
    | none => true) &&
  (List.range l.length).all (fun j => o.after.toList.any (fun e => e.on == j && Region.binds .any e) || (List.range l.length).any (fun k => decide (j < k) && (match l[k]? with | some x => x.after.toList.any (fun e => e.on == j && Region.binds .any e) | none => false))) &&
  o.after.toList.all (fun e => !Region.binds .any e || decide (e.on < l.length))
structure LastOk2 (l : List Oper) (o : Oper) : Prop where
  low : ∀ (i : Nat) (x : Oper), l[i]? = some x → ∀ e ∈ x.after, Region.binds .any e = true → e.on < i
  guard : ∀ (i : Nat) (x : Oper), l[i]? = some x → ∀ (j : Nat) (b : Bool), x.guard = some (j, b) → j < l.length
  all : ∀ j, j < l.length → (∃ e ∈ o.after, e.on = j ∧ Region.binds .any e = true) ∨ ∃ k x, j < k ∧ l[k]? = some x ∧ ∃ e ∈ x.after, e.on = j ∧ Region.binds .any e = true
  lt : ∀ e ∈ o.after, Region.binds .any e = true → e.on < l.length
theorem LastOk2.of {l : List Oper} {o : Oper} (h : lastOk2 l o = true) : LastOk2 l o := by
  simp only [lastOk2, Bool.and_eq_true, List.all_eq_true, List.any_eq_true, List.mem_range, Array.mem_toList_iff, decide_eq_true_eq, beq_iff_eq, Bool.or_eq_true] at h
  obtain ⟨⟨h1, h2⟩, h3⟩ := h
  refine ⟨fun i x hx => ?_, fun i x hx j b hg => ?_, fun j hj => ?_, fun e he hb => by have := h3 e he; simpa [hb] using this⟩
  · have := h1 i (List.getElem?_eq_some_iff.1 hx).1
    rw [hx] at this
    simp only [Bool.and_eq_true, List.all_eq_true, Array.mem_toList_iff] at this
    exact fun e he hb => by have := this.1 e he; simpa [hb] using this
  · have := h1 i (List.getElem?_eq_some_iff.1 hx).1
    rw [hx] at this
    simp only [Bool.and_eq_true, hg, decide_eq_true_eq] at this
    exact this.2
  · rcases h2 j hj with ⟨e, he, h, k⟩ | ⟨k, hk, hjk, hx⟩
    · exact .inl ⟨e, he, h, k⟩
    · right
      rw [List.getElem?_eq_getElem hk] at hx
      simp only [List.any_eq_true, Array.mem_toList_iff, Bool.and_eq_true, beq_iff_eq] at hx
      exact ⟨k, l[k], hjk, List.getElem?_eq_getElem hk, hx⟩
section
variable {P : Program} {l : List Oper} {o : Oper} {Q : Exit → Act → World → Prop}
theorem lastPost_out2 (h : LetsOut (LastPost P (l ++ [o]).toArray o Q)) : LetsOut Q := h
theorem oper_post2 {x : Oper} {a : Act} {w : World} {K : Act → World → Prop} {Q' : Exit → Act → World → Prop} (hp : ∀ c a w, Q' (.panic c) a w → Q (.panic c) a w) (ho : LetsOut Q' → LetsOut Q)
    (hh : x.wp P a w K Q') : x.wp P a w K Q := by
  unfold Oper.wp at *
  generalize (execOp a.eval x).run P w = r at *
  cases r with
  | ok n w' =>
    cases n <;> simp only [Oper.upon] at hh ⊢ <;>
      first
        | exact hh
        | exact Calls.mono hh (fun e w'' he => by cases e <;> first | exact he | exact hp _ _ _ he | exact ho he)
  | halt y w' => cases y <;> simp only [Oper.upon] at hh ⊢ <;> first | exact hh | exact hp _ _ _ hh
theorem all_listed2 (hok : LastOk2 l o) {listed : Array Bool} (hs : listed.size = l.length) (h : Region.ready .any l.toArray listed = []) : ∀ i, i < l.length → listed.getD i false = true := by
  intro i
  induction i using Nat.strongRecOn with
  | _ i ih =>
    intro hi
    by_cases hl : listed.getD i false = true
    · exact hl
    · have hx := List.getElem?_eq_getElem hi
      have : i ∈ Region.ready .any l.toArray listed := by
        rw [mem_ready]
        refine ⟨?_, l[i], (by simp [hi]), fun e he hb => ih e.on (hok.low i _ hx e he hb) (by have := hok.low i _ hx e he hb; omega)⟩
        simp only [Array.getD_eq_getD_getElem?, Array.getElem?_eq_getElem (show i < listed.size by omega), Option.getD_some] at hl ⊢
        simpa using hl
      rw [h] at this; cases this
theorem push_getD2 {listed : Array Bool} {i : Nat} (hi : i < listed.size) (b d : Bool) : (listed.push b).getD i d = listed.getD i d := by
  simp [Array.getD_eq_getD_getElem?, Array.getElem?_push, Nat.ne_of_lt hi]
theorem ready_old2 (hok : LastOk2 l o) {listed : Array Bool} (hs : listed.size = l.length) {i : Nat} (hi : i < l.length) (h : i ∈ Region.ready .any (l ++ [o]).toArray (listed.push false)) : i ∈ Region.ready .any l.toArray listed := by
  rw [mem_ready] at h ⊢
  obtain ⟨h1, x, hx, h2⟩ := h
  rw [push_getD2 (by omega)] at h1
  have hx' : l[i]? = some x := by simpa [List.getElem?_append_left hi] using hx
  refine ⟨h1, x, by simpa using hx', fun e he hb => ?_⟩
  have := h2 e he hb
  rwa [push_getD2 (by have := hok.low i x hx' e he hb; omega)] at this
theorem old_ready2 (hok : LastOk2 l o) {listed : Array Bool} (hs : listed.size = l.length) {i : Nat} (h : i ∈ Region.ready .any l.toArray listed) : i ∈ Region.ready .any (l ++ [o]).toArray (listed.push false) := by
  rw [mem_ready] at h ⊢
  obtain ⟨h1, x, hx, h2⟩ := h
  have hi : i < l.length := by have := (Array.getElem?_eq_some_iff.1 hx).1; simpa using this
  have hx' : l[i]? = some x := by simpa using hx
  refine ⟨by rw [push_getD2 (by omega)]; exact h1, x, by simpa [List.getElem?_append_left hi] using hx', fun e he hb => ?_⟩
  rw [push_getD2 (by have := hok.low i x hx' e he hb; omega)]
  exact h2 e he hb
def Closed2 (l : List Oper) (listed : Array Bool) : Prop := ∀ i x, l[i]? = some x → listed.getD i false = true → ∀ e ∈ x.after, Region.binds .any e = true → listed.getD e.on false = true
theorem closed_set2 {listed : Array Bool} (hc : Closed2 l listed) {i : Nat} (hi : i ∈ Region.ready .any l.toArray listed) : Closed2 l (listed.setIfInBounds i true) := by
  intro j x hx hj e he hb
  obtain ⟨_, y, hy, h2⟩ := mem_ready.1 hi
  have hy' : l[i]? = some y := by simpa using hy
  by_cases hij : i = j
  · subst hij
    rw [hx] at hy'
    injection hy' with hy'
    subst hy'
    exact getD_set_true (h2 e he hb)
  · rw [getD_set_ne false hij] at hj
    exact getD_set_true (hc j x hx hj e he hb)
theorem ready_last2 (hok : LastOk2 l o) {listed : Array Bool} (hs : listed.size = l.length) (hc : Closed2 l listed) : l.length ∈ Region.ready .any (l ++ [o]).toArray (listed.push false) ↔ ∀ i, i < l.length → listed.getD i false = true := by
  rw [mem_ready]
  constructor
  · rintro ⟨_, x, hx, h⟩
    have : x = o := by simp at hx; exact hx.symm
    subst this
    have key : ∀ d i, i < l.length → l.length - i ≤ d → listed.getD i false = true := by
      intro d
      induction d with
      | zero => intro i hi hd; omega
      | succ d ih =>
        intro i hi hd
        rcases hok.all i hi with ⟨e, he, rfl, hb⟩ | ⟨k, y, hk, hy, e, he, rfl, hb⟩
        · have := h e he hb
          rwa [push_getD2 (by omega)] at this
        · have hkl := (List.getElem?_eq_some_iff.1 hy).1
          exact hc k y hy (ih k hkl (by omega)) e he hb
    exact fun i hi => key _ i hi (Nat.le_refl _)
  · intro h
    refine ⟨by simp [Array.getD_eq_getD_getElem?, ← hs], o, by simp, fun e he hb => ?_⟩
    rw [push_getD2 (by have := hok.lt e he hb; omega)]
    exact h _ (hok.lt e he hb)
theorem ready_end2 {listed : Array Bool} (hs : listed.size = l.length) (h : ∀ i, i < l.length → listed.getD i false = true) : Region.ready .any (l ++ [o]).toArray ((listed.push false).setIfInBounds l.length true) = [] := by
  apply List.eq_nil_iff_forall_not_mem.2
  intro i hi
  rw [mem_ready] at hi
  obtain ⟨h1, x, hx, _⟩ := hi
  have hlt : i < l.length + 1 := by have := (Array.getElem?_eq_some_iff.1 hx).1; simpa using this
  have e : (listed.push false).setIfInBounds l.length true = listed.push true := by
    apply Array.ext_getElem?
    intro j;simp only [Array.getElem?_setIfInBounds, Array.getElem?_push, Array.size_push]
    by_cases hj : l.length = j
    · subst hj; simp [hs]
    · simp [hj, show ¬ j = listed.size by omega]
  rw [e] at h1
  rcases Nat.lt_or_ge i l.length with hl | hl
  · rw [push_getD2 (by omega)] at h1
    have := h i hl
    simp only [Array.getD_eq_getD_getElem?, Array.getElem?_eq_getElem (show i < listed.size by omega), Option.getD_some] at h1 this
    rw [this] at h1; cases h1
  · have : i = listed.size := by omega
    subst this
    simp [Array.getD_eq_getD_getElem?] at h1
theorem wpOp_last2 {K : Act → World → Prop} {a : Act} {w : World} (h : wpList P (l ++ [o]).toArray Q [o] a w) (hK : ∀ a w, Q .normal a w → K a w) : wpOp P (l ++ [o]).toArray Q l.length K a w := by
  unfold wpOp
  have e : (l ++ [o]).toArray[l.length]? = some o := by simp
  rw [e]
  by_cases hw : Region.wanted o (yielded (l ++ [o]).toArray a.tmps) = true
  · simp only [wpList, hw, if_true] at h ⊢
    exact h.imp (Oper.wp_mono fun a w h => hK a w h) id
  · have hw' : Region.wanted o (yielded (l ++ [o]).toArray a.tmps) = false := by simpa using hw
    simp only [wpList, hw'] at h ⊢
    exact hK _ _ h
theorem wpOp_old2 (hok : LastOk2 l o) {K K' : Act → World → Prop} {a : Act} {w : World} {i : Nat} (hi : i < l.length) (hK : ∀ a w, K a w → K' a w) (h : wpOp P l.toArray (LastPost P (l ++ [o]).toArray o Q) i K a w) :
    wpOp P (l ++ [o]).toArray Q i K' a w := by
  unfold wpOp at h ⊢
  have hx := List.getElem?_eq_getElem hi
  have e1 : l.toArray[i]? = some l[i] := by simp [hi]
  have e2 : (l ++ [o]).toArray[i]? = some l[i] := by simp [List.getElem?_append_left hi, hi]
  rw [e1] at h
  rw [e2]
  have hy : Region.wanted l[i] (yielded (l ++ [o]).toArray a.tmps) = Region.wanted l[i] (yielded l.toArray a.tmps) := by
    unfold Region.wanted
    split
    · rfl
    · rename_i j b hg
      have hj := hok.guard i _ hx j b hg
      have : yielded (l ++ [o]).toArray a.tmps j = yielded l.toArray a.tmps j := by
        unfold yielded
        rw [show (l ++ [o]).toArray[j]? = l.toArray[j]? from by simp [List.getElem?_append_left hj]]
      rw [this]
  simp only [hy]
  split
  · rename_i hw
    simp only [hw, if_true] at h
    rcases h with h | h
    · exact .inl (oper_post2 (Q' := LastPost P (l ++ [o]).toArray o Q) (fun _ _ _ h => h) lastPost_out2 (Oper.wp_mono hK h))
    · exact .inr ⟨h.1, lastPost_out2 h.2⟩
  · rename_i hw
    simp only [hw] at h
    exact hK _ _ h
theorem wpAny_last2 (hok : LastOk2 l o) : ∀ (fuel : Nat) (listed : Array Bool) (a : Act) (w : World), listed.size = l.length → Closed2 l listed → wpAny P .any l.toArray (LastPost P (l ++ [o]).toArray o Q) fuel listed a w →
    wpAny P .any (l ++ [o]).toArray Q (fuel + 1) (listed.push false) a w := by
  intro fuel
  induction fuel with
  | zero =>
    intro listed a w hs hc h
    obtain ⟨h1, h2⟩ := h
    have hall := all_listed2 hok hs h1
    have hin := (ready_last2 hok hs hc).2 hall
    refine ⟨fun h0 => (by rw [h0] at hin; cases hin), fun i hi => ?_⟩
    have hlt : i < l.length + 1 := by
      obtain ⟨_, x, hx, _⟩ := mem_ready.1 hi
      have := (Array.getElem?_eq_some_iff.1 hx).1; simpa using this
    rcases Nat.lt_or_ge i l.length with hl | hl
    · have := ready_old2 hok hs hl hi
      rw [h1] at this; cases this
    · obtain rfl : i = l.length := by omega
      exact wpOp_last2 h2 (fun a w h => ⟨ready_end2 hs hall, h⟩)
  | succ fuel ih =>
    intro listed a w hs hc h
    obtain ⟨h1, h2⟩ := h
    refine ⟨fun h0 => ?_, fun i hi => ?_⟩
    · by_cases hr : Region.ready .any l.toArray listed = []
      · have hin := (ready_last2 hok hs hc).2 (all_listed2 hok hs hr)
        rw [h0] at hin; cases hin
      · obtain ⟨j, hj⟩ := List.exists_mem_of_ne_nil _ hr
        have := old_ready2 hok hs hj
        rw [h0] at this; cases this
    · have hlt : i < l.length + 1 := by
        obtain ⟨_, x, hx, _⟩ := mem_ready.1 hi
        have := (Array.getElem?_eq_some_iff.1 hx).1; simpa using this
      rcases Nat.lt_or_ge i l.length with hl | hl
      · refine wpOp_old2 hok hl (fun a w h => ?_) (h2 i (ready_old2 hok hs hl hi))
        have e : (listed.push false).setIfInBounds i true = (listed.setIfInBounds i true).push false := by
          apply Array.ext_getElem?
          intro j;simp only [Array.getElem?_setIfInBounds, Array.getElem?_push, Array.size_push, Array.size_setIfInBounds]
          by_cases hj : i = j
          · subst hj; simp [show i < listed.size by omega, show ¬ i = listed.size by omega, show i < listed.size + 1 by omega]
          · simp [hj]
        rw [e]
        exact ih _ a w (by simpa using hs) (closed_set2 hc (ready_old2 hok hs hl hi)) h
      · obtain rfl : i = l.length := by omega
        have hall := (ready_last2 hok hs hc).1 hi
        have hr : Region.ready .any l.toArray listed = [] := by
          apply List.eq_nil_iff_forall_not_mem.2
          intro j hj
          obtain ⟨h0, x, hx, _⟩ := mem_ready.1 hj
          have hjl : j < l.length := by have := (Array.getElem?_eq_some_iff.1 hx).1; simpa using this
          have := hall j hjl
          simp only [Array.getD_eq_getD_getElem?, Array.getElem?_eq_getElem (show j < listed.size by omega), Option.getD_some] at h0 this
          rw [this] at h0; cases h0
        exact wpOp_last2 (h1 hr) (fun a w h => ⟨fun _ => h, fun j hj => by rw [ready_end2 hs hall] at hj; cases hj⟩)
theorem wpAny_last2' (hok : lastOk2 l o = true) {m : Nat} (hm : m = l.length + 1) {a : Act} {w : World} (h : wpAny P .any l.toArray (LastPost P (l ++ [o]).toArray o Q) l.length (Array.replicate l.length false) a w) : wpAny P .any (l ++ [o]).toArray Q m (Array.replicate m false) a w := by
  subst hm
  have := wpAny_last2 (LastOk2.of hok) l.length (Array.replicate l.length false) a _ (by simp) (fun i x hx hi => by simp [Array.getD_eq_getD_getElem?, Array.getElem?_replicate] at hi; split at hi <;> simp at hi) h
  have e : Array.replicate (l.length + 1) false = (Array.replicate l.length false).push false := by
    simp [Array.replicate_succ]
  rw [e]
  exact this
theorem wp_region_last1_held {id : Nat} {a : Act} {w : World} (S : World → Prop) (hm : P.follows .mixedOrders = true) (h1 : lastOk2 l o = true)
    (h : wpAnyH P .any l.toArray (LastPost P (l ++ [o]).toArray o Q) S l.length (Array.replicate l.length false) a w.drew) : (Code.region id (l ++ [o]).toArray true).wp P Q a w := by
  refine wp_region_any hm ?_;refine wpAny_last2' h1 (by simp) ?_
  exact wpAny_of_held _ _ _ _ h
theorem wp_region_last3_held {o1 o2 o3 : Oper} {id : Nat} {a : Act} {w : World} (S : World → Prop) (hm : P.follows .mixedOrders = true) (h1 : lastOk2 l o1 = true) (h2 : lastOk2 (l ++ [o1]) o2 = true) (h3 : lastOk2 (l ++ [o1] ++ [o2]) o3 = true)
    (h : wpAnyH P .any l.toArray (LastPost P (l ++ [o1]).toArray o1 (LastPost P (l ++ [o1] ++ [o2]).toArray o2 (LastPost P (l ++ [o1] ++ [o2] ++ [o3]).toArray o3 Q))) S l.length (Array.replicate l.length false) a w.drew) : (Code.region id (l ++ [o1] ++ [o2] ++ [o3]).toArray true).wp P Q a w := by
  refine wp_region_any hm ?_;refine wpAny_last2' h3 (by simp) ?_;refine wpAny_last2' h2 (by simp) ?_;refine wpAny_last2' h1 (by simp) ?_
  exact wpAny_of_held _ _ _ _ h
end
end Go.Proofs.YtaedlmeaconflaaGreat.P
end
section
set_option linter.unusedVariables false
set_option linter.unusedSimpArgs false
namespace Go.Proofs.YtaedlmeaconflaaGreat.P
open Go.RowKit Go.Sort Go.Proofs.YtaedlmeaconflaaGreatW.PrintWords Go.Proofs.YtaedlmeaconflaaGreatW.PrintLast Go.Proofs.YtaedlmeaconflaaGreatW.PrintMore
def cmpZ (x y : Int) : Int := if x < y then -1 else if y < x then 1 else 0
theorem cmpI64_any (x y : Int) (w : World) : Calls Tryz.prog 87 #[.int .i64 x, .int .i64 y] w fun e w' => e = .returned (.int .i64 (cmpZ x y)) ∧ w' = w := by
  go_enter Tryz.func87, Tryz.ntmps87
  by_cases h1 : x < y
  · have d1 : decide (x < y) = true := decide_eq_true h1
    rw [show cmpZ x y = -1 from if_pos h1]
    go_wp2
    go_ret
    exact ⟨rfl, rfl⟩
  · have d1 : decide (x < y) = false := decide_eq_false h1
    by_cases h2 : y < x
    · have d2 : decide (y < x) = true := decide_eq_true h2
      rw [show cmpZ x y = 1 from (if_neg h1).trans (if_pos h2)]
      go_wp2
      go_ret
      exact ⟨rfl, rfl⟩
    · have d2 : decide (y < x) = false := decide_eq_false h2
      rw [show cmpZ x y = 0 from (if_neg h1).trans (if_neg h2)]
      go_wp2
      go_ret
      exact ⟨rfl, rfl⟩
theorem cmpInt_any (x y : Int) (w : World) : Calls Tryz.prog 88 #[.int .i64 x, .int .i64 y] w fun e w' => e = .returned (.int .i64 (cmpZ x y)) ∧ w' = w := by
  go_enter Tryz.func88, Tryz.ntmps88
  by_cases h1 : x < y
  · have d1 : decide (x < y) = true := decide_eq_true h1
    rw [show cmpZ x y = -1 from if_pos h1]
    go_wp2
    go_ret
    exact ⟨rfl, rfl⟩
  · have d1 : decide (x < y) = false := decide_eq_false h1
    by_cases h2 : y < x
    · have d2 : decide (y < x) = true := decide_eq_true h2
      rw [show cmpZ x y = 1 from (if_neg h1).trans (if_pos h2)]
      go_wp2
      go_ret
      exact ⟨rfl, rfl⟩
    · have d2 : decide (y < x) = false := decide_eq_false h2
      rw [show cmpZ x y = 0 from (if_neg h1).trans (if_neg h2)]
      go_wp2
      go_ret
      exact ⟨rfl, rfl⟩
theorem cmpOr_any (g : Nat) (a b : Int) (w : World) (h : Blk w g 3 #[.int .i64 a, .int .i64 b]) : Calls Tryz.prog 86 #[.slice (some ⟨g, 0, none⟩) 2 2] w fun e w' => e = .returned (.int .i64 (if a = 0 then b else a)) ∧ w' = w := by
  have h0 : w.cell? ⟨g, 0, none⟩ = some (.int .i64 a) := h.cell 0
  have h1 : w.cell? ⟨g, 1, none⟩ = some (.int .i64 b) := h.cell 1
  clear h
  by_cases ha : a = 0
  · have da : decide (a = 0) = true := decide_eq_true ha
    rw [if_pos ha]
    subst ha
    by_cases hb : b = 0
    · subst hb
      go_enter Tryz.func86, Tryz.ntmps86
      go_wp2
      refine wp_loop_rounds 3 ?_
      rw [rounds_succ]
      go_wp2
      rw [rounds_succ]
      go_wp2
      rw [rounds_succ]
      go_wp2
      go_ret
      exact ⟨rfl, rfl⟩
    · have db : decide (b = 0) = false := decide_eq_false hb
      go_enter Tryz.func86, Tryz.ntmps86
      go_wp2
      refine wp_loop_rounds 2 ?_
      rw [rounds_succ]
      go_wp2
      rw [rounds_succ]
      go_wp2
      go_ret
      exact ⟨rfl, rfl⟩
  · have da : decide (a = 0) = false := decide_eq_false ha
    rw [if_neg ha]
    go_enter Tryz.func86, Tryz.ntmps86
    go_wp2
    refine wp_loop_rounds 1 ?_
    rw [rounds_succ]
    go_wp2
    go_ret
    exact ⟨rfl, rfl⟩
def cmpS (a b : S41) : Int := if cmpZ a.f0 b.f0 = 0 then cmpZ a.f1 b.f1 else cmpZ a.f0 b.f0
abbrev encS (a : S41) : List Value := [.int .i64 a.f0, .int .i64 a.f1]
set_option maxHeartbeats 1000000 in
set_option maxRecDepth 100000 in
theorem stCompare_any (a b : S41) (w : World) : Calls Tryz.prog 45 #[.agg #[.int .i64 a.f0, .int .i64 a.f1], .agg #[.int .i64 b.f0, .int .i64 b.f1]] w fun e w' => e = .returned (.int .i64 (cmpS a b)) ∧ ∃ q os', w' = grow (w.drewN q) os' := by
  obtain ⟨w1, hw1⟩ : ∃ w1, (w.alloc (.cells #[.int .i64 a.f0, .int .i64 a.f1] 41)).alloc (.cells #[.int .i64 b.f0, .int .i64 b.f1] 41) = w1 := ⟨_, rfl⟩
  have hA : Blk w1 w.heap.size 41 #[.int .i64 a.f0, .int .i64 a.f1] := hw1 ▸ (Blk.new w 41 _).alloc _
  have hB : Blk w1 (w.heap.size + 1) 41 #[.int .i64 b.f0, .int .i64 b.f1] := by
    have := Blk.new (w.alloc (.cells #[.int .i64 a.f0, .int .i64 a.f1] 41)) 41 #[.int .i64 b.f0, .int .i64 b.f1]
    rw [hw1] at this
    simpa using this
  have a0 : w1.cell? ⟨w.heap.size, 0, none⟩ = some (.int .i64 a.f0) := hA.cell 0
  have a1 : w1.cell? ⟨w.heap.size, 1, none⟩ = some (.int .i64 a.f1) := hA.cell 1
  have b0 : w1.cell? ⟨w.heap.size + 1, 0, none⟩ = some (.int .i64 b.f0) := hB.cell 0
  have b1 : w1.cell? ⟨w.heap.size + 1, 1, none⟩ = some (.int .i64 b.f1) := hB.cell 1
  clear hA hB
  obtain ⟨c, hc⟩ : ∃ c, cmpS a b = c := ⟨_, rfl⟩
  have hcc : (if cmpZ a.f0 b.f0 = 0 then cmpZ a.f1 b.f1 else cmpZ a.f0 b.f0) = c := hc
  rw [hc]
  clear hc
  go_enter Tryz.func45, Tryz.ntmps45
  go_upto_region 1 with fail
  refine wp_region_last1_held (S := (fun W => W.cell? ⟨w.heap.size, 0, none⟩ = some (.int .i64 a.f0) ∧ W.cell? ⟨w.heap.size, 1, none⟩ = some (.int .i64 a.f1) ∧ W.cell? ⟨w.heap.size + 1, 0, none⟩ = some (.int .i64 b.f0) ∧ W.cell? ⟨w.heap.size + 1, 1, none⟩ = some (.int .i64 b.f1))) (l := [_, _, _, _, _, _, _, _, _, _, _, _]) (o := _) (by kernel_rfl) (by kernel_rfl) ?_;simp only [List.size_toArray, List.length_cons, List.length_nil, Nat.zero_add, Nat.reduceAdd]
  have hHeld : ((fun W => W.cell? ⟨w.heap.size, 0, none⟩ = some (.int .i64 a.f0) ∧ W.cell? ⟨w.heap.size, 1, none⟩ = some (.int .i64 a.f1) ∧ W.cell? ⟨w.heap.size + 1, 0, none⟩ = some (.int .i64 b.f0) ∧ W.cell? ⟨w.heap.size + 1, 1, none⟩ = some (.int .i64 b.f1))) w1.drew := ⟨a0, a1, b0, b1⟩
  refine wpAnyH_take (i := 0) (v := ?_) rfl (by kernel_rfl) (by kernel_rfl) (by kernel_rfl) (fun _ _ _ h => h) (Or.inl ⟨by rfl, ?_⟩) (by assumption) ?_;rotate_left
  · (intro w hSw; (try dsimp only at hSw); go_split_ands; go_simp; try with_reducible rfl)
  try simp only [List.getElem_toArray, List.getElem_cons_succ, List.getElem_cons_zero, Act.put, List.setIfInBounds_toArray, List.set_cons_zero, List.set_cons_succ]
  refine wpAnyH_take (i := 1) (v := ?_) rfl (by kernel_rfl) (by kernel_rfl) (by kernel_rfl) (fun _ _ _ h => h) (Or.inl ⟨by rfl, ?_⟩) (by assumption) ?_;rotate_left
  · (intro w hSw; (try dsimp only at hSw); go_split_ands; go_simp; try with_reducible rfl)
  try simp only [List.getElem_toArray, List.getElem_cons_succ, List.getElem_cons_zero, Act.put, List.setIfInBounds_toArray, List.set_cons_zero, List.set_cons_succ]
  refine wpAnyH_take (i := 2) (v := ?_) rfl (by kernel_rfl) (by kernel_rfl) (by kernel_rfl) (fun _ _ _ h => h) (Or.inl ⟨by rfl, ?_⟩) (by assumption) ?_;rotate_left
  · (intro w hSw; (try dsimp only at hSw); go_split_ands; go_simp; try with_reducible rfl)
  try simp only [List.getElem_toArray, List.getElem_cons_succ, List.getElem_cons_zero, Act.put, List.setIfInBounds_toArray, List.set_cons_zero, List.set_cons_succ]
  refine wpAnyH_take (i := 3) (v := ?_) rfl (by kernel_rfl) (by kernel_rfl) (by kernel_rfl) (fun _ _ _ h => h) (Or.inl ⟨by rfl, ?_⟩) (by assumption) ?_;rotate_left
  · (intro w hSw; (try dsimp only at hSw); go_split_ands; go_simp; try with_reducible rfl)
  try simp only [List.getElem_toArray, List.getElem_cons_succ, List.getElem_cons_zero, Act.put, List.setIfInBounds_toArray, List.set_cons_zero, List.set_cons_succ]
  refine wpAnyH_take (i := 5) (v := ?_) rfl (by kernel_rfl) (by kernel_rfl) (by kernel_rfl) (fun _ _ _ h => h) (Or.inl ⟨by rfl, ?_⟩) (by assumption) ?_;rotate_left
  · (intro w hSw; (try dsimp only at hSw); go_split_ands; go_simp; try with_reducible rfl)
  try simp only [List.getElem_toArray, List.getElem_cons_succ, List.getElem_cons_zero, Act.put, List.setIfInBounds_toArray, List.set_cons_zero, List.set_cons_succ]
  refine wpAnyH_take (i := 6) (v := ?_) rfl (by kernel_rfl) (by kernel_rfl) (by kernel_rfl) (fun _ _ _ h => h) (Or.inl ⟨by rfl, ?_⟩) (by assumption) ?_;rotate_left
  · (intro w hSw; (try dsimp only at hSw); go_split_ands; go_simp; try with_reducible rfl)
  try simp only [List.getElem_toArray, List.getElem_cons_succ, List.getElem_cons_zero, Act.put, List.setIfInBounds_toArray, List.set_cons_zero, List.set_cons_succ]
  refine wpAnyH_take (i := 7) (v := ?_) rfl (by kernel_rfl) (by kernel_rfl) (by kernel_rfl) (fun _ _ _ h => h) (Or.inl ⟨by rfl, ?_⟩) (by assumption) ?_;rotate_left
  · (intro w hSw; (try dsimp only at hSw); go_split_ands; go_simp; try with_reducible rfl)
  try simp only [List.getElem_toArray, List.getElem_cons_succ, List.getElem_cons_zero, Act.put, List.setIfInBounds_toArray, List.set_cons_zero, List.set_cons_succ]
  refine wpAnyH_take (i := 8) (v := ?_) rfl (by kernel_rfl) (by kernel_rfl) (by kernel_rfl) (fun _ _ _ h => h) (Or.inl ⟨by rfl, ?_⟩) (by assumption) ?_;rotate_left
  · (intro w hSw; (try dsimp only at hSw); go_split_ands; go_simp; try with_reducible rfl)
  try simp only [List.getElem_toArray, List.getElem_cons_succ, List.getElem_cons_zero, Act.put, List.setIfInBounds_toArray, List.set_cons_zero, List.set_cons_succ]
  refine wpAnyH_ready (rs := [4]) (by kernel_rfl) (by simp) ?_;refine (AllReadyH.cons rfl (fun K hK => ?_) AllReadyH.nil);go_simp;refine (cmpI64_any _ _ _).mono ?_
  rintro e w2 ⟨rfl, rfl⟩
  refine hK.out _ _ ?_ (fun hHeld => ?_)
  · exact ⟨a0, a1, b0, b1⟩
  clear hK K
  try simp only [List.getElem_toArray, List.getElem_cons_succ, List.getElem_cons_zero, Act.put, List.setIfInBounds_toArray, List.set_cons_zero, List.set_cons_succ]
  refine wpAnyH_ready (rs := [9]) (by kernel_rfl) (by simp) ?_;refine (AllReadyH.cons rfl (fun K hK => ?_) AllReadyH.nil);go_simp;refine (cmpInt_any _ _ _).mono ?_
  rintro e w2 ⟨rfl, rfl⟩
  refine hK.out _ _ ?_ (fun hHeld => ?_)
  · exact ⟨a0, a1, b0, b1⟩
  clear hK K
  try simp only [List.getElem_toArray, List.getElem_cons_succ, List.getElem_cons_zero, Act.put, List.setIfInBounds_toArray, List.set_cons_zero, List.set_cons_succ]
  refine wpAnyH_ready (rs := [10]) (by kernel_rfl) (by simp) ?_;refine (AllReadyH.cons rfl (fun K hK => ?_) AllReadyH.nil);go_simp;refine hK.out _ _ ?_ (fun hHeld => ?_)
  · exact ⟨cellA (W := w1.drew) a0 _, cellA (W := w1.drew) a1 _, cellA (W := w1.drew) b0 _, cellA (W := w1.drew) b1 _⟩
  clear hK K
  try simp only [List.getElem_toArray, List.getElem_cons_succ, List.getElem_cons_zero, Act.put, List.setIfInBounds_toArray, List.set_cons_zero, List.set_cons_succ]
  refine wpAnyH_ready (rs := [11]) (by kernel_rfl) (by simp) ?_;refine (AllReadyH.cons rfl (fun K hK => ?_) AllReadyH.nil);go_simp;refine (cmpOr_any w1.heap.size (cmpZ a.f0 b.f0) (cmpZ a.f1 b.f1) _ (Blk.new w1.drew 3 _)).mono ?_
  rw [hcc]
  rintro e w2 ⟨rfl, rfl⟩
  refine hK.out _ _ ?_ (fun hHeld => ?_)
  · exact ⟨cellA (W := w1.drew) a0 _, cellA (W := w1.drew) a1 _, cellA (W := w1.drew) b0 _, cellA (W := w1.drew) b1 _⟩
  clear hK K
  try simp only [List.getElem_toArray, List.getElem_cons_succ, List.getElem_cons_zero, Act.put, List.setIfInBounds_toArray, List.set_cons_zero, List.set_cons_succ]
  refine wpAnyH_done (by kernel_rfl) ?_ _;refine lastPost_wp ?_
  go_wp2
  go_ret
  exact ⟨rfl, 1, _, by rw [← hw1, alloc_eq_grow, alloc_eq_grow, alloc_eq_grow, grow_grow, grow_grow]; rfl⟩
theorem ltOf_cmpS (x y : S41) : ltOf cmpS x y = true ↔ x.f0 < y.f0 ∨ x.f0 = y.f0 ∧ x.f1 < y.f1 := by
  unfold ltOf cmpS cmpZ
  by_cases h1 : x.f0 < y.f0
  · simp [h1]
  · by_cases h2 : y.f0 < x.f0
    · have : x.f0 ≠ y.f0 := by omega
      simp [h1, h2, this]
    · have : x.f0 = y.f0 := by omega
      by_cases h3 : x.f1 < y.f1
      · simp [h1, h2, h3, this]
      · by_cases h4 : y.f1 < x.f1 <;> simp [h3, h4, this]
theorem ltOf_cmpS_f (x y : S41) : ltOf cmpS x y = false ↔ ¬ (x.f0 < y.f0 ∨ x.f0 = y.f0 ∧ x.f1 < y.f1) := by
  rw [← ltOf_cmpS]; simp
theorem swoS : SWO (ltOf cmpS) where
  irrefl x := by rw [ltOf_cmpS_f]; omega
  trans x y z h1 h2 := by rw [ltOf_cmpS] at *; omega
  ntrans x y z h1 h2 := by rw [ltOf_cmpS_f] at *; omega
theorem totS (x y : S41) (h1 : ltOf cmpS x y = false) (h2 : ltOf cmpS y x = false) : x = y := by
  rw [ltOf_cmpS_f] at h1 h2
  obtain ⟨a, b⟩ := x
  obtain ⟨c, d⟩ := y
  simp only at h1 h2
  have e1 : a = c := by omega
  have e2 : b = d := by omega
  rw [e1, e2]
end Go.Proofs.YtaedlmeaconflaaGreat.P
end
section
set_option linter.unusedVariables false
set_option linter.unusedSimpArgs false
namespace Go.Proofs
open Go.Shelf
def Tryz.shSort_ren : Go.Shelf.Ren := ⟨fun | 189 => 100 | 125 => 113 | 257 => 115 | 128 => 124 | 129 => 125 | 294 => 126 | 295 => 127 | 296 => 128 | 297 => 129 | 298 => 130 | 299 => 131 | 216 => 132 | 300 => 133 | 301 => 134 | 328 => 140 | 329 => 136 | 330 => 137 | 331 => 141 | 332 => 142 | 215 => 111 | 343 => 144 | n => n, fun | 28 => 49 | 3 => 3 | 46 => 138 | 0 => 0 | 51 => 151 | 53 => 105 | 4 => 4 | 183 => 145 | 182 => 144 | 131 => 121 | 5 => 5 | 9 => 9 | 218 => 159 | 222 => 163 | 228 => 167 | 229 => 168 | n => n, fun | n => n⟩
theorem Tryz.shSort : Go.Proofs.Lays.n189 Tryz.prog Tryz.shSort_ren := {
  mixed := by kernel_rfl
  f125 := Tryz.func113.trans (congrArg some (by kernel_rfl))
  f128 := Tryz.func124.trans (congrArg some (by kernel_rfl))
  f129 := Tryz.func125.trans (congrArg some (by kernel_rfl))
  f189 := Tryz.func100.trans (congrArg some (by kernel_rfl))
  f215 := Tryz.func111.trans (congrArg some (by kernel_rfl))
  f216 := Tryz.func132.trans (congrArg some (by kernel_rfl))
  f257 := Tryz.func115.trans (congrArg some (by kernel_rfl))
  f294 := Tryz.func126.trans (congrArg some (by kernel_rfl))
  f295 := Tryz.func127.trans (congrArg some (by kernel_rfl))
  f296 := Tryz.func128.trans (congrArg some (by kernel_rfl))
  f297 := Tryz.func129.trans (congrArg some (by kernel_rfl))
  f298 := Tryz.func130.trans (congrArg some (by kernel_rfl))
  f299 := Tryz.func131.trans (congrArg some (by kernel_rfl))
  f300 := Tryz.func133.trans (congrArg some (by kernel_rfl))
  f301 := Tryz.func134.trans (congrArg some (by kernel_rfl))
  f328 := Tryz.func140.trans (congrArg some (by kernel_rfl))
  f329 := Tryz.func136.trans (congrArg some (by kernel_rfl))
  f330 := Tryz.func137.trans (congrArg some (by kernel_rfl))
  f331 := Tryz.func141.trans (congrArg some (by kernel_rfl))
  f332 := Tryz.func142.trans (congrArg some (by kernel_rfl))
  f343 := Tryz.func144.trans (congrArg some (by kernel_rfl))
  t0 := Tryz.underlying0
  a0 := Tryz.isAgg0
  z0 := Tryz.sizeOf0
  v0 := Tryz.zeroValue0
  t3 := Tryz.underlying3
  a3 := Tryz.isAgg3
  z3 := Tryz.sizeOf3
  v3 := Tryz.zeroValue3
  t4 := Tryz.underlying4
  a4 := Tryz.isAgg4
  z4 := Tryz.sizeOf4
  v4 := Tryz.zeroValue4
  t5 := Tryz.underlying5
  a5 := Tryz.isAgg5
  z5 := Tryz.sizeOf5
  v5 := Tryz.zeroValue5
  t9 := Tryz.underlying9
  a9 := Tryz.isAgg9
  z9 := Tryz.sizeOf9
  v9 := Tryz.zeroValue9
  t28 := Tryz.underlying49
  a28 := Tryz.isAgg49
  z28 := Tryz.sizeOf49
  v28 := Tryz.zeroValue49
  t46 := Tryz.underlying138
  a46 := Tryz.isAgg138
  z46 := Tryz.sizeOf138
  v46 := Tryz.zeroValue138
  t51 := Tryz.underlying151
  a51 := Tryz.isAgg151
  z51 := Tryz.sizeOf151
  v51 := Tryz.zeroValue151
  t53 := Tryz.underlying105
  a53 := Tryz.isAgg105
  z53 := Tryz.sizeOf105
  v53 := Tryz.zeroValue105
  t131 := Tryz.underlying121
  a131 := Tryz.isAgg121
  z131 := Tryz.sizeOf121
  v131 := Tryz.zeroValue121
  t182 := Tryz.underlying144
  a182 := Tryz.isAgg144
  z182 := Tryz.sizeOf144
  v182 := Tryz.zeroValue144
  t183 := Tryz.underlying145
  a183 := Tryz.isAgg145
  z183 := Tryz.sizeOf145
  v183 := Tryz.zeroValue145
  t218 := Tryz.underlying159
  a218 := Tryz.isAgg159
  z218 := Tryz.sizeOf159
  v218 := Tryz.zeroValue159
  t222 := Tryz.underlying163
  a222 := Tryz.isAgg163
  z222 := Tryz.sizeOf163
  v222 := Tryz.zeroValue163
  t228 := Tryz.underlying167
  a228 := Tryz.isAgg167
  z228 := Tryz.sizeOf167
  v228 := Tryz.zeroValue167
  t229 := Tryz.underlying168
  a229 := Tryz.isAgg168
  z229 := Tryz.sizeOf168
  v229 := Tryz.zeroValue168 }
def Tryz.shLen_ren : Go.Shelf.Ren := ⟨fun | 125 => 113 | 128 => 124 | 129 => 125 | n => n, fun | 46 => 138 | 3 => 3 | 51 => 151 | 53 => 105 | 4 => 4 | 5 => 5 | 9 => 9 | n => n, fun | n => n⟩
theorem Tryz.shLen : Go.Proofs.Lays.n125 Tryz.prog Tryz.shLen_ren := {
  mixed := by kernel_rfl
  f125 := Tryz.func113.trans (congrArg some (by kernel_rfl))
  f128 := Tryz.func124.trans (congrArg some (by kernel_rfl))
  f129 := Tryz.func125.trans (congrArg some (by kernel_rfl))
  t3 := Tryz.underlying3
  a3 := Tryz.isAgg3
  z3 := Tryz.sizeOf3
  v3 := Tryz.zeroValue3
  t4 := Tryz.underlying4
  a4 := Tryz.isAgg4
  z4 := Tryz.sizeOf4
  v4 := Tryz.zeroValue4
  t5 := Tryz.underlying5
  a5 := Tryz.isAgg5
  z5 := Tryz.sizeOf5
  v5 := Tryz.zeroValue5
  t9 := Tryz.underlying9
  a9 := Tryz.isAgg9
  z9 := Tryz.sizeOf9
  v9 := Tryz.zeroValue9
  t46 := Tryz.underlying138
  a46 := Tryz.isAgg138
  z46 := Tryz.sizeOf138
  v46 := Tryz.zeroValue138
  t51 := Tryz.underlying151
  a51 := Tryz.isAgg151
  z51 := Tryz.sizeOf151
  v51 := Tryz.zeroValue151
  t53 := Tryz.underlying105
  a53 := Tryz.isAgg105
  z53 := Tryz.sizeOf105
  v53 := Tryz.zeroValue105 }
def Tryz.shSortF_ren : Go.Shelf.Ren := ⟨fun | 6 => 94 | 15 => 113 | 14 => 112 | 28 => 124 | 29 => 125 | 20 => 116 | 21 => 117 | 22 => 118 | 23 => 119 | 24 => 120 | 25 => 121 | 26 => 122 | 27 => 123 | 46 => 135 | 47 => 136 | 48 => 137 | 49 => 138 | 50 => 139 | 57 => 143 | n => n, fun | 22 => 24 | 24 => 41 | 25 => 74 | 3 => 3 | 39 => 138 | 0 => 0 | 53 => 151 | 55 => 105 | 4 => 4 | 46 => 145 | 45 => 144 | 50 => 121 | 5 => 5 | 9 => 9 | 66 => 159 | 70 => 163 | 76 => 167 | 77 => 168 | n => n, fun | n => n⟩
theorem Tryz.shSortF : Go.Proofs.SlLaysF0.n6 Tryz.prog Tryz.shSortF_ren := {
  mixed := by kernel_rfl
  f6 := ⟨Tryz.f94.name, by decide, Tryz.func94.trans (congrArg some (by kernel_rfl))⟩
  f14 := ⟨Tryz.f112.name, by decide, Tryz.func112.trans (congrArg some (by kernel_rfl))⟩
  f15 := Tryz.func113.trans (congrArg some (by kernel_rfl))
  f20 := ⟨Tryz.f116.name, by decide, Tryz.func116.trans (congrArg some (by kernel_rfl))⟩
  f21 := ⟨Tryz.f117.name, by decide, Tryz.func117.trans (congrArg some (by kernel_rfl))⟩
  f22 := ⟨Tryz.f118.name, by decide, Tryz.func118.trans (congrArg some (by kernel_rfl))⟩
  f23 := ⟨Tryz.f119.name, by decide, Tryz.func119.trans (congrArg some (by kernel_rfl))⟩
  f24 := ⟨Tryz.f120.name, by decide, Tryz.func120.trans (congrArg some (by kernel_rfl))⟩
  f25 := ⟨Tryz.f121.name, by decide, Tryz.func121.trans (congrArg some (by kernel_rfl))⟩
  f26 := ⟨Tryz.f122.name, by decide, Tryz.func122.trans (congrArg some (by kernel_rfl))⟩
  f27 := ⟨Tryz.f123.name, by decide, Tryz.func123.trans (congrArg some (by kernel_rfl))⟩
  f28 := Tryz.func124.trans (congrArg some (by kernel_rfl))
  f29 := Tryz.func125.trans (congrArg some (by kernel_rfl))
  f46 := ⟨Tryz.f135.name, by decide, Tryz.func135.trans (congrArg some (by kernel_rfl))⟩
  f47 := Tryz.func136.trans (congrArg some (by kernel_rfl))
  f48 := Tryz.func137.trans (congrArg some (by kernel_rfl))
  f49 := ⟨Tryz.f138.name, by decide, Tryz.func138.trans (congrArg some (by kernel_rfl))⟩
  f50 := ⟨Tryz.f139.name, by decide, Tryz.func139.trans (congrArg some (by kernel_rfl))⟩
  f57 := ⟨Tryz.f143.name, by decide, Tryz.func143.trans (congrArg some (by kernel_rfl))⟩
  t0 := Tryz.underlying0
  a0 := Tryz.isAgg0
  z0 := Tryz.sizeOf0
  v0 := Tryz.zeroValue0
  t3 := Tryz.underlying3
  a3 := Tryz.isAgg3
  z3 := Tryz.sizeOf3
  v3 := Tryz.zeroValue3
  t4 := Tryz.underlying4
  a4 := Tryz.isAgg4
  z4 := Tryz.sizeOf4
  v4 := Tryz.zeroValue4
  t5 := Tryz.underlying5
  a5 := Tryz.isAgg5
  z5 := Tryz.sizeOf5
  v5 := Tryz.zeroValue5
  t9 := Tryz.underlying9
  a9 := Tryz.isAgg9
  z9 := Tryz.sizeOf9
  v9 := Tryz.zeroValue9
  t22 := Tryz.underlying24
  a22 := Tryz.isAgg24
  z22 := Tryz.sizeOf24
  v22 := Tryz.zeroValue24
  t25 := Tryz.underlying74
  a25 := Tryz.isAgg74
  z25 := Tryz.sizeOf74
  v25 := Tryz.zeroValue74
  t39 := Tryz.underlying138
  a39 := Tryz.isAgg138
  z39 := Tryz.sizeOf138
  v39 := Tryz.zeroValue138
  t45 := Tryz.underlying144
  a45 := Tryz.isAgg144
  z45 := Tryz.sizeOf144
  v45 := Tryz.zeroValue144
  t46 := Tryz.underlying145
  a46 := Tryz.isAgg145
  z46 := Tryz.sizeOf145
  v46 := Tryz.zeroValue145
  t50 := Tryz.underlying121
  a50 := Tryz.isAgg121
  z50 := Tryz.sizeOf121
  v50 := Tryz.zeroValue121
  t53 := Tryz.underlying151
  a53 := Tryz.isAgg151
  z53 := Tryz.sizeOf151
  v53 := Tryz.zeroValue151
  t55 := Tryz.underlying105
  a55 := Tryz.isAgg105
  z55 := Tryz.sizeOf105
  v55 := Tryz.zeroValue105
  t66 := Tryz.underlying159
  a66 := Tryz.isAgg159
  z66 := Tryz.sizeOf159
  v66 := Tryz.zeroValue159
  t70 := Tryz.underlying163
  a70 := Tryz.isAgg163
  z70 := Tryz.sizeOf163
  v70 := Tryz.zeroValue163
  t76 := Tryz.underlying167
  a76 := Tryz.isAgg167
  z76 := Tryz.sizeOf167
  v76 := Tryz.zeroValue167
  t77 := Tryz.underlying168
  a77 := Tryz.isAgg168
  z77 := Tryz.sizeOf168
  v77 := Tryz.zeroValue168 }
def Tryz.shKeys_ren : Go.Shelf.Ren := ⟨fun | 7 => 68 | 10 => 101 | n => n, fun | 23 => 95 | 26 => 3 | 3 => 24 | 28 => 98 | 0 => 0 | 27 => 97 | 33 => 112 | 4 => 4 | n => n, fun | n => n⟩
theorem Tryz.shKeys : Go.Proofs.SlLaysZI.n7 Tryz.prog Tryz.shKeys_ren := {
  mixed := by kernel_rfl
  f7 := ⟨Tryz.f68.name, by decide, Tryz.func68.trans (congrArg some (by kernel_rfl))⟩
  f10 := ⟨Tryz.f101.name, by decide, Tryz.func101.trans (congrArg some (by kernel_rfl))⟩
  t0 := Tryz.underlying0
  a0 := Tryz.isAgg0
  z0 := Tryz.sizeOf0
  v0 := Tryz.zeroValue0
  t4 := Tryz.underlying4
  a4 := Tryz.isAgg4
  z4 := Tryz.sizeOf4
  v4 := Tryz.zeroValue4
  t23 := Tryz.underlying95
  a23 := Tryz.isAgg95
  z23 := Tryz.sizeOf95
  v23 := Tryz.zeroValue95
  t26 := Tryz.underlying3
  a26 := Tryz.isAgg3
  z26 := Tryz.sizeOf3
  v26 := Tryz.zeroValue3
  t27 := Tryz.underlying97
  a27 := Tryz.isAgg97
  z27 := Tryz.sizeOf97
  v27 := Tryz.zeroValue97
  t28 := Tryz.underlying98
  a28 := Tryz.isAgg98
  z28 := Tryz.sizeOf98
  v28 := Tryz.zeroValue98
  t33 := Tryz.underlying112
  a33 := Tryz.isAgg112
  z33 := Tryz.sizeOf112
  v33 := Tryz.zeroValue112 }
def Tryz.shSorted_ren : Go.Shelf.Ren := ⟨fun | 6 => 67 | 8 => 99 | 9 => 100 | 11 => 114 | 13 => 113 | 12 => 115 | 23 => 124 | 24 => 125 | 14 => 126 | 15 => 127 | 16 => 128 | 17 => 129 | 18 => 130 | 19 => 131 | 20 => 132 | 21 => 133 | 22 => 134 | 25 => 140 | 26 => 136 | 27 => 137 | 28 => 141 | 29 => 142 | 30 => 111 | 31 => 144 | n => n, fun | 26 => 3 | 28 => 98 | 24 => 49 | 0 => 0 | 3 => 3 | 37 => 138 | 48 => 151 | 50 => 105 | 4 => 4 | 40 => 145 | 39 => 144 | 45 => 121 | 5 => 5 | 9 => 9 | 51 => 159 | 55 => 163 | 57 => 167 | 58 => 168 | 33 => 112 | n => n, fun | n => n⟩
theorem Tryz.shSorted : Go.Proofs.SlLaysZI.n6 Tryz.prog Tryz.shSorted_ren := {
  mixed := by kernel_rfl
  f6 := ⟨Tryz.f67.name, by decide, Tryz.func67.trans (congrArg some (by kernel_rfl))⟩
  f8 := ⟨Tryz.f99.name, by decide, Tryz.func99.trans (congrArg some (by kernel_rfl))⟩
  f11 := ⟨Tryz.f114.name, by decide, Tryz.func114.trans (congrArg some (by kernel_rfl))⟩
  t0 := Tryz.underlying0
  a0 := Tryz.isAgg0
  z0 := Tryz.sizeOf0
  v0 := Tryz.zeroValue0
  t24 := Tryz.underlying49
  a24 := Tryz.isAgg49
  z24 := Tryz.sizeOf49
  v24 := Tryz.zeroValue49
  t26 := Tryz.underlying3
  a26 := Tryz.isAgg3
  z26 := Tryz.sizeOf3
  v26 := Tryz.zeroValue3
  t28 := Tryz.underlying98
  a28 := Tryz.isAgg98
  z28 := Tryz.sizeOf98
  v28 := Tryz.zeroValue98
  i26 := by kernel_rfl }
end Go.Proofs
end
section
set_option linter.unusedVariables false
set_option linter.unusedSimpArgs false
namespace Go.Proofs.YtaedlmeaconflaaGreat.P
open Go.RowKit Go.Sort Go.Shelf Go.Proofs.YtaedlmeaconflaaGreatW.PrintWords Go.Proofs.YtaedlmeaconflaaGreatW.PrintLast Go.Proofs.YtaedlmeaconflaaGreatW.PrintMore
def enc2 (ps : List (Value × Value)) : List Value := ps.flatMap fun p => [p.1, p.2]
theorem enc2_cons (p : Value × Value) (ps : List (Value × Value)) : enc2 (p :: ps) = p.1 :: p.2 :: enc2 ps := rfl
theorem enc2_len : ∀ ps : List (Value × Value), (enc2 ps).length = ps.length * 2
  | [] => rfl
  | p :: ps => by rw [enc2_cons, List.length_cons, List.length_cons, enc2_len ps, List.length_cons]; omega
theorem enc2_at : ∀ (ps : List (Value × Value)) (j : Nat), (enc2 ps)[j * 2]? = ps[j]?.map (·.1) ∧ (enc2 ps)[j * 2 + 1]? = ps[j]?.map (·.2)
  | [], j => by simp [enc2]
  | p :: ps, 0 => by simp [enc2_cons]
  | p :: ps, j + 1 => by
    have h := enc2_at ps j
    rw [enc2_cons, show (j + 1) * 2 = j * 2 + 1 + 1 by omega]
    simpa using h
theorem enc2_take : ∀ (ps : List (Value × Value)) (j : Nat), (enc2 ps).take (j * 2) = enc2 (ps.take j)
  | [], j => by simp [enc2]
  | p :: ps, 0 => by simp [enc2]
  | p :: ps, j + 1 => by
    rw [enc2_cons, show (j + 1) * 2 = j * 2 + 1 + 1 by omega, List.take_succ_cons, List.take_succ_cons, enc2_take ps j]
    rfl
theorem enc2_set : ∀ (ps : List (Value × Value)) (j : Nat) (a b : Value), ((enc2 ps).set (j * 2) a).set (j * 2 + 1) b = enc2 (ps.set j (a, b))
  | [], j, a, b => by simp [enc2]
  | p :: ps, 0, a, b => by simp [enc2_cons]
  | p :: ps, j + 1, a, b => by
    have h := enc2_set ps j a b
    rw [enc2_cons, show (j + 1) * 2 = j * 2 + 1 + 1 by omega, List.set_cons_succ, List.set_cons_succ, List.set_cons_succ, List.set_cons_succ, h]
    rfl
abbrev pS (s : S41) : Value × Value := (.int .i64 s.f0, .int .i64 s.f1)
def RowS (w : World) (base : Nat) (v : Value) (xs : List S41) : Prop := w.ownsRow base 41 2 v xs.length (enc2 (xs.map pS))
theorem reps_enc2 {w : World} {b : Nat} {ok : Nat → Prop} : ∀ {xs : List S41} {cs : List Value}, Reps (k41.M w b ok) 2 xs cs → cs = enc2 (xs.map pS)
  | [], cs, h => List.eq_nil_of_length_eq_zero (by simpa using h.1)
  | x :: xs, cs, h => by
    have h0 := k41_openM (h.2 0 x rfl)
    have hr : Reps (k41.M w b ok) 2 xs (cs.drop 2) := ⟨by rw [List.length_drop, h.1, List.length_cons]; omega, fun j p hj => by
      have := h.2 (j + 1) p hj
      rwa [List.drop_drop, show 2 + j * 2 = (j + 1) * 2 by omega]⟩
    have ih := reps_enc2 hr
    rw [List.map_cons, enc2_cons, ← ih]
    rw [show 0 * 2 = 0 from rfl, List.drop_zero] at h0
    conv => lhs; rw [← List.take_append_drop 2 cs, h0]
    rfl
theorem enc2_reps (w : World) (b : Nat) (ok : Nat → Prop) : ∀ xs : List S41, Reps (k41.M w b ok) 2 xs (enc2 (xs.map pS))
  | [] => ⟨rfl, fun j p h => by simp at h⟩
  | x :: xs => by
    have ih := enc2_reps w b ok xs
    refine ⟨by rw [enc2_len, List.length_map], fun j p hj => ?_⟩
    rcases j with _ | j
    · obtain rfl : x = p := by simpa using hj
      exact k41_mkM w b ok x
    · have := ih.2 j p (by simpa using hj)
      rw [List.map_cons, enc2_cons, show (j + 1) * 2 = j * 2 + 1 + 1 by omega, List.drop_succ_cons, List.drop_succ_cons]
      exact this
theorem RowS.of_R {w : World} {b : Nat} {ok : Nat → Prop} {v : Value} {xs : List S41} (h : Kd.R k41 41 w b ok v xs) : RowS w b v xs := by
  obtain ⟨_, inner, ho, hr⟩ := h
  have : inner = enc2 (xs.map pS) := reps_enc2 hr
  subst this
  exact ho
theorem RowS.R {w : World} {b : Nat} {v : Value} {xs : List S41} (h : RowS w b v xs) : Kd.R k41 41 w b (fun _ => True) v xs :=
  ⟨fun _ _ => trivial, _, h, enc2_reps w b _ xs⟩
theorem own_lit0S (W : World) {b : Nat} (hb : b ≤ W.heap.size) : (W.alloc (.cells #[] 41)).ownsRow b 41 2 (.slice (some ⟨W.heap.size, 0, none⟩) 0 0) 0 [] :=
  ⟨rfl, .inr ⟨W.heap.size, 0, #[], rfl, hb, heap_alloc_new W _, Nat.le_refl _, Nat.zero_le _, rfl, rfl⟩⟩
set_option maxHeartbeats 1000000 in
theorem sclone_any (A : Option Addr) (c : Nat) (xs : List S41) (w : World) (hr : Kd.C k41 w A xs.length xs) (hb : xs.length * 16 ≤ 140737488355328) :
    Calls Tryz.prog 58 #[.slice A xs.length c] w fun e w' => ∃ v, e = .returned v ∧ RowS w' w.heap.size v xs ∧ Below w.heap.size w w' := by
  have q22 : ∀ (w : World) (a : Option Addr) (n c n' c' : Nat), (binOp .eql 24 (.slice a n c) (.slice none n' c')).run Tryz.prog w = .ok (.bool a.isNone) w := fun w a n c n' c' => Lib.run_eql_slice_nil w _ _ a n c n' c' Tryz.underlying24
  rcases A with _ | ad
  · have h0 : xs = [] := by
      rcases xs with _ | ⟨x, xs⟩
      · rfl
      · obtain ⟨_, h, _⟩ := hr.2.2 (by simp)
        cases h
    subst h0
    go_enter Tryz.func58, Tryz.ntmps58
    go_wp2
    go_ret
    exact ⟨_, rfl, own_nil _ _ _ _, Below.refl _ _⟩
  · have HR := Lib.hid hr; have HB := Lib.hid hb
    clear hr hb
    go_enter Tryz.func58, Tryz.ntmps58
    go_wp2_with (first | ((with_reducible refine gate_builtin (b := .append) (xs := #[.tmp 5, .tmp 6]) rfl ?_); at_builtin; refine stop_append rfl ?_))
    refine Lib.hid ?_;refine Kd.R_append_rows k41 (w0 := w) (Rr := k41.K w) w.heap.size (by rfl) (.tmp 5) (.tmp 6) 24 41 (.agg #[.int .i64 0, .int .i64 0]) 16 (by rfl) Tryz.underlying24 info41 rfl (by decide) (by decide) (.slice (some ⟨w.heap.size, 0, none⟩) 0 0) [] xs (some ad) xs.length c (fun _ => True) (fun _ => False) (by rfl) (by rfl) ⟨fun _ _ => trivial, [], own_lit0S w (Nat.le_refl _), Reps.none _ _⟩ (HR.out.imp_ ((Below.refl _ _).alloc (Nat.le_refl _) _) (fun _ _ h => h)) ?_ (fun _ h => h.elim) (fun _ _ => trivial) ((Below.refl _ _).alloc (Nat.le_refl _) _) (by simp) (by simpa using HB.out) ?_
    · intro x cs hK;obtain rfl := k41_open hK
      exact k41_mkM _ _ _ x
    intro v1 w1 ho hbl _ _
    simp only [List.nil_append] at ho
    have HO := Lib.hid (And.intro (RowS.of_R ho) hbl)
    obtain ⟨A1, c1, rfl⟩ := own_slice HO.out.1
    clear ho hbl
    go_wp2
    go_ret
    exact ⟨_, rfl, HO.out.1, HO.out.2⟩
end Go.Proofs.YtaedlmeaconflaaGreat.P
end
section
set_option linter.unusedVariables false
set_option linter.unusedSimpArgs false
namespace Go.Proofs.YtaedlmeaconflaaGreat.P
open Go.RowKit Go.Sort Go.Shelf Go.Proofs.YtaedlmeaconflaaGreatW.PrintWords Go.Proofs.YtaedlmeaconflaaGreatW.PrintLast Go.Proofs.YtaedlmeaconflaaGreatW.PrintMore
instance : Inhabited S41 := ⟨z41⟩
theorem flat_enc2 (xs : List S41) : flatK encS 2 xs.toArray = (enc2 (xs.map pS)).toArray := by
  refine ext_get! (by simp [enc2_len]) fun t ht => ?_
  have ht' : t < xs.length * 2 := by simpa using ht
  rw [get_flatK _ _ _ _ (by simpa using ht')]
  have hj : t / 2 < xs.length := by omega
  have h := enc2_at (xs.map pS) (t / 2)
  rw [List.getElem?_map, List.getElem?_eq_getElem hj] at h
  have e : (xs.toArray)[t / 2]! = xs[t / 2] := by simp [hj]
  rw [e]
  rcases Nat.mod_two_eq_zero_or_one t with h2 | h2
  · have e2 : t / 2 * 2 = t := by omega
    rw [e2] at h
    rw [h2]
    simp [h.1]
  · have e2 : t / 2 * 2 + 1 = t := by omega
    rw [e2] at h
    rw [h2]
    simp [h.2]
theorem putCells_take (F : Array Value) (c : Array Value) (h : F.size ≤ c.size) : (putCells id 0 F c).size = c.size ∧ (putCells id 0 F c).toList.take F.size = F.toList := by
  refine ⟨by simp [putCells], ?_⟩
  apply List.ext_getElem
  · simp [putCells, h]
  · intro i h1 h2
    have hi : i < F.size := by simpa using h2
    simp [putCells, hi]
theorem heap_sortW {w : World} {g n : Nat} {cur : Array Value} {e : TypeId} {d : Array S41} {os : Array Obj} (hg : w.heap[g]? = some (.cells cur e (0, 0))) :
    (sortWorldK encS 2 w g 0 n d os).heap[g]? = some (.cells (putCells id 0 (flatK encS 2 d) cur) e (0, 0)) := by
  have hlt := (Array.getElem?_eq_some_iff.1 hg).1
  unfold sortWorldK putRowK putRow mapBlock grow
  simp only [heap_ahead]
  rw [Array.getElem?_append_left (by simpa using hlt), Array.getElem?_modify, if_pos rfl, hg]
  rfl
theorem upd_sortW (w : World) (g n : Nat) (d : Array S41) (os : Array Obj) : Upd w (sortWorldK encS 2 w g 0 n d os) (· = g) := by
  refine ⟨rfl, rfl, rfl, ?_, fun k hk hs => ?_⟩
  · unfold sortWorldK putRowK; rw [size_grow, size_putRow]; exact Nat.le_add_right _ _
  · unfold sortWorldK putRowK putRow mapBlock grow
    simp only [heap_ahead]
    rw [Array.getElem?_append_left (by simpa using hk), Array.getElem?_modify, if_neg (fun e => hs e.symm)]
theorem aggS (w : World) : (isAgg 41).run Tryz.prog w = .ok true w := by go_simp
theorem sizeS (w : World) : (Go.sizeOf 41).run Tryz.prog w = .ok 2 w := by go_simp
def sortS (xs : List S41) : List S41 := xs.mergeSort fun x y => !(ltOf cmpS) y x
theorem sortS_len (xs : List S41) : (sortS xs).length = xs.length := List.length_mergeSort _
theorem ssort_any {base : Nat} {v : Value} {xs : List S41} {w : World} (ho : RowS w base v xs) (hl : xs.length < 4611686018427387904) :
    Calls Tryz.prog 94 #[v, .func (.func 45) #[] #[]] w fun e w' => e = .returned (.tuple #[]) ∧ RowS w' base v (sortS xs) ∧ Upd w w' (fun k => v.ownBlock = some k) := by
  rcases ho.2 with ⟨rfl, h0⟩ | ⟨g, cap, cur, rfl, hb, hg, h1, h2, h3, h4⟩
  · obtain rfl : xs = [] := List.eq_nil_of_length_eq_zero h0
    exact (AnyF.slices_SortFunc_none Tryz.shSortF none 0 _ w).mono fun e w' ⟨he, hw⟩ => ⟨he, by rw [hw, show sortS [] = [] from by simp [sortS]]; exact ho, by rw [hw]; exact Upd.refl _ _⟩
  · have eg : ∀ args w, (callFunc 45 args).run Tryz.prog w = .ok (.enter 45 args) w := enters_of Tryz.func45 (by kernel_rfl) rfl
    have hH : HoldsK encS 2 w g 0 xs.toArray := by
      unfold HoldsK
      rw [flat_enc2]
      intro j hj
      have hj' : j < xs.length * 2 := by simpa [enc2_len] using hj
      rw [Nat.zero_add]
      refine ⟨?_, World.ownsRow.frozenAt ho j⟩
      rw [World.ownsRow.cellAt ho j hj', List.getElem?_eq_getElem (by rw [enc2_len, List.length_map]; exact hj')]
      simp [enc2_len, hj']
    have hcmp : CmpLays Tryz.prog 45 #[] encS 2 cmpS g 0 xs.toArray.size w := fun _ _ _ _ x y => stCompare_any x y _
    refine (AnyQ.slices_SortFunc_total Tryz.shSortF 2 aggS sizeS encS (fun _ => rfl) (fun x v hv => by simp at hv; rcases hv with rfl | rfl <;> rfl) cmpS swoS 45 #[] g 0 cap xs.toArray w eg hcmp hH (Array.getElem?_eq_some_iff.1 hg).1 (by simpa using hl) totS).mono fun e w' ⟨he, n, os, hw⟩ => ⟨he, ?_, ?_⟩
    · have hm : (sortS xs).length = xs.length := sortS_len xs
      refine ⟨by rw [enc2_len, List.length_map], .inr ⟨g, cap, _, by rw [hm], hb, by rw [hw]; exact heap_sortW hg, by rw [hm]; exact h1, h2, ?_, ?_⟩⟩
      · rw [(putCells_take _ _ ?_).1]; exact h3
        simp [h3]; omega
      · have := (putCells_take (flatK encS 2 (sortS xs).toArray) cur (by simp [h3, hm]; omega)).2
        rw [size_flatK, flat_enc2] at this
        rw [hm]
        show List.take _ (putCells id 0 (flatK encS 2 (sortS xs).toArray) cur).toList = _
        rw [flat_enc2]
        simpa [hm] using this
    · rw [hw]
      exact (upd_sortW w g n _ os).mono fun k _ hk => by simp [Value.ownBlock, hk]
end Go.Proofs.YtaedlmeaconflaaGreat.P
end
section
set_option linter.unusedVariables false
set_option linter.unusedSimpArgs false
namespace Go.Proofs.YtaedlmeaconflaaGreat.P
open Go.RowKit Go.Sort Go.Shelf Go.Proofs.YtaedlmeaconflaaGreatW.PrintWords Go.Proofs.YtaedlmeaconflaaGreatW.PrintLast Go.Proofs.YtaedlmeaconflaaGreatW.PrintMore
theorem S_ext {a b : S41} : a = b ↔ a.f0 = b.f0 ∧ a.f1 = b.f1 := by
  obtain ⟨a0, a1⟩ := a
  obtain ⟨b0, b1⟩ := b
  simp
instance : DecidableEq S41 := fun a b => decidable_of_iff (a.f0 = b.f0 ∧ a.f1 = b.f1) S_ext.symm
def cmpc (xs : List S41) : Nat → List S41
  | 0 => []
  | n + 1 => cmpc xs n ++ (if n = 0 ∨ xs[n]? ≠ xs[n - 1]? then xs[n]?.toList else [])
def compS (xs : List S41) : List S41 := cmpc xs xs.length
theorem eqSt (d : Nat) (w : World) (x y : S41) :
    (Op.equalIn (d + 2) 41 (.agg #[.int .i64 x.f0, .int .i64 x.f1]) (.agg #[.int .i64 y.f0, .int .i64 y.f1])).run Tryz.prog w = .ok (decide (x = y)) w := by
  rw [show decide (x = y) = (x.f0 == y.f0 && (x.f1 == y.f1)) by
    rw [Bool.eq_iff_iff]; simp [S_ext]]
  refine eqA_of Tryz.underlying41 (by kernel_rfl) ?_;refine eqf_cons (by rfl) (by go_simp; rfl) (by go_simp; rfl) (by go_simp) ?_
  exact eqf_last (by rfl) (by go_simp; rfl) (by go_simp; rfl) (by go_simp)
attribute [local go_sem high] eqSt
structure CInv (xs ys : List S41) (k j : Nat) : Prop where
  len : ys.length = xs.length
  lt : k < j
  le : j ≤ xs.length
  low : ys.take k = cmpc xs j
  high : ys.drop k = xs.drop k
theorem CInv.get {xs ys : List S41} {k j i : Nat} (h : CInv xs ys k j) (hi : k ≤ i) : ys[i]? = xs[i]? := by
  have h1 : (ys.drop k)[i - k]? = (xs.drop k)[i - k]? := by rw [h.high]
  rw [List.getElem?_drop, List.getElem?_drop, show k + (i - k) = i by omega] at h1
  exact h1
theorem CInv.skip {xs ys : List S41} {k j : Nat} (h : CInv xs ys k j) (hj : j < xs.length) (he : xs[j]? = xs[j - 1]?) : CInv xs ys k (j + 1) where
  len := h.len
  lt := Nat.lt_succ_of_lt h.lt
  le := hj
  low := by
    have := h.lt
    rw [cmpc, if_neg (by rintro (h0 | h0); omega; exact h0 he), List.append_nil]; exact h.low
  high := h.high
theorem CInv.keep {xs ys : List S41} {k j : Nat} (h : CInv xs ys k j) (hj : j < xs.length) (he : xs[j]? ≠ xs[j - 1]?) : CInv xs (ys.set k xs[j]) (k + 1) (j + 1) where
  len := by rw [List.length_set]; exact h.len
  lt := Nat.succ_lt_succ h.lt
  le := hj
  low := by
    have hk : k < (ys.set k xs[j]).length := by rw [List.length_set, h.len]; have := h.lt; omega
    rw [List.take_succ_eq_append_getElem hk, List.getElem_set_self, List.take_set_of_le (Nat.le_refl _), h.low, cmpc, if_pos (.inr he), List.getElem?_eq_getElem hj]
    rfl
  high := by
    rw [List.drop_set_of_lt (by omega), ← List.drop_drop, h.high, List.drop_drop]
theorem CInv.start {xs : List S41} {k : Nat} (hk : k < xs.length) (h1 : 1 ≤ k) (hc : cmpc xs k = xs.take k) (he : xs[k]? = xs[k - 1]?) : CInv xs xs k (k + 1) where
  len := rfl
  lt := Nat.lt_succ_self _
  le := hk
  low := by rw [cmpc, if_neg (by rintro (h0 | h0); omega; exact h0 he), List.append_nil, hc]
  high := rfl
theorem cmpc_next {xs : List S41} {k : Nat} (hk : k < xs.length) (hc : cmpc xs k = xs.take k) (he : xs[k]? ≠ xs[k - 1]?) : cmpc xs (k + 1) = xs.take (k + 1) := by
  rw [cmpc, if_pos (.inr he), hc, List.take_succ_eq_append_getElem hk, List.getElem?_eq_getElem hk]
  rfl
theorem CInv.done {xs ys : List S41} {k : Nat} (h : CInv xs ys k xs.length) : ys.take k = compS xs := h.low
theorem CInv.size {xs ys : List S41} {k : Nat} (h : CInv xs ys k xs.length) : (compS xs).length = k := by
  rw [← h.done, List.length_take, h.len]; have := h.lt; omega
theorem zeroCells_one (z : Value) (n : Nat) (a b : Value) (hz : z.cells = #[a, b]) (ha : a.oneCell' = true) (hb : b.oneCell' = true) : (Builtin.zeroCells z.cells n).toList.length = n * 2 ∧ ∀ v ∈ (Builtin.zeroCells z.cells n).toList, v.oneCell' = true := by
  rw [hz]
  constructor
  · simp [Builtin.zeroCells]
  · intro v hv
    unfold Builtin.zeroCells at hv
    rw [Array.mem_toList_iff, Array.mem_map] at hv
    obtain ⟨i, _, rfl⟩ := hv
    have : i % (#[a, b] : Array Value).size = 0 ∨ i % (#[a, b] : Array Value).size = 1 := Nat.mod_two_eq_zero_or_one i
    rcases this with h | h
    · rw [h]; exact ha
    · rw [h]; exact hb
theorem run_clear2 {P : Program} (w : World) (t e ty : TypeId) (z a' b' : Value) (ht : P.underlying t = some (.slice e)) (hv : ∀ w, (zeroValue e).run P w = .ok z w) (hz : z.cells = #[a', b']) (ha : a'.oneCell' = true) (hb : b'.oneCell' = true) (b o n c : Nat) (hn : 0 < n)
    (hc : ∀ j, j < n * 2 → (w.cell? ⟨b, o + j, none⟩).isSome = true) (hf : ∀ j, j < n * 2 → w.frozen? ⟨b, o + j, none⟩ = false) :
    (Builtin.clear_ #[t] ty #[.slice (some ⟨b, o, none⟩) n c]).run P w = .ok (.tuple #[]) (w.setCells b o (Builtin.zeroCells z.cells n).toList) := by
  obtain ⟨hl, h1⟩ := zeroCells_one z n a' b' hz ha hb
  have hst := run_storeCells_cells (P := P) b o (Builtin.zeroCells z.cells n).toList 0 w (by rw [hl]; simpa using hc) (by rw [hl]; simpa using hf) h1
  simp only [Nat.add_zero] at hst
  obtain ⟨m, rfl⟩ : ∃ m, n = m + 1 := ⟨n - 1, by omega⟩
  simp [Builtin.clear_, run_underlying ht, hv, hst]
theorem RowS.at_ {w : World} {base g n cap : Nat} {xs : List S41} (h : RowS w base (.slice (some ⟨g, 0, none⟩) n cap) xs) (i : Nat) (x : S41) (hx : xs[i]? = some x) :
    w.cell? ⟨g, i * 2, none⟩ = some (.int .i64 x.f0) ∧ w.cell? ⟨g, i * 2 + 1, none⟩ = some (.int .i64 x.f1) ∧ w.frozen? ⟨g, i * 2, none⟩ = false ∧ w.frozen? ⟨g, i * 2 + 1, none⟩ = false := by
  obtain rfl : n = xs.length := by
    obtain ⟨_, _, e⟩ := own_slice h
    injection e
  have hl := (List.getElem?_eq_some_iff.1 hx).1
  have hE := enc2_at (xs.map pS) i
  rw [List.getElem?_map, hx] at hE
  exact ⟨(World.ownsRow.cellAt h (i * 2) (by omega)).trans hE.1, (World.ownsRow.cellAt h (i * 2 + 1) (by omega)).trans hE.2, World.ownsRow.frozenAt h _, World.ownsRow.frozenAt h _⟩
theorem RowS.store {w : World} {base g n cap : Nat} {xs : List S41} (h : RowS w base (.slice (some ⟨g, 0, none⟩) n cap) xs) (i : Nat) (x : S41) :
    RowS ((w.setCell ⟨g, i * 2, none⟩ (.int .i64 x.f0)).setCell ⟨g, i * 2 + 1, none⟩ (.int .i64 x.f1)) base (.slice (some ⟨g, 0, none⟩) n cap) (xs.set i x) := by
  obtain rfl : n = xs.length := by
    obtain ⟨_, _, e⟩ := own_slice h
    injection e
  have h1 := (World.ownsRow.stored h (i * 2) (.int .i64 x.f0)).1
  have h2 := (World.ownsRow.stored h1 (i * 2 + 1) (.int .i64 x.f1)).1
  rw [enc2_set] at h2
  unfold RowS
  rw [List.length_set, List.map_set]
  exact h2
theorem wrapI (x : Int) {y : Int} (h : x = y) (h0 : 0 ≤ x) (h1 : x < 9223372036854775808) : IntKind.i64.wrap x = y := by
  subst h
  simp [IntKind.wrap, IntKind.bits, IntKind.signed]; omega
set_option maxHeartbeats 2000000 in
set_option maxRecDepth 100000 in
theorem scompact_any {base : Nat} {v : Value} {xs : List S41} {w : World} (ho : RowS w base v xs) :
    Calls Tryz.prog 95 #[v] w fun e w' => ∃ v', e = .returned v' ∧ RowS w' base v' (compS xs) ∧ Upd w w' (fun k => v.ownBlock = some k) := by
  by_cases h2 : xs.length < 2
  · have hc : compS xs = xs := by
      rcases xs with _ | ⟨x, _ | ⟨y, xs⟩⟩
      · rfl
      · simp [compS, cmpc]
      · simp at h2; omega
    rw [hc]
    obtain ⟨A, c, rfl⟩ := own_slice ho
    have d2 : decide ((xs.length : Int) < 2) = true := decide_eq_true (by omega)
    have HO := Lib.hid ho
    clear ho
    go_enter Tryz.func95, Tryz.ntmps95
    go_wp2
    go_ret
    exact ⟨_, rfl, HO.out, Upd.refl _ _⟩
  · obtain ⟨g, cap, rfl, hbg, hgl⟩ := World.ownsRow.form ho (by omega)
    have hcap : xs.length ≤ cap ∧ cap ≤ 9223372036854775807 := by
      rcases ho.2 with ⟨h, _⟩ | ⟨g', cap', cur, h, _, _, h1, h2, _⟩
      · cases h
      · injection h with _ _ h
        subst h
        exact ⟨h1, by simpa [maxLen] using h2⟩
    obtain ⟨hcap1, hcap2⟩ := hcap
    have HO := Lib.hid ho
    clear ho
    go_enter Tryz.func95, Tryz.ntmps95
    go_wp2
    go_loopw [3] (fun sk wr => ∃ m : Nat, sk = .int .i64 ((m + 1 : Nat) : Int) ∧ m + 1 ≤ xs.length ∧ RowKit.Hid (cmpc xs (m + 1) = xs.take (m + 1)) ∧ RowKit.Hid (RowS wr base (.slice (some ⟨g, 0, none⟩) xs.length cap) xs ∧ Upd w wr (· = g))) (fun sk _ => xs.length - (intOf sk).toNat)
    case atStart => exact ⟨0, rfl, by omega, Lib.hid (by
      rcases xs with _ | ⟨x, xs⟩
      · simp at h2
      · simp [cmpc]), Lib.hid ⟨HO.out, Upd.refl _ _⟩⟩
    case round =>
      obtain ⟨m, rfl, hm, HC, HR⟩ := hrel
      by_cases hlt : m + 1 < xs.length
      · obtain ⟨x, hx⟩ : ∃ x, xs[m + 1]? = some x := ⟨_, List.getElem?_eq_getElem hlt⟩
        obtain ⟨y, hy⟩ : ∃ y, xs[m]? = some y := ⟨_, List.getElem?_eq_getElem (by omega)⟩
        obtain ⟨x0, x1, _, _⟩ := HR.out.1.at_ (m + 1) x hx
        obtain ⟨y0, y1, _, _⟩ := HR.out.1.at_ m y hy
        have HX := Lib.hid hx; have HY := Lib.hid hy
        clear hx hy
        have hw1 : IntKind.i64.wrap (((m + 1 : Nat) : Int) - 1) = (m : Int) := wrapI _ (by omega) (by omega) (by omega)
        by_cases he : x = y
        · have de : decide (x = y) = true := decide_eq_true he
          go_wp2_with fail
          go_quiet (fail)
          go_wp2
          have HI := Lib.hid (CInv.start hlt (by omega) HC.out (by rw [HX.out, Nat.add_sub_cancel, HY.out, he]))
          clear x0 x1 y0 y1 hw1 de he
          go_loopw [3, 5] (fun sk s5 wt => ∃ (k j2 : Nat) (ys : List S41), sk = .int .i64 (k : Int) ∧ s5 = .int .i64 ((j2 + 1 : Nat) : Int) ∧ m + 1 + (j2 + 1) ≤ xs.length ∧ k < m + 1 + (j2 + 1) ∧ RowKit.Hid (CInv xs ys k (m + 1 + (j2 + 1))) ∧ RowKit.Hid (RowS wt base (.slice (some ⟨g, 0, none⟩) xs.length cap) ys ∧ Upd w wt (· = g))) (fun _ s5 _ => xs.length - (intOf s5).toNat)
          case atStart => exact ⟨m + 1, 0, xs, rfl, rfl, by omega, by omega, HI, Lib.hid ⟨HR.out.1, HR.out.2.drewN _⟩⟩
          case round =>
            obtain ⟨k, j2, ys, rfl, rfl, hj, hk, HJ, HS⟩ := hrel
            have hlen := HJ.out.len
            by_cases hlt2 : m + 1 + (j2 + 1) < xs.length
            · obtain ⟨x', hx'⟩ : ∃ x', xs[m + 1 + (j2 + 1)]? = some x' := ⟨_, List.getElem?_eq_getElem hlt2⟩
              obtain ⟨y', hy'⟩ : ∃ y', xs[m + 1 + j2]? = some y' := ⟨_, List.getElem?_eq_getElem (by omega)⟩
              obtain ⟨z', hz'⟩ : ∃ z', ys[k]? = some z' := ⟨_, List.getElem?_eq_getElem (by omega)⟩
              obtain ⟨x0, x1, _, _⟩ := HS.out.1.at_ _ x' ((HJ.out.get (by omega)).trans hx')
              obtain ⟨y0, y1, _, _⟩ := HS.out.1.at_ _ y' ((HJ.out.get (by omega)).trans hy')
              obtain ⟨_, _, q0, q1⟩ := HS.out.1.at_ _ z' hz'
              obtain ⟨c0, c1, _, _⟩ := HS.out.1.at_ _ z' hz'
              rw [show (m + 1 + (j2 + 1)) * 2 = (m + 1) * 2 + (j2 + 1) * 2 by omega] at x0 x1
              rw [show (m + 1 + j2) * 2 = (m + 1) * 2 + j2 * 2 by omega] at y0 y1
              have HX' := Lib.hid hx'; have HY' := Lib.hid hy'
              have hw2 : IntKind.i64.wrap (((j2 + 1 : Nat) : Int) - 1) = (j2 : Int) := wrapI _ (by omega) (by omega) (by omega)
              clear hx' hy' hz'
              by_cases he' : x' = y'
              · have de' : decide (x' = y') = true := decide_eq_true he'
                have HI' := Lib.hid (HJ.out.skip hlt2 (by rw [HX'.out, show m + 1 + (j2 + 1) - 1 = m + 1 + j2 by omega, HY'.out, he']))
                clear he'
                go_wp2_with fail
                go_quiet (fail)
                go_wp2
                go_roundw
                case rel => exact ⟨k, j2 + 1, ys, rfl, by go_num, by omega, by omega, Lib.hid (by have := HI'.out; rwa [show m + 1 + (j2 + 1) + 1 = m + 1 + (j2 + 1 + 1) by omega] at this), Lib.hid ⟨HS.out.1, HS.out.2.drewN _⟩⟩
                case measure => simp [intOf]; omega
              · have de' : decide (x' = y') = false := decide_eq_false he'
                have HI' := Lib.hid (HJ.out.keep hlt2 (by rw [HX'.out, show m + 1 + (j2 + 1) - 1 = m + 1 + j2 by omega, HY'.out]; intro h; injection h with h; exact he' h))
                have hxe : xs[m + 1 + (j2 + 1)] = x' := by have := HX'.out; rw [List.getElem?_eq_getElem hlt2] at this; injection this
                rw [hxe] at HI'
                clear he' hxe
                go_wp2_with fail
                go_quiet (fail)
                go_wp2
                go_roundw
                case rel => exact ⟨k + 1, j2 + 1, ys.set k x', by go_num, by go_num, by omega, by omega, Lib.hid (by have := HI'.out; rwa [show m + 1 + (j2 + 1) + 1 = m + 1 + (j2 + 1 + 1) by omega] at this), Lib.hid ⟨RowS.store (w := wr.drewN _) HS.out.1 k x', ((HS.out.2.drewN _).setCell (.inl rfl) _).setCell (.inl rfl) _⟩⟩
                case measure => simp [intOf]; omega
            · have hje : m + 1 + (j2 + 1) = xs.length := by omega
              have HF := Lib.hid (show CInv xs ys k xs.length by have := HJ.out; rwa [hje] at this)
              have hk1 : k < xs.length := by omega
              obtain ⟨vs, hcl⟩ : ∃ vs, ∀ ty, (Builtin.clear_ #[24] ty #[.slice (some ⟨g, k * 2, none⟩) (xs.length - k) (cap - k)]).run Tryz.prog wr = .ok (.tuple #[]) (wr.setCells g (k * 2) vs) := ⟨_, fun ty =>
                run_clear2 wr _ _ ty _ (.int .i64 0) (.int .i64 0) Tryz.underlying24 Tryz.zeroValue41 rfl rfl rfl g (k * 2) _ _ (by omega) (fun t ht => by
                  have h := World.ownsRow.cellAt (n := xs.length) (by have h := HS.out.1; unfold RowS at h; rw [hlen] at h; exact h) (k * 2 + t) (by omega)
                  rw [h, List.getElem?_eq_getElem (by rw [enc2_len, List.length_map]; omega)]; rfl) (fun t ht => World.ownsRow.frozenAt (n := xs.length) (by have h := HS.out.1; unfold RowS at h; rw [hlen] at h; exact h) _)⟩
              have hde : decide ((((j2 + 1 : Nat) : Int)) < (xs.length - (m + 1) : Nat)) = false := decide_eq_false (by omega)
              clear hje
              go_wp2
              (try simp only [Exit.inBlock, Exit.then])
              go_ret
              obtain ⟨zs, hz, ht⟩ := own_setCells vs (k * 2) wr _ (by have h := HS.out.1; unfold RowS at h; rw [hlen] at h; exact h)
              have h3 := own_take hz (m := k) (by omega)
              rw [ht, enc2_take, ← List.map_take, HF.out.done] at h3
              refine ⟨_, rfl, ?_, (HS.out.2.setCells (.inl rfl) vs (k * 2)).mono (fun q _ hq => by simp [Value.ownBlock, hq])⟩
              unfold RowS
              rw [HF.out.size]
              exact h3
        · have de : decide (x = y) = false := decide_eq_false he
          clear he
          go_wp2_with fail
          go_quiet (fail)
          go_wp2
          go_roundw
          case rel => exact ⟨m + 1, by go_num, by omega, Lib.hid (cmpc_next hlt HC.out (by rw [HX.out, Nat.add_sub_cancel, HY.out]; intro h; injection h with h; simp [h] at de)), Lib.hid ⟨HR.out.1, HR.out.2.drewN _⟩⟩
          case measure => simp [intOf]; omega
      · have hm2 : xs.length = m + 1 := by omega
        have hcs : compS xs = xs := by
          have := HC.out
          unfold compS
          rw [hm2, this, ← hm2, List.take_length]
        have hdf : decide ((((m + 1 : Nat) : Int)) < (xs.length : Nat)) = false := decide_eq_false (by omega)
        have HCS := Lib.hid hcs
        clear hcs hm2
        go_wp2
        go_ret
        exact ⟨_, rfl, by rw [HCS.out]; exact HR.out.1, HR.out.2.mono (fun q _ hq => by simp [Value.ownBlock, hq])⟩
end Go.Proofs.YtaedlmeaconflaaGreat.P
end
section
set_option linter.unusedVariables false
set_option linter.unusedSimpArgs false
namespace Go.Proofs.YtaedlmeaconflaaGreat.P
open Go.RowKit Go.Sort Go.Shelf Go.Proofs.YtaedlmeaconflaaGreatW.PrintWords Go.Proofs.YtaedlmeaconflaaGreatW.PrintLast Go.Proofs.YtaedlmeaconflaaGreatW.PrintMore
def setS (xs : List S41) : List S41 := compS (sortS xs)
theorem ssortall_any (A : Option Addr) (c : Nat) (xs : List S41) (w : World) (hr : Kd.C k41 w A xs.length xs) (hb : xs.length * 16 ≤ 140737488355328) :
    Calls Tryz.prog 56 #[.slice A xs.length c] w fun e w' => ∃ v, e = .returned v ∧ RowS w' w.heap.size v (setS xs) ∧ Below w.heap.size w w' := by
  have HC := Lib.hid (sclone_any A c xs w hr hb)
  have HL := Lib.hid (show xs.length < 4611686018427387904 by omega)
  clear hr hb
  go_enter Tryz.func56, Tryz.ntmps56
  go_wp2_with fail
  refine HC.out.mono ?_
  rintro e w1 ⟨v1, rfl, ho, hb⟩
  have HO := Lib.hid (And.intro ho hb)
  obtain ⟨A1, c1, rfl⟩ := own_slice ho
  clear ho hb
  go_wp2_with fail
  refine (ssort_any HO.out.1 HL.out).mono ?_
  rintro e w2 ⟨rfl, ho2, hu2⟩
  have HO2 := Lib.hid (And.intro ho2 hu2)
  clear ho2 hu2
  go_wp2_with fail
  refine (scompact_any HO2.out.1).mono ?_
  rintro e w3 ⟨v3, rfl, ho3, hu3⟩
  have HO3 := Lib.hid (And.intro ho3 hu3)
  obtain ⟨A3, c3, rfl⟩ := own_slice ho3
  clear ho3 hu3
  go_wp2
  go_ret
  refine ⟨_, rfl, HO3.out.1, HO.out.2.trans ((HO2.out.2.trans HO3.out.2).below (Nat.le_of_lt_succ (Nat.lt_succ_of_le HO.out.2.size)) (fun k hk h => ?_))⟩
  have := (HO.out.1.lt k h).1
  omega
def stamp_Sort.f (l : List S41) : Option (List S41) := if l.length < 8796093022208 then some (setS l) else none
theorem stamp_Sort.calls (A0 : Option Addr) (c0 : Nat) (l0 : List S41) (r : List S41) (w : World) (hr0 : Kd.C k41 w A0 l0.length l0) (_hc0 : l0.length ≤ c0) (h : stamp_Sort.f l0 = some r) :
    Calls Tryz.prog 56 #[.slice A0 l0.length c0] w fun e w' => ∃ v0_ : Value, e = .returned (v0_) ∧ Kd.R k41 41 w' w.heap.size (fun _ => True) v0_ r ∧ Below w.heap.size w w' := by
  unfold stamp_Sort.f at h
  split at h
  · injection h with h
    subst h
    exact (ssortall_any A0 c0 l0 w hr0 (by omega)).mono fun e w' ⟨v, he, ho, hb⟩ => ⟨v, he, ho.R, hb⟩
  · cases h
end Go.Proofs.YtaedlmeaconflaaGreat.P
end
section
set_option linter.unusedVariables false
set_option linter.unusedSimpArgs false
namespace Go.Proofs.YtaedlmeaconflaaGreat.P
open Go.RowKit Go.Sort Go.Shelf Go.Proofs.YtaedlmeaconflaaGreatW.PrintWords Go.Proofs.YtaedlmeaconflaaGreatW.PrintLast Go.Proofs.YtaedlmeaconflaaGreatW.PrintMore
abbrev lessS (t x : S41) : Bool := decide (cmpS x t < 0)
theorem C_atS {w : World} {ad : Addr} {n : Nat} {xs : List S41} (h : Kd.C k41 w (some ad) n xs) (i : Nat) (hi : i < xs.length) : w.cell? (ad.add (i * 2)) = some (.int .i64 xs[i].f0) ∧ w.cell? ⟨(ad.add (i * 2)).block, (ad.add (i * 2)).off + 1, none⟩ = some (.int .i64 xs[i].f1) := by
  obtain ⟨ad', e, c0, c1⟩ := at_T41 h (i : Int) (by omega) (by have := h.1; omega)
  injection e with e
  subst e
  have er : rd_T41 xs (i : Int) = xs[i] := by
    unfold rd_T41
    rw [Int.toNat_natCast, List.getD_eq_getElem?_getD, List.getElem?_eq_getElem hi]
    rfl
  rw [er, Int.toNat_natCast] at c0 c1
  exact ⟨c0, c1⟩
end Go.Proofs.YtaedlmeaconflaaGreat.P
end
section
set_option linter.unusedVariables false
set_option linter.unusedSimpArgs false
namespace Go.Proofs.YtaedlmeaconflaaGreat.P
open Go.RowKit Go.Sort Go.Shelf Go.Proofs.YtaedlmeaconflaaGreatW.PrintWords Go.Proofs.YtaedlmeaconflaaGreatW.PrintLast Go.Proofs.YtaedlmeaconflaaGreatW.PrintMore
theorem RowS.lower {w : World} {b b' : Nat} {v : Value} {xs : List S41} (h : RowS w b v xs) (hb : b' ≤ b) : RowS w b' v xs :=
  ⟨h.1, h.2.imp id fun ⟨g, cap, cur, h1, h2, h3⟩ => ⟨g, cap, cur, h1, Nat.le_trans hb h2, h3⟩⟩
end Go.Proofs.YtaedlmeaconflaaGreat.P
end
section
set_option linter.unusedVariables false
set_option linter.unusedSimpArgs false
namespace Go.Proofs.YtaedlmeaconflaaGreat.P
open Go.RowKit Go.Sort Go.Shelf Go.Proofs.YtaedlmeaconflaaGreatW.PrintWords Go.Proofs.YtaedlmeaconflaaGreatW.PrintLast Go.Proofs.YtaedlmeaconflaaGreatW.PrintMore
theorem C_atD {w : World} {ad : Addr} {n : Nat} {xs : List S26} (h : Kd.C k26 w (some ad) n xs) (i : Nat) (hi : i < xs.length) : ∃ A1 c1, w.cell? (ad.add (i * 2)) = some (.int .i64 xs[i].f0) ∧ w.cell? ⟨(ad.add (i * 2)).block, (ad.add (i * 2)).off + 1, none⟩ = some (.slice A1 xs[i].f1.length c1) ∧ xs[i].f1.length ≤ c1 ∧ Kd.C k41 w A1 xs[i].f1.length xs[i].f1 := by
  obtain ⟨ad', A1, c1, e, c0, c1', hl, hC⟩ := at_T26 h (i : Int) (by omega) (by have := h.1; omega)
  injection e with e
  subst e
  have er : rd_T26 xs (i : Int) = xs[i] := by
    unfold rd_T26
    rw [Int.toNat_natCast, List.getD_eq_getElem?_getD, List.getElem?_eq_getElem hi]
    rfl
  rw [er, Int.toNat_natCast] at c0 c1'
  rw [er] at hl hC
  exact ⟨A1, c1, c0, c1', hl, hC⟩
theorem infoD : (Tryz.prog.info? 26).map (fun i => (i.zero, i.size, i.bytes)) = some (some (.agg #[(.int .i64 0), (.slice none 0 0)]), 2, 32) := by kernel_rfl
def mapD (F : List S41 → List S41) (ds : List S26) : List S26 := ds.map fun x => ⟨x.f0, F x.f1⟩
end Go.Proofs.YtaedlmeaconflaaGreat.P
end
section
set_option linter.unusedVariables false
set_option linter.unusedSimpArgs false

end
section
set_option linter.unusedVariables false
set_option linter.unusedSimpArgs false
namespace Go.Proofs.YtaedlmeaconflaaGreat.P
open Go.RowKit Go.Proofs.YtaedlmeaconflaaGreatW.PrintWords Go.Proofs.YtaedlmeaconflaaGreatW.PrintLast Go.Proofs.YtaedlmeaconflaaGreatW.PrintMore
attribute [local go_sem] max2_int min2_int max_two min_two max_three min_three max_four min_four   -- for this text's walks alone
set_option linter.unusedVariables false
set_option linter.unusedSimpArgs false
theorem eqA41 (d : Nat) (w : World) (x0 y0 : Int) (x1 y1 : Int) :
  (Op.equalIn (d + 2) 41 (.agg #[.int .i64 x0, .int .i64 x1]) (.agg #[.int .i64 y0, .int .i64 y1])).run Tryz.prog w = .ok (x0 == y0 && (x1 == y1)) w := by
 refine eqA_of Tryz.underlying41 (by kernel_rfl) ?_;refine eqf_cons (by rfl) (by go_simp; rfl) (by go_simp; rfl) (by go_simp) ?_
 exact eqf_last (by rfl) (by go_simp; rfl) (by go_simp; rfl) (by go_simp)
end Go.Proofs.YtaedlmeaconflaaGreat.P
end
section
set_option linter.unusedVariables false
set_option linter.unusedSimpArgs false
namespace Go.Proofs.YtaedlmeaconflaaGreat.P
open Go.RowKit Go.Proofs.YtaedlmeaconflaaGreatW.PrintWords Go.Proofs.YtaedlmeaconflaaGreatW.PrintLast Go.Proofs.YtaedlmeaconflaaGreatW.PrintMore
attribute [local go_sem] max2_int min2_int max_two min_two max_three min_three max_four min_four   -- for this text's walks alone
set_option linter.unusedVariables false
set_option linter.unusedSimpArgs false
attribute [local go_sem high] eqA41
def api_Stamp_61.l0 : Nat → List (S41) → List (S41) → Int → Int → Option (Bool)
 | 0, _, _, _, _ => none
 | k + 1, x0, x1, x12, x13 => if x13 < x12 then (if 0 ≤ x13 then (if x13 < (x0.length : Int) then (if x13 < (x1.length : Int) then (if (!(((rd_T41 x0 x13).f0) == ((rd_T41 x1 x13).f0)) || (!(((rd_T41 x0 x13).f1) == ((rd_T41 x1 x13).f1)))) = true then (some false) else (api_Stamp_61.l0 k x0 x1 x12 (wrap64 (x13 + 1)))) else (none)) else (none)) else (none)) else (some true)
def api_Stamp_61.f (k : Nat) (l0 : List (S41)) (l1 : List (S41)) : Option (Bool) := if (l0.length : Int) = (l1.length : Int) then (api_Stamp_61.l0 k l0 l1 (l0.length : Int) 0) else (some false)
set_option maxHeartbeats 8000000 in
set_option maxRecDepth 100000 in
theorem api_Stamp_61.calls (k : Nat) (A0 : Option Addr) (c0 : Nat) (l0 : List (S41)) (A1 : Option Addr) (c1 : Nat) (l1 : List (S41)) (r : Bool) (w : World) (hr0 : Kd.C k41 w A0 l0.length l0) (hc0 : l0.length ≤ c0) (hr1 : Kd.C k41 w A1 l1.length l1) (hc1 : l1.length ≤ c1) (h : api_Stamp_61.f k l0 l1 = some r) :
  Calls Tryz.prog 61 #[.slice A0 l0.length c0, .slice A1 l1.length c1] w fun e w' => e = .returned (.bool r) ∧ Drawn0 w w' := by
 have hu41 := Tryz.underlying41
 have HR0 := Aside0.mk hr0
 have HC0 := Aside0.mk hc0
 clear hr0 hc0
 have HR1 := Aside0.mk hr1
 have HC1 := Aside0.mk hc1
 clear hr1 hc1
 have H : (if (l0.length : Int) = (l1.length : Int) then (api_Stamp_61.l0 k l0 l1 (l0.length : Int) 0) else (some false)) = some r := h
 clear h
 by_cases c3 : (l0.length : Int) = (l1.length : Int)
 ·rw [if_pos c3] at H
  have c3b0 : ((l0.length : Int) == (l1.length : Int)) = true := beq_iff_eq.mpr c3
  have c3b1 : ((l0.length : Int) != (l1.length : Int)) = false := bne_eq_false_iff_eq.mpr c3
  have c3b2 : (l0.length == l1.length) = true := by first | simpa using c3 | (simp at c3 ⊢; omega)
  clear c3
  have H' := Aside0.mk H
  clear H
  go_enter Tryz.func61, Tryz.ntmps61
  go_wp2
  repeat (go_quiet (fail); try go_wp2)
  go_loopg [13] k (fun kq v13 w' => ∃ (x13_1 : Int), v13 = .int .i64 x13_1 ∧ Aside0 (api_Stamp_61.l0 kq l0 l1 (l0.length : Int) x13_1 = some r) ∧ Aside0 (kq ≤ k) ∧ Drawn0 w w')
  case atStart => exact ⟨(0), (by first | rfl | (simp; done) | (simp [*]; done)), H', ⟨Nat.le_refl _⟩, by repeat (first | exact Drawn0.refl _ | apply Drawn0.step)⟩
  case round =>
   clear H'
   try clear c1
   try clear p2
   try clear c3
   try clear c3b0
   try clear c3b1
   try clear c3b2
   obtain ⟨x13_1, rfl, HA, HK1, ⟨m1, rfl⟩⟩ := hrel
   cases gk with
   | zero => exact absurd HA.out (by simp [api_Stamp_61.l0])
   | succ k1 =>
    have H := HA.out;clear HA
    simp only [api_Stamp_61.l0] at H
    by_cases c4 : x13_1 < (l0.length : Int)
    ·rw [if_pos c4] at H
     have c4b0 : decide (x13_1 < (l0.length : Int)) = true := decide_eq_true c4
     clear c4
     by_cases c5 : 0 ≤ x13_1
     ·rw [if_pos c5] at H
      have c5b0 : decide (0 ≤ x13_1) = true := decide_eq_true c5
      clear c5
      by_cases c6 : x13_1 < (l0.length : Int)
      ·rw [if_pos c6] at H
       have c6b0 : decide (x13_1 < (l0.length : Int)) = true := decide_eq_true c6
       clear c6
       by_cases c7 : x13_1 < (l1.length : Int)
       ·rw [if_pos c7] at H
        have c7b0 : decide (x13_1 < (l1.length : Int)) = true := decide_eq_true c7
        clear c7
        by_cases c8 : (!(((rd_T41 l0 x13_1).f0) == ((rd_T41 l1 x13_1).f0)) || (!(((rd_T41 l0 x13_1).f1) == ((rd_T41 l1 x13_1).f1)))) = true
        ·rw [if_pos c8] at H
         have c8b0 : (!(((rd_T41 l0 x13_1).f0) == ((rd_T41 l1 x13_1).f0)) || (!(((rd_T41 l0 x13_1).f1) == ((rd_T41 l1 x13_1).f1)))) = true := c8
         clear c8;obtain rfl := Option.some.inj H
         have p287 : 0 ≤ (x13_1 : Int) := of_decide_eq_true (by first | (with_reducible assumption) | assumption)
         have q287 : x13_1 < (l0.length : Int) := of_decide_eq_true (by first | (with_reducible assumption) | assumption)
         obtain ⟨ad287, e287, hx287_0, hx287_1⟩ := at_T41 HR0.out x13_1 p287 q287
         cases e287
         replace p287 := eq_true p287
         replace q287 := eq_true q287
         have p288 : 0 ≤ (x13_1 : Int) := of_decide_eq_true (by first | (with_reducible assumption) | assumption)
         have q288 : x13_1 < (l1.length : Int) := of_decide_eq_true (by first | (with_reducible assumption) | assumption)
         obtain ⟨ad288, e288, hx288_0, hx288_1⟩ := at_T41 HR1.out x13_1 p288 q288
         cases e288
         replace p288 := eq_true p288
         replace q288 := eq_true q288
         go_wp2
         repeat (go_quiet (fail); try go_wp2)
         go_ret
         exact ⟨by first | rfl | (simp; done) | (simp [*]; done), by repeat (first | exact Drawn0.refl _ | apply Drawn0.step)⟩
        ·rw [if_neg c8] at H
         have c8b0 : (!(((rd_T41 l0 x13_1).f0) == ((rd_T41 l1 x13_1).f0)) || (!(((rd_T41 l0 x13_1).f1) == ((rd_T41 l1 x13_1).f1)))) = false := by simpa using c8
         clear c8
         have H' := Aside0.mk H
         clear H
         have p287 : 0 ≤ (x13_1 : Int) := of_decide_eq_true (by first | (with_reducible assumption) | assumption)
         have q287 : x13_1 < (l0.length : Int) := of_decide_eq_true (by first | (with_reducible assumption) | assumption)
         obtain ⟨ad287, e287, hx287_0, hx287_1⟩ := at_T41 HR0.out x13_1 p287 q287
         cases e287
         replace p287 := eq_true p287
         replace q287 := eq_true q287
         have p288 : 0 ≤ (x13_1 : Int) := of_decide_eq_true (by first | (with_reducible assumption) | assumption)
         have q288 : x13_1 < (l1.length : Int) := of_decide_eq_true (by first | (with_reducible assumption) | assumption)
         obtain ⟨ad288, e288, hx288_0, hx288_1⟩ := at_T41 HR1.out x13_1 p288 q288
         cases e288
         replace p288 := eq_true p288
         replace q288 := eq_true q288
         go_wp2
         repeat (go_quiet (fail); try go_wp2)
         go_roundg k1
         case measure => have := HK1.out; omega
         case rel => exact ⟨(wrap64 (x13_1 + 1)), (by first | rfl | (simp; done) | (simp [*]; done)), H', ⟨by have := HK1.out; omega⟩, by repeat (first | exact Drawn0.refl _ | apply Drawn0.step)⟩
       ·rw [if_neg c7] at H
        exact absurd H (by simp)
      ·rw [if_neg c6] at H
       exact absurd H (by simp)
     ·rw [if_neg c5] at H
      exact absurd H (by simp)
    ·rw [if_neg c4] at H
     have c4b0 : decide (x13_1 < (l0.length : Int)) = false := decide_eq_false c4
     clear c4;obtain rfl := Option.some.inj H
     go_wp2
     repeat (go_quiet (fail); try go_wp2)
     go_ret
     exact ⟨by first | rfl | (simp; done) | (simp [*]; done), by repeat (first | exact Drawn0.refl _ | apply Drawn0.step)⟩
 ·rw [if_neg c3] at H
  have c3b0 : ((l0.length : Int) == (l1.length : Int)) = false := beq_eq_false_iff_ne.mpr c3
  have c3b1 : ((l0.length : Int) != (l1.length : Int)) = true := bne_iff_ne.mpr c3
  have c3b2 : (l0.length == l1.length) = false := by first | simpa using c3 | (simp at c3 ⊢; omega)
  obtain rfl := Option.some.inj H
  go_enter Tryz.func61, Tryz.ntmps61
  go_wp2
  repeat (go_quiet (fail); try go_wp2)
  go_ret
  exact ⟨by first | rfl | (simp; done) | (simp [*]; done), by repeat (first | exact Drawn0.refl _ | apply Drawn0.step)⟩
def slices_Equal_byte_byte.l0 : Nat → List Int → List Int → Int → Int → Option (Bool)
 | 0, _, _, _, _ => none
 | k + 1, x0, x1, x12, x13 => if x13 < x12 then (if 0 ≤ x13 then (if x13 < (x0.length : Int) then (if x13 < (x1.length : Int) then (if (rd x0 x13) = (rd x1 x13) then (slices_Equal_byte_byte.l0 k x0 x1 x12 (wrap64 (x13 + 1))) else (some false)) else (none)) else (none)) else (none)) else (some true)
def slices_Equal_byte_byte.f (k : Nat) (l0 : List Int) (l1 : List Int) : Option (Bool) := if (l0.length : Int) = (l1.length : Int) then (slices_Equal_byte_byte.l0 k l0 l1 (l0.length : Int) 0) else (some false)
set_option maxHeartbeats 8000000 in
set_option maxRecDepth 100000 in
theorem slices_Equal_byte_byte.calls (k : Nat) (A0 : Option Addr) (c0 : Nat) (l0 : List Int) (A1 : Option Addr) (c1 : Nat) (l1 : List Int) (r : Bool) (w : World) (hr0 : Kd.C (Kd.int .u8) w A0 l0.length l0) (hc0 : l0.length ≤ c0) (hr1 : Kd.C (Kd.int .u8) w A1 l1.length l1) (hc1 : l1.length ≤ c1) (h : slices_Equal_byte_byte.f k l0 l1 = some r) :
  Calls Tryz.prog 40 #[.slice A0 l0.length c0, .slice A1 l1.length c1] w fun e w' => e = .returned (.bool r) ∧ Drawn0 w w' := by
 have HR0 := Aside0.mk hr0
 have HC0 := Aside0.mk hc0
 clear hr0 hc0
 have HR1 := Aside0.mk hr1
 have HC1 := Aside0.mk hc1
 clear hr1 hc1
 have H : (if (l0.length : Int) = (l1.length : Int) then (slices_Equal_byte_byte.l0 k l0 l1 (l0.length : Int) 0) else (some false)) = some r := h
 clear h
 by_cases c3 : (l0.length : Int) = (l1.length : Int)
 ·rw [if_pos c3] at H
  have c3b0 : ((l0.length : Int) == (l1.length : Int)) = true := beq_iff_eq.mpr c3
  have c3b1 : ((l0.length : Int) != (l1.length : Int)) = false := bne_eq_false_iff_eq.mpr c3
  have c3b2 : (l0.length == l1.length) = true := by first | simpa using c3 | (simp at c3 ⊢; omega)
  clear c3
  have H' := Aside0.mk H
  clear H
  go_enter Tryz.func40, Tryz.ntmps40
  go_wp2
  repeat (go_quiet (fail); try go_wp2)
  go_loopg [13] k (fun kq v13 w' => ∃ (x13_1 : Int), v13 = .int .i64 x13_1 ∧ Aside0 (slices_Equal_byte_byte.l0 kq l0 l1 (l0.length : Int) x13_1 = some r) ∧ Aside0 (kq ≤ k) ∧ Drawn0 w w')
  case atStart => exact ⟨(0), (by first | rfl | (simp; done) | (simp [*]; done)), H', ⟨Nat.le_refl _⟩, by repeat (first | exact Drawn0.refl _ | apply Drawn0.step)⟩
  case round =>
   clear H'
   try clear c1
   try clear p2
   try clear c3
   try clear c3b0
   try clear c3b1
   try clear c3b2
   obtain ⟨x13_1, rfl, HA, HK1, ⟨m1, rfl⟩⟩ := hrel
   cases gk with
   | zero => exact absurd HA.out (by simp [slices_Equal_byte_byte.l0])
   | succ k1 =>
    have H := HA.out;clear HA
    simp only [slices_Equal_byte_byte.l0] at H
    by_cases c4 : x13_1 < (l0.length : Int)
    ·rw [if_pos c4] at H
     have c4b0 : decide (x13_1 < (l0.length : Int)) = true := decide_eq_true c4
     clear c4
     by_cases c5 : 0 ≤ x13_1
     ·rw [if_pos c5] at H
      have c5b0 : decide (0 ≤ x13_1) = true := decide_eq_true c5
      clear c5
      by_cases c6 : x13_1 < (l0.length : Int)
      ·rw [if_pos c6] at H
       have c6b0 : decide (x13_1 < (l0.length : Int)) = true := decide_eq_true c6
       clear c6
       by_cases c7 : x13_1 < (l1.length : Int)
       ·rw [if_pos c7] at H
        have c7b0 : decide (x13_1 < (l1.length : Int)) = true := decide_eq_true c7
        clear c7
        by_cases c8 : (rd l0 x13_1) = (rd l1 x13_1)
        ·rw [if_pos c8] at H
         have c8b0 : ((rd l0 x13_1) == (rd l1 x13_1)) = true := beq_iff_eq.mpr c8
         have c8b1 : ((rd l0 x13_1) != (rd l1 x13_1)) = false := bne_eq_false_iff_eq.mpr c8
         clear c8
         have H' := Aside0.mk H
         clear H
         have p293 : 0 ≤ (x13_1 : Int) := of_decide_eq_true (by first | (with_reducible assumption) | assumption)
         have q293 : x13_1 < (l0.length : Int) := of_decide_eq_true (by first | (with_reducible assumption) | assumption)
         obtain ⟨ad293, e293, hx293_0⟩ := Kd.at_int HR0.out x13_1 p293 q293
         cases e293
         replace p293 := eq_true p293
         replace q293 := eq_true q293
         have p294 : 0 ≤ (x13_1 : Int) := of_decide_eq_true (by first | (with_reducible assumption) | assumption)
         have q294 : x13_1 < (l1.length : Int) := of_decide_eq_true (by first | (with_reducible assumption) | assumption)
         obtain ⟨ad294, e294, hx294_0⟩ := Kd.at_int HR1.out x13_1 p294 q294
         cases e294
         replace p294 := eq_true p294
         replace q294 := eq_true q294
         go_wp2
         repeat (go_quiet (fail); try go_wp2)
         go_roundg k1
         case measure => have := HK1.out; omega
         case rel => exact ⟨(wrap64 (x13_1 + 1)), (by first | rfl | (simp; done) | (simp [*]; done)), H', ⟨by have := HK1.out; omega⟩, by repeat (first | exact Drawn0.refl _ | apply Drawn0.step)⟩
        ·rw [if_neg c8] at H
         have c8b0 : ((rd l0 x13_1) == (rd l1 x13_1)) = false := beq_eq_false_iff_ne.mpr c8
         have c8b1 : ((rd l0 x13_1) != (rd l1 x13_1)) = true := bne_iff_ne.mpr c8
         obtain rfl := Option.some.inj H
         have p293 : 0 ≤ (x13_1 : Int) := of_decide_eq_true (by first | (with_reducible assumption) | assumption)
         have q293 : x13_1 < (l0.length : Int) := of_decide_eq_true (by first | (with_reducible assumption) | assumption)
         obtain ⟨ad293, e293, hx293_0⟩ := Kd.at_int HR0.out x13_1 p293 q293
         cases e293
         replace p293 := eq_true p293
         replace q293 := eq_true q293
         have p294 : 0 ≤ (x13_1 : Int) := of_decide_eq_true (by first | (with_reducible assumption) | assumption)
         have q294 : x13_1 < (l1.length : Int) := of_decide_eq_true (by first | (with_reducible assumption) | assumption)
         obtain ⟨ad294, e294, hx294_0⟩ := Kd.at_int HR1.out x13_1 p294 q294
         cases e294
         replace p294 := eq_true p294
         replace q294 := eq_true q294
         go_wp2
         repeat (go_quiet (fail); try go_wp2)
         go_ret
         exact ⟨by first | rfl | (simp; done) | (simp [*]; done), by repeat (first | exact Drawn0.refl _ | apply Drawn0.step)⟩
       ·rw [if_neg c7] at H
        exact absurd H (by simp)
      ·rw [if_neg c6] at H
       exact absurd H (by simp)
     ·rw [if_neg c5] at H
      exact absurd H (by simp)
    ·rw [if_neg c4] at H
     have c4b0 : decide (x13_1 < (l0.length : Int)) = false := decide_eq_false c4
     clear c4;obtain rfl := Option.some.inj H
     go_wp2
     repeat (go_quiet (fail); try go_wp2)
     go_ret
     exact ⟨by first | rfl | (simp; done) | (simp [*]; done), by repeat (first | exact Drawn0.refl _ | apply Drawn0.step)⟩
 ·rw [if_neg c3] at H
  have c3b0 : ((l0.length : Int) == (l1.length : Int)) = false := beq_eq_false_iff_ne.mpr c3
  have c3b1 : ((l0.length : Int) != (l1.length : Int)) = true := bne_iff_ne.mpr c3
  have c3b2 : (l0.length == l1.length) = false := by first | simpa using c3 | (simp at c3 ⊢; omega)
  obtain rfl := Option.some.inj H
  go_enter Tryz.func40, Tryz.ntmps40
  go_wp2
  repeat (go_quiet (fail); try go_wp2)
  go_ret
  exact ⟨by first | rfl | (simp; done) | (simp [*]; done), by repeat (first | exact Drawn0.refl _ | apply Drawn0.step)⟩
end Go.Proofs.YtaedlmeaconflaaGreat.P
end
section
set_option linter.unusedVariables false
set_option linter.unusedSimpArgs false
namespace Go.Proofs.YtaedlmeaconflaaGreat.P
open Go.RowKit Go.Sort Go.Shelf Go.Proofs.YtaedlmeaconflaaGreatW.PrintWords Go.Proofs.YtaedlmeaconflaaGreatW.PrintLast Go.Proofs.YtaedlmeaconflaaGreatW.PrintMore
theorem D_ext {a b : S26} : a = b ↔ a.f0 = b.f0 ∧ a.f1 = b.f1 := by
  obtain ⟨a0, a1⟩ := a
  obtain ⟨b0, b1⟩ := b
  simp
instance : DecidableEq S26 := fun a b => decidable_of_iff (a.f0 = b.f0 ∧ a.f1 = b.f1) D_ext.symm
theorem rdS_nat (xs : List S41) {i : Nat} (hi : i < xs.length) : rd_T41 xs (i : Int) = xs[i] := by
  unfold rd_T41
  rw [Int.toNat_natCast, List.getD_eq_getElem?_getD, List.getElem?_eq_getElem hi]
  rfl
theorem rdD_nat (xs : List S26) {i : Nat} (hi : i < xs.length) : rd_T26 xs (i : Int) = xs[i] := by
  unfold rd_T26
  rw [Int.toNat_natCast, List.getD_eq_getElem?_getD, List.getElem?_eq_getElem hi]
  rfl
theorem wrap64_nat (i : Nat) (h : i < 9223372036854775807) : wrap64 ((i : Int) + 1) = ((i + 1 : Nat) : Int) := by
  unfold wrap64; omega
theorem eq61 (a b : List S41) (hl : a.length = b.length) (hm : a.length < 9223372036854775807) : ∀ (m i k : Nat), i + m = a.length → m < k → api_Stamp_61.l0 k a b (a.length : Int) (i : Int) = some (decide (a.drop i = b.drop i))
  | m, i, 0, _, h => by omega
  | 0, i, k + 1, h, _ => by
    have e1 : a.drop i = [] := List.drop_eq_nil_of_le (by omega)
    have e2 : b.drop i = [] := List.drop_eq_nil_of_le (by omega)
    rw [api_Stamp_61.l0, if_neg (by omega), e1, e2]
    simp
  | m + 1, i, k + 1, h, hk => by
    have hi : i < a.length := by omega
    have hj : i < b.length := by omega
    rw [api_Stamp_61.l0, if_pos (by omega), if_pos (by omega), if_pos (by omega), if_pos (by omega), rdS_nat a hi, rdS_nat b hj, wrap64_nat i (by omega), eq61 a b hl hm m (i + 1) k (by omega) (by omega), List.drop_eq_getElem_cons hi, List.drop_eq_getElem_cons hj]
    by_cases he : a[i] = b[i]
    · have := S_ext.1 he
      rw [if_neg (by simp [this.1, this.2]), he]
      simp only [List.cons.injEq, true_and]
    · rw [if_pos (by
        by_cases h0 : a[i].f0 = b[i].f0
        · have : a[i].f1 ≠ b[i].f1 := fun h1 => he (S_ext.2 ⟨h0, h1⟩)
          simp [this]
        · simp [h0])]
      rw [decide_eq_false (fun h => he (List.cons.inj h).1)]
theorem eq61f (a b : List S41) (hm : a.length < 9223372036854775807) : api_Stamp_61.f (a.length + 1) a b = some (decide (a = b)) := by
  unfold api_Stamp_61.f
  by_cases hl : a.length = b.length
  · rw [if_pos (by omega), show (0 : Int) = ((0 : Nat) : Int) from rfl, eq61 a b hl hm a.length 0 _ (by omega) (by omega)]
    simp
  · rw [if_neg (by omega)]
    have : a ≠ b := fun h => hl (by rw [h])
    simp [this]
theorem seq_any (A0 : Option Addr) (c0 : Nat) (a : List S41) (A1 : Option Addr) (c1 : Nat) (b : List S41) (w : World) (hr0 : Kd.C k41 w A0 a.length a) (hc0 : a.length ≤ c0) (hr1 : Kd.C k41 w A1 b.length b) (hc1 : b.length ≤ c1) (hm : a.length < 9223372036854775807) :
    Calls Tryz.prog 61 #[.slice A0 a.length c0, .slice A1 b.length c1] w fun e w' => e = .returned (.bool (decide (a = b))) ∧ Drawn0 w w' :=
  api_Stamp_61.calls _ A0 c0 a A1 c1 b _ w hr0 hc0 hr1 hc1 (eq61f a b hm)
set_option maxHeartbeats 1000000 in
theorem same1_any (x y : S26) (A0 : Option Addr) (c0 : Nat) (A1 : Option Addr) (c1 : Nat) (w : World) (hr0 : Kd.C k41 w A0 x.f1.length x.f1) (hc0 : x.f1.length ≤ c0) (hr1 : Kd.C k41 w A1 y.f1.length y.f1) (hc1 : y.f1.length ≤ c1) (hm : x.f1.length < 9223372036854775807) :
    Calls Tryz.prog 60 #[.agg #[.int .i64 x.f0, .slice A0 x.f1.length c0], .agg #[.int .i64 y.f0, .slice A1 y.f1.length c1]] w fun e w' => e = .returned (.bool (decide (x = y))) ∧ Below w.heap.size w w' := by
  obtain ⟨w1, hw1⟩ : ∃ w1, (w.alloc (.cells #[.int .i64 x.f0, .slice A0 x.f1.length c0] 26)).alloc (.cells #[.int .i64 y.f0, .slice A1 y.f1.length c1] 26) = w1 := ⟨_, rfl⟩
  have hB : Below w.heap.size w w1 := hw1 ▸ ((Below.refl _ _).alloc (Nat.le_refl _) _).alloc (by simp) _
  have hA0 : Blk w1 w.heap.size 26 #[.int .i64 x.f0, .slice A0 x.f1.length c0] := hw1 ▸ (Blk.new w 26 _).alloc _
  have hA1 : Blk w1 (w.heap.size + 1) 26 #[.int .i64 y.f0, .slice A1 y.f1.length c1] := by
    have := Blk.new (w.alloc (.cells #[.int .i64 x.f0, .slice A0 x.f1.length c0] 26)) 26 #[.int .i64 y.f0, .slice A1 y.f1.length c1]
    rw [hw1] at this
    simpa using this
  have a0 : w1.cell? ⟨w.heap.size, 0, none⟩ = some (.int .i64 x.f0) := hA0.cell 0
  have a1 : w1.cell? ⟨w.heap.size, 1, none⟩ = some (.slice A0 x.f1.length c0) := hA0.cell 1
  have b0 : w1.cell? ⟨w.heap.size + 1, 0, none⟩ = some (.int .i64 y.f0) := hA1.cell 0
  have b1 : w1.cell? ⟨w.heap.size + 1, 1, none⟩ = some (.slice A1 y.f1.length c1) := hA1.cell 1
  have HS := Lib.hid (fun W (h : Below w1.heap.size w1 W) => seq_any A0 c0 x.f1 A1 c1 y.f1 W (Kd.C_below (Kd.C_below hr0 hB) h) hc0 (Kd.C_below (Kd.C_below hr1 hB) h) hc1 hm)
  have HB := Lib.hid hB
  clear hA0 hA1 hr0 hr1 hB
  by_cases h0 : x.f0 = y.f0
  · have d0 : (x.f0 == y.f0) = true := beq_iff_eq.2 h0
    have e : decide (x = y) = decide (x.f1 = y.f1) := by simp [D_ext, h0]
    rw [e]
    clear e h0
    generalize decide (x.f1 = y.f1) = r at *
    go_enter Tryz.func60, Tryz.ntmps60
    go_wp2_with fail
    refine (HS.out _ (Below.refl _ _)).mono ?_
    rintro e w2 ⟨rfl, hd⟩
    have HD := Lib.hid (HB.out.trans (hd.below.mono HB.out.size))
    clear hd
    go_wp2
    go_ret
    exact ⟨rfl, HD.out⟩
  · have d0 : (x.f0 == y.f0) = false := beq_eq_false_iff_ne.2 h0
    have e : decide (x = y) = false := decide_eq_false (fun h => h0 (D_ext.1 h).1)
    rw [e]
    clear e h0
    go_enter Tryz.func60, Tryz.ntmps60
    go_wp2
    go_ret
    exact ⟨rfl, HB.out⟩
set_option maxHeartbeats 4000000 in
set_option maxRecDepth 100000 in
theorem eqf_any (A0 : Option Addr) (c0 : Nat) (a : List S26) (A1 : Option Addr) (c1 : Nat) (b : List S26) (w : World) (hr0 : Kd.C k26 w A0 a.length a) (hr1 : Kd.C k26 w A1 b.length b) (hm : ∀ x ∈ a, x.f1.length < 9223372036854775807) :
    Calls Tryz.prog 59 #[.slice A0 a.length c0, .slice A1 b.length c1, .func (.func 60) #[] #[]] w fun e w' => e = .returned (.bool (decide (a = b))) ∧ Below w.heap.size w w' := by
  have eg : ∀ args w, (callFunc 60 args).run Tryz.prog w = .ok (.enter 60 args) w := enters_of Tryz.func60 (by kernel_rfl) rfl
  have hlz := Kd.C_max hr0
  by_cases hl : a.length = b.length
  · obtain ⟨r, hr⟩ : ∃ r, decide (a = b) = r := ⟨_, rfl⟩
    rw [hr]
    have HR := Lib.hid (And.intro hr0 (And.intro hr1 (And.intro hm (And.intro hr hl))))
    have HLL := Lib.hid hl
    rw [← hl]
    clear hr0 hr1 hm hr hl
    go_enter Tryz.func59, Tryz.ntmps59
    go_wp2
    go_loopw [17] (fun si wr => ∃ k : Nat, si = .int .i64 (k : Int) ∧ k ≤ a.length ∧ RowKit.Hid (Below w.heap.size w wr ∧ r = decide (a.drop k = b.drop k))) (fun si _ => a.length - (intOf si).toNat)
    case atStart => exact ⟨0, rfl, by omega, Lib.hid ⟨Below.refl _ _, by simpa using HR.out.2.2.2.1.symm⟩⟩
    case round =>
      obtain ⟨k, rfl, hk, HB⟩ := hrel
      by_cases hlt : k < a.length
      · have hltb : k < b.length := by have := HLL.out; omega
        rcases A0 with _ | ad
        · exact absurd (HR.out.1.2.2 (by omega)) (by simp)
        rcases A1 with _ | ae
        · exact absurd (HR.out.2.1.2.2 (by omega)) (by simp)
        obtain ⟨Ax, cx, x0, x1, hcx, hCx⟩ := C_atD (Kd.C_below HR.out.1 HB.out.1) k hlt
        obtain ⟨Ay, cy, y0, y1, hcy, hCy⟩ := C_atD (Kd.C_below HR.out.2.1 HB.out.1) k hltb
        have hxm := HR.out.2.2.1 _ (List.getElem_mem hlt)
        have hcall := fun W (h : Below wr.heap.size wr W) => same1_any a[k] b[k] Ax cx Ay cy W (Kd.C_below hCx h) hcx (Kd.C_below hCy h) hcy hxm
        have hq := HB.out.2
        rw [List.drop_eq_getElem_cons hlt, List.drop_eq_getElem_cons hltb] at hq
        have hq' : r = (decide (a[k] = b[k]) && decide (a.drop (k + 1) = b.drop (k + 1))) := by rw [hq]; simp only [List.cons.injEq, Bool.decide_and]
        clear hxm hCx hCy hcx hcy hq
        generalize a[k] = x at *
        generalize b[k] = y at *
        obtain ⟨xa, xb⟩ := x
        obtain ⟨ya, yb⟩ := y
        obtain ⟨q, hqq⟩ : ∃ q, decide ((⟨xa, xb⟩ : S26) = ⟨ya, yb⟩) = q := ⟨_, rfl⟩
        rw [hqq] at hq' hcall
        have HC := Lib.hid hcall; have HQ := Lib.hid hq'
        clear hcall hq' hqq
        have y0a := fun o => cellA y0 o
        have y1a := fun o => cellA y1 o
        cases q with
        | true =>
          go_wp2_with (go_at_fn 60; refine (HC.out _ (((Below.refl _ _).alloc (Nat.le_refl _) _).alloc (by simp) _)).mono ?_; rintro e w2 ⟨rfl, hb2⟩)
          go_roundw
          case rel => exact ⟨k + 1, by go_num, by omega, Lib.hid ⟨HB.out.1.trans ((((Below.refl wr.heap.size wr).alloc (Nat.le_refl _) _).alloc (by simp) _ |>.trans (hb2.mono (by simp; omega))).mono HB.out.1.size), by rw [HQ.out]; rfl⟩⟩
          case measure => simp [intOf]; omega
        | false =>
          go_wp2_with (go_at_fn 60; refine (HC.out _ (((Below.refl _ _).alloc (Nat.le_refl _) _).alloc (by simp) _)).mono ?_; rintro e w2 ⟨rfl, hb2⟩)
          go_ret
          exact ⟨by rw [HQ.out]; rfl, HB.out.1.trans ((((Below.refl wr.heap.size wr).alloc (Nat.le_refl _) _).alloc (by simp) _ |>.trans (hb2.mono (by simp; omega))).mono HB.out.1.size)⟩
      · obtain rfl : k = a.length := by omega
        go_wp2
        go_ret
        have := HB.out.2
        rw [List.drop_length, show b.drop a.length = [] from List.drop_eq_nil_of_le (by have := HR.out.2.2.2.2; omega)] at this
        exact ⟨by rw [this]; rfl, HB.out.1⟩
  · have dl : ((a.length : Int) == (b.length : Int)) = false := beq_eq_false_iff_ne.2 (by omega)
    have : decide (a = b) = false := decide_eq_false (fun h => hl (by rw [h]))
    rw [this]
    clear this hl hr0 hr1 hm
    go_enter Tryz.func59, Tryz.ntmps59
    go_wp2
    go_ret
    exact ⟨rfl, Below.refl _ _⟩
def deps_Same.f (a b : List S26) : Option Bool := if (∀ x ∈ a, x.f1.length < 9223372036854775807) then some (decide (a = b)) else none
theorem deps_Same.calls (A0 : Option Addr) (c0 : Nat) (l0 : List S26) (A1 : Option Addr) (c1 : Nat) (l1 : List S26) (r : Bool) (w : World) (hr0 : Kd.C k26 w A0 l0.length l0) (_hc0 : l0.length ≤ c0) (hr1 : Kd.C k26 w A1 l1.length l1) (_hc1 : l1.length ≤ c1) (h : deps_Same.f l0 l1 = some r) :
    Calls Tryz.prog 23 #[.slice A0 l0.length c0, .slice A1 l1.length c1] w fun e w' => e = .returned (.bool r) ∧ Below w.heap.size w w' := by
  unfold deps_Same.f at h
  split at h
  · rename_i hm
    injection h with h
    have he := eqf_any A0 c0 l0 A1 c1 l1 w hr0 hr1 hm
    rw [h] at he
    have HE := Lib.hid he
    clear he hr0 hr1 hm h
    go_enter Tryz.func23, Tryz.ntmps23
    go_wp2_with fail
    refine HE.out.mono ?_
    rintro e w2 ⟨rfl, hb⟩
    go_wp2
    go_ret
    exact ⟨rfl, hb⟩
  · cases h
end Go.Proofs.YtaedlmeaconflaaGreat.P
end
