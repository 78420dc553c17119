/- what the claim's row stands on, part 2. -/
import Derived.Test.YtgmlenpcchhmbaaGreatZs0
import Derived.Lib.SliceRun
import Derived.Lib.Hide
import Derived.Shelf.Abstract
import Derived.Outline
import Derived.ProofKit
import Derived.OpenShut
import Derived.ShutString
import Derived.ChangeOld
import Derived.SizedLaws
import Derived.Deep.Slices
import Derived.Test.YtgmlenpcchhmbaaGreatProg
import Derived.Below
import Derived.Deep.Draws
import Derived.Deep.AppendLies
import Derived.Maps.AppendAt
import Derived.OwnWalk
import Derived.Laws.BytesArg
import Derived.Laws.MakeOwn
import Derived.Laws.OwnMore
import Derived.Deep.OwnRows
import Derived.Tactics
import Derived.Lib.ConvBytes
import Derived.Laws.Slices
import Derived.WalkKit
import Derived.KernelRfl
import Derived.RowKit3
import Derived.Deep.LoopGhost
import Derived.Deep.QuietTactic
import Derived.BigQuiet
import Derived.WideLaws
import Derived.Deep.DeepCutAuto
import Derived.Deep.CutBlock
import Derived.Deep.RegionHeld3
import Derived.Laws.Rows
import Derived.Lib.AppendStr
import Derived.ArgAppend
import Derived.Laws.IdiomCopy
import Derived.OrdersHeld
import Derived.Laws.BitsLemmas
import Derived.RowKit
import Derived.WalkLawsBesides
import Derived.Test.YtgmlenpcchhmbaaGreatZs1
import Derived.IntWalk
import Derived.Laws.NewBlocks
import Derived.Laws.FloatArith
section
set_option linter.unusedVariables false
set_option linter.unusedSimpArgs false
namespace Go.Proofs.YtgmlenpcchhmbaaGreat.P
open Go.RowKit Go.Proofs.YtgmlenpcchhmbaaGreatW.PrintWords Go.Proofs.YtgmlenpcchhmbaaGreatW.PrintLast Go.Proofs.YtgmlenpcchhmbaaGreatW.PrintMore
structure Upd (w w' : World) (S : Nat → Prop) : Prop where
  os : w'.os = w.os
  tape : w'.tape = w.tape
  output : w'.output = w.output
  size : w.heap.size ≤ w'.heap.size
  block : ∀ k, k < w.heap.size → ¬ S k → w'.heap[k]? = w.heap[k]?
theorem Upd.refl (w : World) (S : Nat → Prop) : Upd w w S := ⟨rfl, rfl, rfl, Nat.le_refl _, fun _ _ _ => rfl⟩
theorem Upd.trans {a b c : World} {S : Nat → Prop} (h : Upd a b S) (k : Upd b c S) : Upd a c S :=
  ⟨k.os.trans h.os, k.tape.trans h.tape, k.output.trans h.output, Nat.le_trans h.size k.size, fun i hi hs => (k.block i (Nat.lt_of_lt_of_le hi h.size) hs).trans (h.block i hi hs)⟩
theorem Upd.mono {a b : World} {S T : Nat → Prop} (h : Upd a b S) (hs : ∀ k, k < a.heap.size → S k → T k) : Upd a b T :=
  ⟨h.os, h.tape, h.output, h.size, fun i hi ht => h.block i hi (fun k => ht (hs i hi k))⟩
theorem Upd.of_below {a b : World} (h : Below a.heap.size a b) (S : Nat → Prop) : Upd a b S := ⟨h.os, h.tape, h.output, h.size, fun i hi _ => h.block i hi⟩
theorem Upd.below {a b : World} {S : Nat → Prop} {B : Nat} (h : Upd a b S) (hB : B ≤ a.heap.size) (hs : ∀ k, k < B → ¬ S k) : Below B a b :=
  ⟨h.os, h.tape, h.output, h.size, fun i hi => h.block i (by omega) (hs i hi)⟩
theorem Upd.of_grown {a b : World} {row : Option Nat} (h : a.grownBy b row) {S : Nat → Prop} (hs : ∀ k, row = some k → S k) : Upd a b S :=
  ⟨h.os, h.tape, h.output, h.size, fun i hi hn => h.block i hi (fun e => hn (hs i e.symm))⟩
theorem Upd.drew {a b : World} {S : Nat → Prop} (h : Upd a b S) : Upd a b.drew S := ⟨h.os, h.tape, h.output, h.size, h.block⟩
theorem Upd.drewN {a b : World} {S : Nat → Prop} (h : Upd a b S) (n : Nat) : Upd a (b.drewN n) S := ⟨h.os, h.tape, h.output, h.size, h.block⟩
theorem Upd.alloc {a b : World} {S : Nat → Prop} (h : Upd a b S) (o : Obj) : Upd a (b.alloc o) S :=
  h.trans ⟨rfl, rfl, rfl, by simp, fun k hk _ => Below.heap_alloc _ _ _ hk⟩
theorem Upd.setCell {a b : World} {S : Nat → Prop} (h : Upd a b S) {p : Addr} (hp : S p.block ∨ a.heap.size ≤ p.block) (u : Value) : Upd a (b.setCell p u) S :=
  ⟨h.os, h.tape, h.output, by simpa [World.setCell] using h.size, fun k hk hs => (Below.heap_setCell _ _ _ _ (by rintro rfl; rcases hp with hp | hp; exact hs hp; omega)).trans (h.block k hk hs)⟩
def Blk (w : World) (g : Nat) (t : TypeId) (cs : Array Value) : Prop := w.heap[g]? = some (.cells cs t (0, 0))
section
variable {w w' : World} {g : Nat} {t : TypeId} {cs : Array Value}
theorem Blk.lt (h : Blk w g t cs) : g < w.heap.size := by
  rcases Nat.lt_or_ge g w.heap.size with hlt | hge
  · exact hlt
  · unfold Blk at h; rw [Array.getElem?_eq_none hge] at h; cases h
theorem Blk.cell (h : Blk w g t cs) (i : Nat) : w.cell? ⟨g, i, none⟩ = cs[i]? := cell_of_row w g i cs t (0, 0) h
theorem Blk.frozen (h : Blk w g t cs) (i : Nat) : w.frozen? ⟨g, i, none⟩ = false := by
  unfold Blk at h
  simp [World.frozen?, h]
theorem Blk.new (w : World) (t : TypeId) (cs : Array Value) : Blk (w.alloc (.cells cs t)) w.heap.size t cs := heap_alloc_new w _
theorem Blk.drew (h : Blk w g t cs) : Blk w.drew g t cs := h
theorem Blk.drewN (h : Blk w g t cs) (n : Nat) : Blk (w.drewN n) g t cs := h
theorem Blk.alloc (h : Blk w g t cs) (o : Obj) : Blk (w.alloc o) g t cs := (Below.heap_alloc w o g h.lt).trans h
theorem Blk.set_ (h : Blk w g t cs) (i : Nat) (u : Value) : Blk (w.setCell ⟨g, i, none⟩ u) g t (cs.setIfInBounds i u) := by
  unfold Blk at h ⊢
  simp [World.setCell, Array.getElem?_modify, h]
theorem Blk.far (h : Blk w g t cs) {p : Addr} (hp : g ≠ p.block) (u : Value) : Blk (w.setCell p u) g t cs := (Below.heap_setCell w p u g hp).trans h
theorem Blk.below {B : Nat} (h : Blk w g t cs) (hb : Below B w w') (hg : g < B) : Blk w' g t cs := (hb.block g hg).trans h
theorem Blk.upd {S : Nat → Prop} (h : Blk w g t cs) (hb : Upd w w' S) (hg : ¬ S g) : Blk w' g t cs := (hb.block g h.lt hg).trans h
theorem Blk.grown {row : Option Nat} (h : Blk w g t cs) (hb : w.grownBy w' row) (hg : some g ≠ row) : Blk w' g t cs := (hb.block g h.lt hg).trans h
theorem Blk.ne_ {g' : Nat} {t' : TypeId} {cs' : Array Value} (h : Blk w g t cs) (h' : Blk w g' t' cs') (hne : t ≠ t') : g ≠ g' := by
  rintro rfl
  unfold Blk at h h'
  rw [h] at h'
  injection h' with h'
  injection h' with _ ht
  exact hne ht
theorem Blk.c2 {a b : Value} (h : Blk w g t #[a, b]) : w.cell? ⟨g, 0, none⟩ = some a ∧ w.cell? ⟨g, 1, none⟩ = some b ∧ w.frozen? ⟨g, 0, none⟩ = false ∧ w.frozen? ⟨g, 1, none⟩ = false ∧ g < w.heap.size := ⟨h.cell 0, h.cell 1, h.frozen 0, h.frozen 1, h.lt⟩
theorem Blk.c1 {a : Value} (h : Blk w g t #[a]) : w.cell? ⟨g, 0, none⟩ = some a ∧ w.frozen? ⟨g, 0, none⟩ = false ∧ g < w.heap.size := ⟨h.cell 0, h.frozen 0, h.lt⟩
end
theorem Upd.kept {a b : World} {S : Nat → Prop} (h : Upd a b S) : Kept a b S := ⟨h.size, fun i hi hs => h.block i hi hs⟩
theorem Upd.setCells {a b : World} {S : Nat → Prop} {g : Nat} (h : Upd a b S) (hg : S g ∨ a.heap.size ≤ g) : ∀ (vs : List Value) (o : Nat), Upd a (b.setCells g o vs) S
  | vs, o => by
    induction vs generalizing b o with
    | nil => exact h
    | cons v r ih => exact ih (h.setCell (p := ⟨g, o, none⟩) hg v) (o + 1)
theorem Upd.grown {a b c : World} {S : Nat → Prop} {row : Option Nat} (h : Upd a b S) (hg : b.grownBy c row) (hr : ∀ k, row = some k → S k ∨ a.heap.size ≤ k) : Upd a c S :=
  ⟨hg.os.trans h.os, hg.tape.trans h.tape, hg.output.trans h.output, Nat.le_trans h.size hg.size, fun i hi hs => (hg.block i (Nat.lt_of_lt_of_le hi h.size) (fun e => by rcases hr i e.symm with h1 | h1; exact hs h1; omega)).trans (h.block i hi hs)⟩
theorem Upd.then_below {a b c : World} {S : Nat → Prop} (h : Upd a b S) (k : Below b.heap.size b c) : Upd a c S := h.trans (Upd.of_below k S)
theorem own_setCells {base n size cap g : Nat} {e : TypeId} : ∀ (vs : List Value) (o : Nat) (w : World) (xs : List Value), w.ownsRow base e size (.slice (some ⟨g, 0, none⟩) n cap) n xs →
    ∃ ys, (w.setCells g o vs).ownsRow base e size (.slice (some ⟨g, 0, none⟩) n cap) n ys ∧ ys.take o = xs.take o
  | [], o, w, xs, h => ⟨xs, h, rfl⟩
  | v :: r, o, w, xs, h => by
    obtain ⟨h1, _⟩ := h.stored o v
    obtain ⟨ys, hy, ht⟩ := own_setCells r (o + 1) _ _ h1
    refine ⟨ys, hy, ?_⟩
    have e1 : ys.take o = (ys.take (o + 1)).take o := by rw [List.take_take, Nat.min_eq_left (by omega)]
    have e2 : xs.take o = ((xs.set o v).take (o + 1)).take o := by
      rw [List.take_take, Nat.min_eq_left (by omega)]
      apply List.ext_getElem?
      intro i
      rw [List.getElem?_take, List.getElem?_take]
      split
      · rw [List.getElem?_set_ne (by omega)]
      · rfl
    rw [e1, ht, ← e2]
theorem bl_nil (a : List UInt8) : Op.bytesLess a [] = false := by cases a <;> rfl
theorem bl_cons (x y : UInt8) (a b : List UInt8) : Op.bytesLess (x :: a) (y :: b) = (decide (x < y) || ((x == y) && Op.bytesLess a b)) := rfl
theorem bl_tot : ∀ a b : List UInt8, (Op.bytesLess b a || (b == a)) = !Op.bytesLess a b
  | [], [] => by simp [bl_nil]
  | [], _ :: _ => by simp [bl_nil, Op.bytesLess]
  | _ :: _, [] => by simp [bl_nil, Op.bytesLess]
  | x :: a, y :: b => by
    have ih := bl_tot a b
    rw [bl_cons, bl_cons, List.cons_beq_cons]
    by_cases h : x = y
    · subst h
      have hx : ¬ x < x := UInt8.lt_irrefl x
      simp only [hx, decide_false, BEq.rfl, Bool.true_and, Bool.false_or]
      exact ih
    · have h1 : (x == y) = false := beq_eq_false_iff_ne.2 h
      have h2 : (y == x) = false := beq_eq_false_iff_ne.2 (Ne.symm h)
      rw [h1, h2]
      simp only [Bool.false_and, Bool.or_false]
      have : (y < x) ↔ ¬ (x < y) := by
        rw [UInt8.lt_iff_toNat_lt, UInt8.lt_iff_toNat_lt]
        have : x.toNat ≠ y.toNat := fun e => h (UInt8.toNat_inj.1 e)
        omega
      by_cases hxy : x < y
      · simp [hxy, this]
      · simp [hxy, this]
theorem bl_gt (a b : List UInt8) : (!Op.bytesLess b a && !(b == a)) = Op.bytesLess a b := by rw [← Bool.not_or, bl_tot, Bool.not_not]
theorem bl_irrefl (a : List UInt8) : Op.bytesLess a a = false := by
  have := bl_tot a a
  simp at this
  exact this
theorem bl_asymm {a b : List UInt8} (h : Op.bytesLess a b = true) : Op.bytesLess b a = false := by
  have := bl_tot a b
  rw [h] at this
  simp only [Bool.not_true, Bool.or_eq_false_iff] at this
  exact this.1
theorem bl_trans : ∀ {a b c : List UInt8}, Op.bytesLess a b = true → Op.bytesLess b c = true → Op.bytesLess a c = true
  | a, b, [], _, h => by rw [bl_nil] at h; cases h
  | a, [], z :: c, h, _ => by rw [bl_nil] at h; cases h
  | [], y :: b, z :: c, _, _ => rfl
  | x :: a, y :: b, z :: c, h1, h2 => by
    rw [bl_cons] at h1 h2 ⊢
    simp only [Bool.or_eq_true, decide_eq_true_eq, Bool.and_eq_true, beq_iff_eq] at h1 h2 ⊢
    rcases h1 with h1 | ⟨rfl, h1⟩
    · rcases h2 with h2 | ⟨rfl, h2⟩
      · exact .inl (by rw [UInt8.lt_iff_toNat_lt] at *; omega)
      · exact .inl h1
    · rcases h2 with h2 | ⟨rfl, h2⟩
      · exact .inl h2
      · exact .inr ⟨rfl, bl_trans h1 h2⟩
theorem bl_eq {a b : List UInt8} (h1 : Op.bytesLess a b = false) (h2 : Op.bytesLess b a = false) : a = b := by
  have := bl_tot a b
  rw [h1, h2] at this
  simp at this
  exact this.symm
theorem pu_ {P : Program} {ops : Array Oper} {Q : Exit → Act → World → Prop} {md : Region.Mode} {S : World → Prop} {ds : List Nat} (i N : Nat) {oi : Oper} {v : Value} {fuel : Nat} {l l' : Array Bool} {a a' : Act} {w : World} (h : wpAnyLast P md ops Q S ds fuel l' a' w)
    (hi : ops[i]? = some oi := by rfl) (hN : oi.dst = some N := by rfl) (hl : l.setIfInBounds i true = l' := by (simp only [List.setIfInBounds_toArray, List.set_cons_zero, List.set_cons_succ]; rfl)) (hc : anyB md ops l l' i = true := by exact any_of HT_.out (by kernel_rfl))
    (hw : Region.wanted oi (yielded ops a.tmps) = true := by rfl) (hy : ∀ w', (execOp a.eval oi).run P w' = .ok (.value v) w' := by (intro w'; go_simp; with_reducible rfl))
    (hQ : ∀ c a w, Q (.panic c) (a.put oi.dst v) w → Q (.panic c) a w := by exact fun _ _ _ h => h)
    (ha : a.put (some N) v = a' := by (simp only [Act.put, List.setIfInBounds_toArray, List.set_cons_zero, List.set_cons_succ, i64_w, i32_w]; rfl)) : wpAnyLast P md ops Q S ds (fuel + 1) l a w :=
  pure_ l' hi hN hc hQ (Or.inl ⟨hw, hy⟩) ha h
theorem ta_ {P : Program} {ops : Array Oper} {Q : Exit → Act → World → Prop} {md : Region.Mode} {S : World → Prop} {ds : List Nat} (i N : Nat) {oi : Oper} {v : Value} {fuel : Nat} {l l' : Array Bool} {a a' : Act} {w : World} (hS : S w) (h : wpAnyLast P md ops Q S ds fuel l' a' w)
    (hi : ops[i]? = some oi := by rfl) (hN : oi.dst = some N := by rfl) (hl : l.setIfInBounds i true = l' := by (simp only [List.setIfInBounds_toArray, List.set_cons_zero, List.set_cons_succ]; rfl)) (hc : takeB md ops ds l l' i = true := by exact take_ofW HT_.out HW_.out (by kernel_rfl))
    (hw : Region.wanted oi (yielded ops a.tmps) = true := by rfl) (hy : ∀ w', S w' → (execOp a.eval oi).run P w' = .ok (.value v) w' := by (intro w' hSw; (try dsimp only at hSw); go_split_ands; go_simp; with_reducible rfl))
    (hQ : ∀ c a w, Q (.panic c) (a.put oi.dst v) w → Q (.panic c) a w := by exact fun _ _ _ h => h)
    (ha : a.put (some N) v = a' := by (simp only [Act.put, List.setIfInBounds_toArray, List.set_cons_zero, List.set_cons_succ, i64_w, i32_w]; rfl)) : wpAnyLast P md ops Q S ds (fuel + 1) l a w :=
  take_ l' hi hN hc hQ (Or.inl ⟨hw, hy⟩) hS ha h
theorem bB_ {b : Nat} {w w' : World} (h : Below b w w' := by repeat (first | (with_reducible first | exact HB.out | apply below_alloc | apply pw_below_drewN | apply below_drew1) | exact HB.out)) : Below b w w' := h
theorem rR_ {p q : Prop} (x : p) (h : p → q := by (intro hx_; (with_reducible repeat (first | apply Kd.R_alloc | apply Kd.R_drewN | apply Kd.R_drew)); exact hx_)) : q := h x
end Go.Proofs.YtgmlenpcchhmbaaGreat.P
end
section
set_option linter.unusedVariables false
set_option linter.unusedSimpArgs false
namespace Go.Proofs.YtgmlenpcchhmbaaGreat.P
open Go.ChangeShapes Go.WideShapes Go.ChangeAt Go.RowKit Go.Deep Go.Proofs.YtgmlenpcchhmbaaGreatW.PrintWords
theorem add_of_add (a : Addr) (i j : Nat) : (a.add i).add j = a.add (i + j) := by
  unfold Addr.add
  by_cases hi : i = 0 <;> by_cases hj : j = 0 <;> simp [hi, hj, Nat.add_assoc]
def Opens {α : Type} (P : Program) (d : Kd α) (t : TypeId) (p : α → Prop) : Prop :=
  ∀ (H : Type) (enc : TypeId × Value → H) (W : World) (base : Nat) (spare : Nat → Bool) (held : Bool) (fuel : Nat) (cs : List Value) (x : DataW H × List MemPlace),
    DataW.trod enc P W base spare held fuel t cs = some x → ∃ a, d.K W a cs ∧ p a
section
variable {P : Program} {t : TypeId}
theorem opens_int {k : IntKind} (ht : P.underlying t = some (.int k)) : Opens P (Kd.int k) t (fun x => (Lit.int k x).wf = true) := fun H enc W base spare held fuel cs x h => by
  obtain ⟨n, rfl, _, hw⟩ := DataW.trod_int ht h
  exact ⟨n, rfl, hw⟩
theorem opens_str (ht : P.underlying t = some .string) : Opens P Kd.string t (fun _ => True) := fun H enc W base spare held fuel cs x h => by
  obtain ⟨s, rfl, rfl, _⟩ := DataW.trod_string ht h
  exact ⟨s, rfl, trivial⟩
theorem opens_slice {α : Type} {d : Kd α} {e : TypeId} {p : α → Prop} (ei : Nat) (ht : P.underlying t = some (.slice e)) (hc : P.cellsOf e = d.sz) (he : Opens P d e p) : Opens P (Kd.slice ei d) t (fun xs => xs.length ≤ 9223372036854775807 ∧ ∀ x ∈ xs, p x) := fun H enc W base spare held fuel cs x h => by
  rcases open_slice ht h with ⟨rfl, rfl⟩ | ⟨a, len, cap, m, n, D, Pl, rfl, _, hl, hm, hmm, rfl, hx⟩
  · exact ⟨[], ⟨none, 0, rfl, Nat.le_refl _, Kd.C_nil _ _⟩, by simp, by simp⟩
  · have hle : len ≤ m := by rw [hmm]; split <;> omega
    have key : ∀ k, k ≤ len → ∃ xs : List α, xs.length = k ∧ (∀ y ∈ xs, p y) ∧ ∀ j y, xs[j]? = some y → ∃ c, c.length = d.sz ∧ d.K W y c ∧ ∀ i u, c[i]? = some u → W.cell? (a.add (j * d.sz + i)) = some u := by
      intro k
      induction k with
      | zero => intro _; exact ⟨[], rfl, by simp, fun j y hy => by simp at hy⟩
      | succ k ih =>
        intro hk
        obtain ⟨xs, hxl, hp, hi⟩ := ih (by omega)
        obtain ⟨cs', hcs, htr⟩ := hx k (by omega)
        obtain ⟨y, hy, hpy⟩ := he _ _ _ _ _ _ _ _ _ htr
        obtain ⟨_, hcl, hcell⟩ := World.cells?_some hcs
        refine ⟨xs ++ [y], by simp [hxl], fun z hz => ?_, fun j z hz => ?_⟩
        · rcases List.mem_append.1 hz with hz | hz
          · exact hp z hz
          · rw [List.mem_singleton.1 hz]; exact hpy
        · rcases Nat.lt_or_ge j xs.length with hj | hj
          · rw [List.getElem?_append_left hj] at hz; exact hi j z hz
          · rw [List.getElem?_append_right hj] at hz
            have hj0 : j - xs.length = 0 := by have := (List.getElem?_eq_some_iff.1 hz).1; simpa using this
            rw [hj0] at hz
            simp only [List.getElem?_cons_zero, Option.some.injEq] at hz
            subst hz
            refine ⟨cs', d.K_len hy, hy, fun i u hu => ?_⟩
            have hil := (List.getElem?_eq_some_iff.1 hu).1
            have := hcell i (by omega)
            rw [hu, hc, add_of_add] at this
            rw [show j = k by omega]
            exact this
    obtain ⟨xs, hxl, hp, hi⟩ := key len (Nat.le_refl _)
    subst hxl
    have hmx : xs.length ≤ 9223372036854775807 := by have := hm; unfold maxLen at this; omega
    exact ⟨xs, ⟨some a, cap, rfl, hl, rfl, hmx, fun _ => ⟨a, rfl, hi⟩⟩, hmx, hp⟩
def OpensF {α : Type} (P : Program) (d : Kd α) (fs : List Field) (off : Nat) (p : α → Prop) : Prop :=
  ∀ (H : Type) (enc : TypeId × Value → H) (W : World) (base : Nat) (spare : Nat → Bool) (held : Bool) (fuel : Nat) (cs : List Value) (xs : List (DataW H × List MemPlace)),
    xs.length = fs.length → (∀ (i : Nat) (f : Field), fs[i]? = some f → DataW.trod enc P W base spare held fuel f.type ((cs.drop f.offset).take (P.cellsOf f.type)) = xs[i]?) →
    cs.length = off + d.sz → ∃ a, d.K W a (cs.drop off) ∧ p a
theorem opensF_one {α : Type} {d : Kd α} {f : Field} {off : Nat} {p : α → Prop} (ho : f.offset = off) (hc : P.cellsOf f.type = d.sz) (he : Opens P d f.type p) : OpensF P d [f] off p := fun H enc W base spare held fuel cs xs hl h hcs => by
  match xs, hl with
  | [x], _ =>
    have h0 := h 0 f rfl
    rw [ho, hc, List.take_of_length_le (by rw [List.length_drop]; omega)] at h0
    exact he _ _ _ _ _ _ _ _ _ h0
theorem opensF_cons {α β : Type} {d0 : Kd α} {d1 : Kd β} {f : Field} {fs : List Field} {off : Nat} {p : α → Prop} {q : β → Prop} (ho : f.offset = off) (hc : P.cellsOf f.type = d0.sz) (he : Opens P d0 f.type p) (hr : OpensF P d1 fs (off + d0.sz) q) : OpensF P (Kd.pair d0 d1) (f :: fs) off (fun x => p x.1 ∧ q x.2) := fun H enc W base spare held fuel cs xs hl h hcs => by
  match xs, hl with
  | x :: xs, hl =>
    have h0 := h 0 f rfl
    rw [ho, hc] at h0
    have hcs' : cs.length = off + (d0.sz + d1.sz) := hcs
    obtain ⟨a, ha, hp⟩ := he _ _ _ _ _ _ _ _ _ h0
    obtain ⟨b, hb, hq⟩ := hr _ enc W base spare held fuel cs xs (by simpa using hl) (fun i g hg => h (i + 1) g (by simpa using hg)) (by omega)
    exact ⟨(a, b), ⟨_, _, by rw [← List.drop_drop]; exact (List.take_append_drop d0.sz (cs.drop off)).symm, ha, hb⟩, hp, hq⟩
theorem opens_struct {α : Type} {d : Kd α} {fs : List Field} {p : α → Prop} (ht : P.underlying t = some (.struct fs.toArray)) (hc : P.cellsOf t = d.sz) (he : OpensF P d fs 0 p) : Opens P d t p := fun H enc W base spare held fuel cs x h => by
  obtain ⟨xs, n, rfl, rfl, hl, hxl, hf⟩ := DataW.trod_struct ht h
  obtain ⟨a, ha⟩ := he _ enc W base spare held n cs xs (by simpa using hxl) (fun i f hf' => hf i f (by simpa using hf')) (by omega)
  exact ⟨a, by simpa using ha⟩
theorem opens_iso {α β : Type} {d : Kd α} {f : β → α} {g : α → β} {p : α → Prop} (hg : ∀ a, f (g a) = a) (h : Opens P d t p) : Opens P (Kd.iso d f) t (fun b => p (f b)) := fun H enc W base spare held fuel cs x h1 => by
  obtain ⟨a, ha, hp⟩ := h H enc W base spare held fuel cs x h1
  exact ⟨g a, by show d.K W (f (g a)) cs; rw [hg]; exact ha, by show p (f (g a)); rw [hg]; exact hp⟩
theorem opens_mono {α : Type} {d : Kd α} {p q : α → Prop} (h : Opens P d t p) (hq : ∀ a, p a → q a) : Opens P d t q := fun H enc W base spare held fuel cs x h1 => by
  obtain ⟨a, ha, hp⟩ := h H enc W base spare held fuel cs x h1
  exact ⟨a, ha, hq a hp⟩
theorem open_sl {α : Type} {d : Kd α} {ei : Nat} {p : List α → Prop} (ho : Opens P (Kd.slice ei d) t p) {H : Type} {enc : TypeId × Value → H} {W : World} {base : Nat} {spare : Nat → Bool} {held : Bool} {A : Option Addr} {n c : Nat} {y : DataW H} {q : List MemPlace}
    (h : DataW.Trod enc P W base spare held t (.slice A n c) y q) (_ : ∀ n ∈ y.weights P t, n ≤ reachBytes) : ∃ xs, n = xs.length ∧ xs.length ≤ c ∧ Kd.C d W A xs.length xs ∧ p xs := by
  obtain ⟨fuel, hf⟩ := h
  obtain ⟨xs, ⟨A', c', e, hc, hC⟩, hp⟩ := ho _ _ _ _ _ _ _ _ _ hf
  simp only [Value.cells] at e
  have : (Value.slice A n c) = .slice A' xs.length c' := by simpa using e
  injection this with e1 e2 e3
  subst e1 e2 e3
  exact ⟨xs, rfl, hc, hC, hp⟩
end
end Go.Proofs.YtgmlenpcchhmbaaGreat.P
end
section
set_option linter.unusedVariables false
set_option linter.unusedSimpArgs false
namespace Go.Proofs.YtgmlenpcchhmbaaGreat.P
open Go.RowKit Go.Proofs.YtgmlenpcchhmbaaGreatW.PrintWords Go.Proofs.YtgmlenpcchhmbaaGreatW.PrintLast Go.Proofs.YtgmlenpcchhmbaaGreatW.PrintMore
attribute [local go_sem] max2_int min2_int max_two min_two max_three min_three max_four min_four   -- for this text's walks alone
def errW : Option Int → Value
 | none => .nilIface
 | some c => .iface 0 (.int .i64 c)
theorem errW_none : errW none = .nilIface := rfl
theorem errW_some (c : Int) : errW (some c) = .iface 0 (.int .i64 c) := rfl
theorem info9 : (Tryz.prog.info? 9).map (fun i => (i.zero, i.size, i.bytes)) = some (some (.string ⟨#[]⟩), 1, 16) := by kernel_rfl
theorem info61 : (Tryz.prog.info? 61).map (fun i => (i.zero, i.size, i.bytes)) = some (some (.agg #[(.string ⟨#[]⟩), (.int .u64 0)]), 2, 24) := by kernel_rfl
theorem info63 : (Tryz.prog.info? 63).map (fun i => (i.zero, i.size, i.bytes)) = some (some (.agg #[(.int .i64 0), (.string ⟨#[]⟩), (.string ⟨#[]⟩), (.int .u64 0)]), 4, 48) := by kernel_rfl
theorem info65 : (Tryz.prog.info? 65).map (fun i => (i.zero, i.size, i.bytes)) = some (some (.agg #[(.bool false), (.int .u64 0), (.slice none 0 0)]), 3, 40) := by kernel_rfl
theorem info69 : (Tryz.prog.info? 69).map (fun i => (i.zero, i.size, i.bytes)) = some (some (.agg #[(.string ⟨#[]⟩), (.int .u64 0), (.bool false)]), 3, 32) := by kernel_rfl
theorem info71 : (Tryz.prog.info? 71).map (fun i => (i.zero, i.size, i.bytes)) = some (some (.agg #[(.string ⟨#[]⟩), (.string ⟨#[]⟩)]), 2, 32) := by kernel_rfl
structure S63 where
 f0 : Int
 f1 : ByteArray
 f2 : ByteArray
 f3 : Int
def z63 : S63 := ⟨(0 : Int), (⟨#[]⟩ : ByteArray), (⟨#[]⟩ : ByteArray), (0 : Int)⟩
def k63 : Kd S63 := Kd.iso (Kd.pair (Kd.int .i64) (Kd.pair Kd.string (Kd.pair Kd.string (Kd.int .u64)))) (fun x : S63 => (x.f0, x.f1, x.f2, x.f3))
theorem k63_open {w : World} {x : S63} {cs : List Value} (h : k63.K w x cs) : cs = [.int .i64 x.f0, .string x.f1, .string x.f2, .int .u64 x.f3] := by
 obtain ⟨_, _, rfl, rfl, ⟨_, _, rfl, rfl, ⟨_, _, rfl, rfl, rfl⟩⟩⟩ := h
 exact rfl
theorem k63_mk (w : World) (x : S63)  : k63.K w x [.int .i64 x.f0, .string x.f1, .string x.f2, .int .u64 x.f3] := ⟨[.int .i64 x.f0], [.string x.f1, .string x.f2, .int .u64 x.f3], rfl, rfl, ⟨[.string x.f1], [.string x.f2, .int .u64 x.f3], rfl, rfl, ⟨[.string x.f2], [.int .u64 x.f3], rfl, rfl, rfl⟩⟩⟩
theorem k63_mkM (w : World) (base : Nat) (ok : Nat → Prop) (x : S63)  : k63.M w base ok x [.int .i64 x.f0, .string x.f1, .string x.f2, .int .u64 x.f3] := ⟨[.int .i64 x.f0], [.string x.f1, .string x.f2, .int .u64 x.f3], rfl, rfl, ⟨[.string x.f1], [.string x.f2, .int .u64 x.f3], rfl, rfl, ⟨[.string x.f2], [.int .u64 x.f3], rfl, rfl, rfl⟩⟩⟩
def rd_T63 (xs : List S63) (i : Int) : S63 := xs.getD i.toNat z63
theorem at_T63 {w : World} {A : Option Addr} {n : Nat} {xs : List S63} (h : Kd.C k63 w A n xs) (i : Int) (h0 : 0 ≤ i) (h1 : i < n) : ∃ ad , A = some ad ∧ w.cell? (ad.add (i.toNat * 4)) = some (.int .i64 (rd_T63 xs i).f0) ∧ w.cell? ⟨(ad.add (i.toNat * 4)).block, (ad.add (i.toNat * 4)).off + 1, none⟩ = some (.string (rd_T63 xs i).f1) ∧ w.cell? ⟨(ad.add (i.toNat * 4)).block, (ad.add (i.toNat * 4)).off + 2, none⟩ = some (.string (rd_T63 xs i).f2) ∧ w.cell? ⟨(ad.add (i.toNat * 4)).block, (ad.add (i.toNat * 4)).off + 3, none⟩ = some (.int .u64 (rd_T63 xs i).f3) := by
 obtain ⟨ad, c, e, _, hK, hc0⟩ := Kd.C_get h z63 i h0 h1
 have hc : ∀ j u, c[j]? = some u → w.cell? (ad.add (i.toNat * 4 + j)) = some u := hc0
 obtain rfl := k63_open hK
 exact ⟨ad, e, hc 0 _ rfl, by rw [← add_field _ _ 1 (by omega)]; exact hc 1 _ rfl, by rw [← add_field _ _ 2 (by omega)]; exact hc 2 _ rfl, by rw [← add_field _ _ 3 (by omega)]; exact hc 3 _ rfl⟩
structure S61 where
 f0 : ByteArray
 f1 : Int
def z61 : S61 := ⟨(⟨#[]⟩ : ByteArray), (0 : Int)⟩
def k61 : Kd S61 := Kd.iso (Kd.pair Kd.string (Kd.int .u64)) (fun x : S61 => (x.f0, x.f1))
theorem k61_open {w : World} {x : S61} {cs : List Value} (h : k61.K w x cs) : cs = [.string x.f0, .int .u64 x.f1] := by
 obtain ⟨_, _, rfl, rfl, rfl⟩ := h
 exact rfl
theorem k61_openM {w : World} {base : Nat} {ok : Nat → Prop} {x : S61} {cs : List Value} (h : k61.M w base ok x cs) : cs = [.string x.f0, .int .u64 x.f1] := by
 obtain ⟨_, _, rfl, rfl, rfl⟩ := h
 exact rfl
theorem k61_mkM (w : World) (base : Nat) (ok : Nat → Prop) (x : S61)  : k61.M w base ok x [.string x.f0, .int .u64 x.f1] := ⟨[.string x.f0], [.int .u64 x.f1], rfl, rfl, rfl⟩
def rd_T61 (xs : List S61) (i : Int) : S61 := xs.getD i.toNat z61
theorem at_T61 {w : World} {A : Option Addr} {n : Nat} {xs : List S61} (h : Kd.C k61 w A n xs) (i : Int) (h0 : 0 ≤ i) (h1 : i < n) : ∃ ad , A = some ad ∧ w.cell? (ad.add (i.toNat * 2)) = some (.string (rd_T61 xs i).f0) ∧ w.cell? ⟨(ad.add (i.toNat * 2)).block, (ad.add (i.toNat * 2)).off + 1, none⟩ = some (.int .u64 (rd_T61 xs i).f1) := by
 obtain ⟨ad, c, e, _, hK, hc0⟩ := Kd.C_get h z61 i h0 h1
 have hc : ∀ j u, c[j]? = some u → w.cell? (ad.add (i.toNat * 2 + j)) = some u := hc0
 obtain rfl := k61_open hK
 exact ⟨ad, e, hc 0 _ rfl, by rw [← add_field _ _ 1 (by omega)]; exact hc 1 _ rfl⟩
structure S69 where
 f0 : ByteArray
 f1 : Int
 f2 : Bool
def z69 : S69 := ⟨(⟨#[]⟩ : ByteArray), (0 : Int), false⟩
def k69 : Kd S69 := Kd.iso (Kd.pair Kd.string (Kd.pair (Kd.int .u64) Kd.bool)) (fun x : S69 => (x.f0, x.f1, x.f2))
theorem k69_open {w : World} {x : S69} {cs : List Value} (h : k69.K w x cs) : cs = [.string x.f0, .int .u64 x.f1, .bool x.f2] := by
 obtain ⟨_, _, rfl, rfl, ⟨_, _, rfl, rfl, rfl⟩⟩ := h
 exact rfl
theorem k69_mk (w : World) (x : S69)  : k69.K w x [.string x.f0, .int .u64 x.f1, .bool x.f2] := ⟨[.string x.f0], [.int .u64 x.f1, .bool x.f2], rfl, rfl, ⟨[.int .u64 x.f1], [.bool x.f2], rfl, rfl, rfl⟩⟩
theorem k69_mkM (w : World) (base : Nat) (ok : Nat → Prop) (x : S69)  : k69.M w base ok x [.string x.f0, .int .u64 x.f1, .bool x.f2] := ⟨[.string x.f0], [.int .u64 x.f1, .bool x.f2], rfl, rfl, ⟨[.int .u64 x.f1], [.bool x.f2], rfl, rfl, rfl⟩⟩
def rd_T69 (xs : List S69) (i : Int) : S69 := xs.getD i.toNat z69
theorem at_T69 {w : World} {A : Option Addr} {n : Nat} {xs : List S69} (h : Kd.C k69 w A n xs) (i : Int) (h0 : 0 ≤ i) (h1 : i < n) : ∃ ad , A = some ad ∧ w.cell? (ad.add (i.toNat * 3)) = some (.string (rd_T69 xs i).f0) ∧ w.cell? ⟨(ad.add (i.toNat * 3)).block, (ad.add (i.toNat * 3)).off + 1, none⟩ = some (.int .u64 (rd_T69 xs i).f1) ∧ w.cell? ⟨(ad.add (i.toNat * 3)).block, (ad.add (i.toNat * 3)).off + 2, none⟩ = some (.bool (rd_T69 xs i).f2) := by
 obtain ⟨ad, c, e, _, hK, hc0⟩ := Kd.C_get h z69 i h0 h1
 have hc : ∀ j u, c[j]? = some u → w.cell? (ad.add (i.toNat * 3 + j)) = some u := hc0
 obtain rfl := k69_open hK
 exact ⟨ad, e, hc 0 _ rfl, by rw [← add_field _ _ 1 (by omega)]; exact hc 1 _ rfl, by rw [← add_field _ _ 2 (by omega)]; exact hc 2 _ rfl⟩
structure S71 where
 f0 : ByteArray
 f1 : ByteArray
def z71 : S71 := ⟨(⟨#[]⟩ : ByteArray), (⟨#[]⟩ : ByteArray)⟩
def k71 : Kd S71 := Kd.iso (Kd.pair Kd.string Kd.string) (fun x : S71 => (x.f0, x.f1))
theorem k71_open {w : World} {x : S71} {cs : List Value} (h : k71.K w x cs) : cs = [.string x.f0, .string x.f1] := by
 obtain ⟨_, _, rfl, rfl, rfl⟩ := h
 exact rfl
theorem k71_openM {w : World} {base : Nat} {ok : Nat → Prop} {x : S71} {cs : List Value} (h : k71.M w base ok x cs) : cs = [.string x.f0, .string x.f1] := by
 obtain ⟨_, _, rfl, rfl, rfl⟩ := h
 exact rfl
theorem k71_mk (w : World) (x : S71)  : k71.K w x [.string x.f0, .string x.f1] := ⟨[.string x.f0], [.string x.f1], rfl, rfl, rfl⟩
theorem k71_mkM (w : World) (base : Nat) (ok : Nat → Prop) (x : S71)  : k71.M w base ok x [.string x.f0, .string x.f1] := ⟨[.string x.f0], [.string x.f1], rfl, rfl, rfl⟩
def rd_T71 (xs : List S71) (i : Int) : S71 := xs.getD i.toNat z71
theorem at_T71 {w : World} {A : Option Addr} {n : Nat} {xs : List S71} (h : Kd.C k71 w A n xs) (i : Int) (h0 : 0 ≤ i) (h1 : i < n) : ∃ ad , A = some ad ∧ w.cell? (ad.add (i.toNat * 2)) = some (.string (rd_T71 xs i).f0) ∧ w.cell? ⟨(ad.add (i.toNat * 2)).block, (ad.add (i.toNat * 2)).off + 1, none⟩ = some (.string (rd_T71 xs i).f1) := by
 obtain ⟨ad, c, e, _, hK, hc0⟩ := Kd.C_get h z71 i h0 h1
 have hc : ∀ j u, c[j]? = some u → w.cell? (ad.add (i.toNat * 2 + j)) = some u := hc0
 obtain rfl := k71_open hK
 exact ⟨ad, e, hc 0 _ rfl, by rw [← add_field _ _ 1 (by omega)]; exact hc 1 _ rfl⟩
structure S65 where
 f0 : Bool
 f1 : Int
 f2 : (List S61)
def z65 : S65 := ⟨false, (0 : Int), ([] : List S61)⟩
def k65 : Kd S65 := Kd.iso (Kd.pair Kd.bool (Kd.pair (Kd.int .u64) (Kd.slice 61 k61))) (fun x : S65 => (x.f0, x.f1, x.f2))
theorem k65_open {w : World} {x : S65} {cs : List Value} (h : k65.K w x cs) : ∃ A2 c2, cs = [.bool x.f0, .int .u64 x.f1, .slice A2 x.f2.length c2] ∧ x.f2.length ≤ c2 ∧ k61.C w A2 x.f2.length x.f2 := by
 obtain ⟨_, _, rfl, rfl, ⟨_, _, rfl, rfl, ⟨A2, c2, rfl, l2, g2⟩⟩⟩ := h
 exact ⟨A2, c2, rfl, l2, g2⟩
theorem k65_mk (w : World) (x : S65) {A2 : Option Addr} {c2 : Nat} (l2 : x.f2.length ≤ c2) (g2 : k61.C w A2 x.f2.length x.f2) : k65.K w x [.bool x.f0, .int .u64 x.f1, .slice A2 x.f2.length c2] := ⟨[.bool x.f0], [.int .u64 x.f1, .slice A2 x.f2.length c2], rfl, rfl, ⟨[.int .u64 x.f1], [.slice A2 x.f2.length c2], rfl, rfl, ⟨A2, c2, rfl, l2, g2⟩⟩⟩
theorem k65_mkM (w : World) (base : Nat) (ok : Nat → Prop) (x : S65) {v2 : Value} (g2 : k61.R 61 w base ok v2 x.f2) : k65.M w base ok x [.bool x.f0, .int .u64 x.f1, v2] := ⟨[.bool x.f0], [.int .u64 x.f1, v2], rfl, rfl, ⟨[.int .u64 x.f1], [v2], rfl, rfl, ⟨v2, rfl, g2⟩⟩⟩
def rd_T65 (xs : List S65) (i : Int) : S65 := xs.getD i.toNat z65
theorem at_T65 {w : World} {A : Option Addr} {n : Nat} {xs : List S65} (h : Kd.C k65 w A n xs) (i : Int) (h0 : 0 ≤ i) (h1 : i < n) : ∃ ad A2 c2, A = some ad ∧ w.cell? (ad.add (i.toNat * 3)) = some (.bool (rd_T65 xs i).f0) ∧ w.cell? ⟨(ad.add (i.toNat * 3)).block, (ad.add (i.toNat * 3)).off + 1, none⟩ = some (.int .u64 (rd_T65 xs i).f1) ∧ w.cell? ⟨(ad.add (i.toNat * 3)).block, (ad.add (i.toNat * 3)).off + 2, none⟩ = some (.slice A2 (rd_T65 xs i).f2.length c2) ∧ (rd_T65 xs i).f2.length ≤ c2 ∧ k61.C w A2 (rd_T65 xs i).f2.length (rd_T65 xs i).f2 := by
 obtain ⟨ad, c, e, _, hK, hc0⟩ := Kd.C_get h z65 i h0 h1
 have hc : ∀ j u, c[j]? = some u → w.cell? (ad.add (i.toNat * 3 + j)) = some u := hc0
 obtain ⟨A2, c2, rfl, l2, g2⟩ := k65_open hK
 exact ⟨ad, A2, c2, e, hc 0 _ rfl, by rw [← add_field _ _ 1 (by omega)]; exact hc 1 _ rfl, by rw [← add_field _ _ 2 (by omega)]; exact hc 2 _ rfl, l2, g2⟩
end Go.Proofs.YtgmlenpcchhmbaaGreat.P
end
section
set_option linter.unusedVariables false
set_option linter.unusedSimpArgs false

end
section
set_option linter.unusedVariables false
set_option linter.unusedSimpArgs false
namespace Go.Proofs.YtgmlenpcchhmbaaGreat.P
open Go.ChangeShapes Go.WideShapes Go.ChangeAt Go.RowKit Go.Deep Go.Proofs.YtgmlenpcchhmbaaGreatW.PrintWords
theorem opens_opw : Opens Tryz.prog k63 63 (fun o => (Lit.int .i64 o.f0).wf = true ∧ (Lit.int .u64 o.f3).wf = true) := opens_mono (opens_iso (g := fun x => (⟨x.1, x.2.1, x.2.2.1, x.2.2.2⟩ : S63)) (fun _ => rfl) (opens_struct Tryz.underlying63 (by kernel_rfl)
  (opensF_cons rfl (by kernel_rfl) (opens_int Tryz.underlying3) (opensF_cons rfl (by kernel_rfl) (opens_str Tryz.underlying9) (opensF_cons rfl (by kernel_rfl) (opens_str Tryz.underlying9) (opensF_one rfl (by kernel_rfl) (opens_int Tryz.underlying58))))))) (fun _ h => ⟨h.1, h.2.2.2⟩)
theorem opens_opsw : Opens Tryz.prog (Kd.slice 63 k63) 22 (fun l => l.length ≤ 9223372036854775807 ∧ ∀ s ∈ l, (Lit.int .i64 s.f0).wf = true ∧ (Lit.int .u64 s.f3).wf = true) := opens_slice 63 Tryz.underlying22 (by kernel_rfl) opens_opw
end Go.Proofs.YtgmlenpcchhmbaaGreat.P
end
section
set_option linter.unusedVariables false
set_option linter.unusedSimpArgs false
namespace Go.Proofs.YtgmlenpcchhmbaaGreat.P
def leBytes : Nat → Nat → List Int
  | 0, _ => []
  | k + 1, n => ((n % 256 : Nat) : Int) :: leBytes k (n / 256)
theorem leBytes_len : ∀ k n, (leBytes k n).length = k
  | 0, _ => rfl
  | k + 1, n => by simp [leBytes, leBytes_len k]
theorem leBytes_snoc : ∀ k n, leBytes (k + 1) n = leBytes k n ++ [((n / 256 ^ k % 256 : Nat) : Int)]
  | 0, n => by simp [leBytes]
  | k + 1, n => by
    rw [leBytes, leBytes_snoc k (n / 256), leBytes, Nat.div_div_eq_div_mul, Nat.pow_succ, Nat.mul_comm 256]
    rfl
def leNum : List Int → Nat
  | [] => 0
  | b :: r => b.toNat + 256 * leNum r
def bytesOk (xs : List Int) : Prop := ∀ x ∈ xs, 0 ≤ x ∧ x < 256
theorem leNum_lt : ∀ (xs : List Int), bytesOk xs → leNum xs < 256 ^ xs.length
  | [], _ => by simp [leNum]
  | b :: r, h => by
    have h1 := leNum_lt r (fun x hx => h x (List.mem_cons_of_mem _ hx))
    have h2 := h b (List.mem_cons_self ..)
    rw [List.length_cons, Nat.pow_succ]
    unfold leNum
    omega
theorem leNum_snoc (xs : List Int) (b : Int) : leNum (xs ++ [b]) = leNum xs + 256 ^ xs.length * b.toNat := by
  induction xs with
  | nil => simp [leNum]
  | cons a r ih =>
    rw [List.cons_append, leNum, ih, leNum, List.length_cons, Nat.pow_succ, Nat.mul_add, ← Nat.mul_assoc]
    rw [Nat.mul_comm 256 (256 ^ r.length)]
    omega
theorem or_join {k acc b : Nat} (hk : k < 8) (ha : acc < 256 ^ k) (hb : b < 256) : bits .or .u64 (acc : Int) (IntKind.u64.wrap (IntKind.u64.wrap (b : Int) * 2 ^ (8 * k))) = ((acc + 256 ^ k * b : Nat) : Int) := by
  have hp : (2 : Nat) ^ (8 * k) = 256 ^ k := by rw [Nat.pow_mul]
  have h1 : 256 ^ k * b + 256 ^ k ≤ 256 ^ 8 := by
    rw [← Nat.mul_succ]
    refine Nat.le_trans (Nat.mul_le_mul_left _ (show b + 1 ≤ 256 by omega)) ?_
    rw [← Nat.pow_succ]
    exact Nat.pow_le_pow_right (by decide) (by omega)
  have h2 : (256 : Nat) ^ 8 = 18446744073709551616 := by decide
  have e1 : IntKind.u64.wrap (b : Int) = b := Go.IntWalk.u64_in _ (by omega)
  have e2 : (b : Int) * 2 ^ (8 * k) = ((256 ^ k * b : Nat) : Int) := by
    rw [← hp, Int.natCast_mul, Int.mul_comm]; simp
  have e3 : IntKind.u64.wrap ((256 ^ k * b : Nat) : Int) = ((256 ^ k * b : Nat) : Int) := Go.IntWalk.u64_in _ (by omega)
  rw [e1, e2, e3]
  have hw : ∀ n : Int, 0 ≤ n → n < 2 ^ 64 → IntKind.u64.wrap n = n := fun n h0 h1 => Go.IntWalk.u64_in n (by omega)
  rw [(bits_nat .u64 64 (by decide) hw acc (256 ^ k * b) (by omega) (by omega)).2, ← hp, Nat.or_comm, ← Nat.two_pow_add_eq_or_of_lt (by omega) b, Nat.add_comm]
def u64 (x : Int) : Nat := (x % 18446744073709551616).toNat
def i64 (n : Nat) : Int := if n < 9223372036854775808 then n else (n : Int) - 18446744073709551616
theorem u64_lt (x : Int) : u64 x < 18446744073709551616 := by unfold u64; omega
def laidI (x : Int) : List Int := leBytes 8 (u64 x)
theorem laidI_len (x : Int) : (laidI x).length = 8 := leBytes_len _ _
end Go.Proofs.YtgmlenpcchhmbaaGreat.P
end
section
set_option linter.unusedVariables false
set_option linter.unusedSimpArgs false
namespace Go.Proofs.YtgmlenpcchhmbaaGreat.P
open Go.RowKit Go.Proofs.YtgmlenpcchhmbaaGreatW.PrintWords Go.Proofs.YtgmlenpcchhmbaaGreatW.PrintLast Go.Proofs.YtgmlenpcchhmbaaGreatW.PrintMore
theorem infoB : (Tryz.prog.info? 5).map (fun i => (i.zero, i.size, i.bytes)) = some (some (.int .u8 0), 1, 1) := by kernel_rfl
theorem stop_append {P : Program} {ops : Array Oper} {rest : List Oper} {o : Oper} {a : Go.Act} {Q : Exit → Go.Act → World → Prop} {w : World} {xs : Array Operand} {ts : Array TypeId} (_ho : o.op = .call { callee := .builtin .append, args := xs, argTypes := ts })
    (h : RowKit.Hid (wpList P ops Q (o :: rest) a w)) : wpList P ops Q (o :: rest) a w := h.out
abbrev ptr (g : Nat) : Value := .pointer (some ⟨g, 0, none⟩)
def RowB (w : World) (base : Nat) (v : Value) (xs : List Int) : Prop := w.ownsRow base 5 1 v xs.length (nums .u8 xs)
theorem RowB.upd {w w' : World} {S : Nat → Prop} {b : Nat} {v : Value} {xs : List Int} (h : RowB w b v xs) (hu : Upd w w' S) (hs : ∀ k, v.ownBlock = some k → ¬ S k) : RowB w' b v xs := by
  obtain ⟨h0, h⟩ := h
  refine ⟨h0, ?_⟩
  rcases h with h | ⟨g, cap, cur, rfl, h1, h2, h3⟩
  · exact .inl h
  · refine .inr ⟨g, cap, cur, rfl, h1, ?_, h3⟩
    have hlt : g < w.heap.size := (Array.getElem?_eq_some_iff.1 h2).1
    exact (hu.block g hlt (hs g (by simp [Value.ownBlock]))).trans h2
theorem RowB.ge {w : World} {b : Nat} {v : Value} {xs : List Int} (h : RowB w b v xs) : ∀ k, v.ownBlock = some k → b ≤ k ∧ k < w.heap.size := by
  obtain ⟨h0, h⟩ := h
  intro k hk
  rcases h with ⟨rfl, _⟩ | ⟨g, cap, cur, rfl, h1, h2, h3⟩
  · simp [Value.ownBlock] at hk
  · simp [Value.ownBlock] at hk
    subst hk
    exact ⟨h1, (Array.getElem?_eq_some_iff.1 h2).1⟩
theorem RowB.below {w w' : World} {b : Nat} {v : Value} {xs : List Int} (h : RowB w b v xs) (hb : Below w.heap.size w w') : RowB w' b v xs := h.upd (Upd.of_below hb (fun _ => False)) (fun _ _ h => h)
structure PenIs (w : World) (base g : Nat) (xs : List Int) : Prop where
  ge : base ≤ g
  ex : ∃ v, Blk w g 95 #[v] ∧ RowB w base v xs ∧ v.ownBlock ≠ some g
theorem PenIs.lt {w : World} {base g : Nat} {xs : List Int} (h : PenIs w base g xs) : g < w.heap.size := by
  obtain ⟨v, hb, _⟩ := h.ex
  exact hb.lt
theorem PenIs.upd {w w' : World} {S : Nat → Prop} {base g : Nat} {xs : List Int} (h : PenIs w base g xs) (hu : Upd w w' S) (hs : ∀ k, base ≤ k → ¬ S k) : PenIs w' base g xs := by
  obtain ⟨v, hb, hr, hn⟩ := h.ex
  exact ⟨h.ge, v, hb.upd hu (hs g h.ge), hr.upd hu (fun k hk => hs k (hr.ge k hk).1), hn⟩
theorem PenIs.below {w w' : World} {base g : Nat} {xs : List Int} (h : PenIs w base g xs) (hb : Below w.heap.size w w') : PenIs w' base g xs := h.upd (Upd.of_below hb (fun _ => False)) (fun _ _ h => h)
theorem PenIs.new (w : World) : PenIs (w.alloc (.cells #[.slice none 0 0] 95)) w.heap.size w.heap.size [] :=
  ⟨Nat.le_refl _, .slice none 0 0, Blk.new w 95 _, ⟨rfl, .inl ⟨rfl, rfl⟩⟩, by simp [Value.ownBlock]⟩
theorem RowB.ne {w : World} {b g : Nat} {v : Value} {xs : List Int} {t : TypeId} {cs : Array Value} (h : RowB w b v xs) (hB : Blk w g t cs) (ht : t ≠ 5) : v.ownBlock ≠ some g := by
  intro e
  obtain ⟨_, h⟩ := h
  rcases h with ⟨rfl, _⟩ | ⟨g', cap, cur, rfl, h1, h2, h3⟩
  · simp [Value.ownBlock] at e
  · simp [Value.ownBlock] at e
    subst e
    unfold Blk at hB
    rw [h2] at hB
    injection hB with hB
    injection hB with _ hB
    exact ht hB.symm
theorem PenIs.laid {w w1 : World} {base g : Nat} {ys : List Int} {v v1 : Value} (hge : base ≤ g) (hB : Blk w g 95 #[v]) (hn : v.ownBlock ≠ some g) (ho : RowB w1 base v1 ys) (hg : w.grownBy w1 v.ownBlock) : PenIs (w1.setCell ⟨g, 0, none⟩ v1) base g ys := by
  have hB1 := hB.grown hg (fun e => hn e.symm)
  have hne : v1.ownBlock ≠ some g := ho.ne hB1 (by decide)
  refine ⟨hge, v1, hB1.set_ 0 v1, ?_, hne⟩
  exact ho.upd ((Upd.refl w1 (· = g)).setCell (p := ⟨g, 0, none⟩) (.inl rfl) v1) (fun k hk e => hne (e ▸ hk))
def KeepT (w w' : World) : Prop := ∀ (b : Nat) (t : TypeId) (cs : Array Value), t ≠ 5 → t ≠ 95 → Blk w b t cs → Blk w' b t cs
structure KB (base : Nat) (w w' : World) : Prop where
  b : Below base w w'
  k : KeepT w w'
theorem KB.refl (base : Nat) (w : World) : KB base w w := ⟨Below.refl _ _, fun _ _ _ _ _ h => h⟩
theorem KB.trans {base : Nat} {a b c : World} (h : KB base a b) (h' : KB base b c) : KB base a c := ⟨h.b.trans h'.b, fun g t cs h1 h2 hb => h'.k g t cs h1 h2 (h.k g t cs h1 h2 hb)⟩
theorem KB.of_below {base : Nat} {a b : World} (h : Below a.heap.size a b) (hb : base ≤ a.heap.size) : KB base a b := ⟨h.mono hb, fun g t cs _ _ hB => hB.below h hB.lt⟩
theorem KB.step {base g : Nat} {w wr w1 : World} {v v1 : Value} {Y : List Int} (h : KB base w wr) (hbl : Below base w w1) (hBk : Blk wr g 95 #[v]) (hr : RowB wr base v Y) (hg : wr.grownBy w1 v.ownBlock) (hge : base ≤ g) : KB base w (w1.setCell ⟨g, 0, none⟩ v1) :=
  ⟨hbl.setCell hge _, fun b t cs h1 h2 hB => by
    have hr1 := h.k b t cs h1 h2 hB
    have hr2 := hr1.grown hg (fun e => (hr.ne hr1 h1) e.symm)
    exact hr2.far (p := ⟨g, 0, none⟩) (hr1.ne_ hBk h2) _⟩
section
variable {base g : Nat} {xs : List Int}
def LowA (w : World) (base g : Nat) (xs : List Int) (n many : Nat) (nv kv : Value) (wr : World) : Prop := ∃ k : Nat, kv = .int .i64 k ∧ k ≤ many ∧ nv = .int .u64 ((n / 256 ^ k : Nat) : Int) ∧ PenIs wr base g (xs ++ leBytes k n) ∧ KB base w wr
set_option maxHeartbeats 1000000 in
theorem low_any (n : Nat) (many : Nat) (hm : many ≤ 8) (hn : n < 18446744073709551616) (w : World) (h : PenIs w base g xs) (hl : xs.length ≤ 140000000000000) : Calls Tryz.prog 106 #[ptr g, .int .u64 (n : Int), .int .i64 (many : Int)] w fun e w' => e = .returned (.tuple #[]) ∧ PenIs w' base g (xs ++ leBytes many n) ∧ KB base w w' := by
  have H := Lib.hid h; clear h
  go_enter Tryz.func106, Tryz.ntmps106
  go_wp2
  go_loopw [1, 9] (fun nv kv wr => LowA w base g xs n many nv kv wr) (fun _ k _ => many - (intOf k).toNat)
  case atStart => exact ⟨0, rfl, Nat.zero_le _, by simp, by simpa [leBytes] using H.out, KB.refl _ _⟩
  case round =>
    obtain ⟨k, rfl, hk, rfl, hP, hB⟩ := hrel
    by_cases hlt : k < many
    · obtain ⟨v, hBk, hr, hn0⟩ := hP.ex
      have hge := hP.ge
      have hsn := leBytes_snoc k n
      have hdv : n / 256 ^ (k + 1) = n / 256 ^ k / 256 := by rw [Nat.div_div_eq_div_mul, Nat.pow_succ]
      have hlY : (xs ++ leBytes k n).length ≤ 140000000000008 := by rw [List.length_append, leBytes_len]; omega
      have hsn' : xs ++ leBytes (k + 1) n = (xs ++ leBytes k n) ++ [((n / 256 ^ k % 256 : Nat) : Int)] := by rw [hsn, List.append_assoc]
      have hmlt : n / 256 ^ k < 18446744073709551616 := Nat.lt_of_le_of_lt (Nat.div_le_self _ _) hn
      obtain ⟨m, hm'⟩ : ∃ m, n / 256 ^ k = m := ⟨_, rfl⟩
      obtain ⟨Y, hY⟩ : ∃ Y, xs ++ leBytes k n = Y := ⟨_, rfl⟩
      rw [hm'] at hdv hsn' hmlt ⊢
      rw [hY] at hr hlY hsn'
      have HS := Lib.hid (And.intro hdv (And.intro hsn' (And.intro hBk (And.intro hr (And.intro hn0 (And.intro hge hB))))))
      obtain ⟨A, c, rfl, _⟩ := own_reads hr
      have hc0 : wr.cell? ⟨g, 0, none⟩ = some (.slice A Y.length c) := hBk.cell 0
      have hBx := Lib.hid hBk
      have HL := Lib.hid (show (Y.length + 1) * 1 ≤ 140737488355328 by omega)
      have HG := Lib.hid (show base ≤ wr.heap.size from Nat.le_trans hge (Nat.le_of_lt hBk.lt))
      clear hP hr hsn hdv hsn' hBk hn0 hge hm' hY hB
      go_wp2_with (first | ((with_reducible refine gate_builtin (b := .append) (xs := #[.tmp 15, .tmp 18]) rfl ?_); at_builtin; refine stop_append rfl ?_))
      refine Lib.hid ?_;refine print_append_num (w0 := w) base rfl (.tmp 15) (.tmp 18) 23 5 .u8 1 rfl Tryz.underlying23 infoB (by decide) (.slice A Y.length c) Y (((m : Nat) : Int) % 256) rfl rfl HS.out.2.2.2.1 HS.out.2.2.2.2.2.2.b HG.out HL.out ?_;intro v1 w1 ho hbl hg hat
      have hB1 := hBx.out.grown hg (fun e => HS.out.2.2.2.2.1 e.symm)
      have hz1 := hB1.frozen 0
      have hc1 : w1.cell? ⟨g, 0, none⟩ = some (.slice A Y.length c) := hB1.cell 0
      have HO1 := Lib.hid (And.intro ho (And.intro hbl (And.intro hg hat)))
      obtain ⟨A1, c1, rfl⟩ := own_slice ho
      clear ho hbl hg hat hB1 hc0
      go_wp2
      obtain ⟨ho, hbl, hg, hat⟩ := HO1.out
      obtain ⟨hdv, hsn', hBk, hr, hn0, hge, hB⟩ := HS.out
      have hP1 := PenIs.laid hge hBk hn0 ho hg
      go_roundw
      case rel => exact ⟨k + 1, by go_num, by omega, by rw [hdv]; simp, by rw [hsn']; simpa using hP1, hB.step hbl hBk hr hg hge⟩
      case measure => simp [intOf]; omega
    · obtain rfl : k = many := by omega
      go_wp2
      (try simp only [Exit.inBlock, Exit.then]); refine bodyPost_end (results_none rfl _ _ _) rfl ?_
      exact ⟨rfl, hP, hB⟩
theorem rd_nat (xs : List Int) {k : Nat} (hk : k < xs.length) : Go.Proofs.YtgmlenpcchhmbaaGreatW.PrintWords.rd xs (k : Int) = xs[k] := by simp [Go.Proofs.YtgmlenpcchhmbaaGreatW.PrintWords.rd, List.getD_eq_getElem?_getD, List.getElem?_eq_getElem hk]
def laidIs (l : List Int) : List Int := (l.map laidI).flatten
theorem laidIs_len (l : List Int) : (laidIs l).length = 8 * l.length := by
  induction l with
  | nil => rfl
  | cons x l ih => unfold laidIs at ih ⊢; rw [List.map_cons, List.flatten_cons, List.length_append, ih, laidI_len, List.length_cons]; omega
theorem laidIs_snoc (l : List Int) {k : Nat} (hk : k < l.length) : laidIs (l.take (k + 1)) = laidIs (l.take k) ++ laidI l[k] := by
  unfold laidIs
  rw [List.take_succ_eq_append_getElem hk, List.map_append, List.flatten_append]; simp
def IntA (w : World) (base g : Nat) (xs : List Int) (l : List Int) (kv : Value) (wr : World) : Prop := ∃ k : Nat, kv = .int .i64 k ∧ k ≤ l.length ∧ PenIs wr base g (xs ++ laidIs (l.take k)) ∧ KB base w wr
theorem u64_cast (x : Int) : ((u64 x : Nat) : Int) = x % 18446744073709551616 := by unfold u64; omega
set_option maxHeartbeats 1000000 in
theorem pnInt_any (A : Option Addr) (c : Nat) (l : List Int) (w : World) (h : PenIs w base g xs) (hC : ∀ W, KB base w W → Kd.C (Kd.int .i64) W A l.length l) (hl : xs.length + 8 * l.length ≤ 140000000000000) : Calls Tryz.prog 60 #[ptr g, .slice A l.length c] w fun e w' => e = .returned (.tuple #[]) ∧ PenIs w' base g (xs ++ laidIs l) ∧ KB base w w' := by
  have HC := Lib.hid hC; have H := Lib.hid h; clear h hC
  go_enter Tryz.func60, Tryz.ntmps60
  go_wp2
  go_loopw [8] (fun kv wr => IntA w base g xs l kv wr) (fun k _ => l.length - (intOf k).toNat)
  case atStart => exact ⟨0, rfl, Nat.zero_le _, by simpa [laidIs] using H.out, KB.refl _ _⟩
  case round =>
    obtain ⟨k, rfl, hk, hP, hB⟩ := hrel
    by_cases hlt : k < l.length
    · obtain ⟨ad, rfl, hcell⟩ := Kd.at_int (HC.out wr hB) (k : Int) (by omega) (by omega)
      rw [rd_nat l hlt] at hcell
      simp only [Int.toNat_natCast] at hcell
      have hsn := laidIs_snoc l hlt
      have hY : (xs ++ laidIs (l.take k)).length ≤ 140000000000000 := by rw [List.length_append, laidIs_len, List.length_take]; omega
      have hlow := low_any (u64 l[k]) 8 (by omega) (u64_lt _) wr hP hY
      rw [u64_cast, List.append_assoc, show leBytes 8 (u64 l[k]) = laidI l[k] from rfl, ← hsn] at hlow
      generalize l[k] = x at *
      have HLOW := Lib.hid hlow; have HB := Lib.hid hB
      clear hlow hsn hP hB
      go_wp2_with fail
      refine HLOW.out.mono ?_
      rintro e w1 ⟨rfl, hP1, hB1⟩
      go_wp2_with fail
      go_roundw
      case rel => exact ⟨k + 1, by go_num, by omega, hP1, HB.out.trans hB1⟩
      case measure => simp [intOf]; omega
    · obtain rfl : k = l.length := by omega
      rw [List.take_length] at hP
      go_wp2
      (try simp only [Exit.inBlock, Exit.then]); refine bodyPost_end (results_none rfl _ _ _) rfl ?_
      exact ⟨rfl, hP, hB⟩
def cutT (s : ByteArray) : ByteArray := s.extract 0 (min s.size 1048576)
def laidT (s : ByteArray) : List Int := leBytes 4 (min s.size 1048576) ++ bytesOf (cutT s)
theorem cutT_size (s : ByteArray) : (cutT s).size = min s.size 1048576 := by unfold cutT; rw [ByteArray.size_extract]; omega
theorem laidT_len (s : ByteArray) : (laidT s).length = 4 + min s.size 1048576 := by unfold laidT; rw [List.length_append, leBytes_len, bytesOf_length, cutT_size]
def laidTs (l : List ByteArray) : List Int := (l.map laidT).flatten
theorem laidTs_snoc (l : List ByteArray) {k : Nat} (hk : k < l.length) : laidTs (l.take (k + 1)) = laidTs (l.take k) ++ laidT l[k] := by
  unfold laidTs
  rw [List.take_succ_eq_append_getElem hk, List.map_append, List.flatten_append]; simp
theorem laidTs_len (l : List ByteArray) : ∀ k, (laidTs (l.take k)).length ≤ 1048580 * l.length := by
  have key : ∀ l : List ByteArray, (laidTs l).length ≤ 1048580 * l.length := by
    intro l
    induction l with
    | nil => simp [laidTs]
    | cons x l ih =>
      unfold laidTs at ih ⊢
      rw [List.map_cons, List.flatten_cons, List.length_append, laidT_len, List.length_cons]
      omega
  intro k;refine Nat.le_trans (key _) (Nat.mul_le_mul_left _ ?_)
  rw [List.length_take]; omega
def TextA (w : World) (base g : Nat) (xs : List Int) (l : List ByteArray) (kv : Value) (wr : World) : Prop := ∃ k : Nat, kv = .int .i64 k ∧ k ≤ l.length ∧ PenIs wr base g (xs ++ laidTs (l.take k)) ∧ KB base w wr
set_option maxHeartbeats 2000000 in
theorem pnText_any (A : Option Addr) (c : Nat) (l : List ByteArray) (w : World) (h : PenIs w base g xs) (hC : ∀ W, KB base w W → Kd.C Kd.string W A l.length l) (hs : ∀ s ∈ l, s.size ≤ 140737488355328) (hl : xs.length + 1048580 * l.length ≤ 140000000000000) : Calls Tryz.prog 61 #[ptr g, .slice A l.length c] w fun e w' => e = .returned (.tuple #[]) ∧ PenIs w' base g (xs ++ laidTs l) ∧ KB base w w' := by
  have HC := Lib.hid hC; have H := Lib.hid h; have HS := Lib.hid hs; clear h hC hs
  go_enter Tryz.func61, Tryz.ntmps61
  go_wp2
  go_loopw [5, 10] (fun _ kv wr => TextA w base g xs l kv wr) (fun _ k _ => l.length - (intOf k).toNat)
  case atStart => exact ⟨0, rfl, Nat.zero_le _, by simpa [laidTs] using H.out, KB.refl _ _⟩
  case round =>
    obtain ⟨k, rfl, hk, hP, hB⟩ := hrel
    by_cases hlt : k < l.length
    · obtain ⟨ad, rfl, hcell⟩ := Kd.at_string (HC.out wr hB) (k : Int) (by omega) (by omega)
      have hsn := laidTs_snoc l hlt
      have hrd : rdOf ByteArray.empty l (k : Int) = l[k] := by simp [rdOf, List.getD_eq_getElem?_getD, List.getElem?_eq_getElem hlt]
      rw [hrd] at hcell
      simp only [Int.toNat_natCast] at hcell
      have hsz := HS.out l[k] (List.getElem_mem hlt)
      have hY : (xs ++ laidTs (l.take k)).length + 1048580 ≤ 140000000000000 := by
        rw [List.length_append]
        have h1 := laidTs_len (l.take k) k
        rw [List.take_take, Nat.min_self, List.length_take] at h1
        have : 1048580 * min k l.length + 1048580 ≤ 1048580 * l.length := by rw [← Nat.mul_succ]; exact Nat.mul_le_mul_left _ (by omega)
        omega
      generalize l[k] = s at *
      obtain ⟨Y, hYd⟩ : ∃ Y, xs ++ laidTs (l.take k) = Y := ⟨_, rfl⟩
      rw [hYd] at hY hP
      have hst : xs ++ laidTs (l.take (k + 1)) = Y ++ leBytes 4 (min s.size 1048576) ++ bytesOf (cutT s) := by rw [hsn, ← List.append_assoc, hYd, laidT, List.append_assoc]
      have hlow := low_any (min s.size 1048576) 4 (by omega) (by omega) wr hP (by omega)
      have HB := Lib.hid hB; have HY := Lib.hid hY
      clear hsn hP hB hrd hYd hY
      by_cases hs6 : s.size ≤ 1048576
      · have hcut : cutT s = s := by unfold cutT; rw [Nat.min_eq_left hs6]; exact ByteArray.extract_zero_size
        rw [Nat.min_eq_left hs6] at hlow
        rw [Nat.min_eq_left hs6, hcut] at hst
        have HLOW := Lib.hid hlow; have HST := Lib.hid hst
        clear hlow hst hcut
        go_wp2_with fail
        obtain ⟨Z, hZ⟩ : ∃ Z, Y ++ leBytes 4 s.size = Z := ⟨_, rfl⟩
        refine HLOW.out.mono ?_
        rintro e w1 ⟨rfl, hP1, hB1⟩
        obtain ⟨v1, hBk1, hr1, hn1⟩ := hP1.ex
        have hge1 := hP1.ge
        rw [hZ] at hr1
        have hlZ : Z.length + s.size ≤ 140737488355328 := by rw [← hZ, List.length_append, leBytes_len]; have := HY.out; omega
        have hst := HST.out
        rw [hZ] at hst
        have HST2 := Lib.hid hst; have HLZ := Lib.hid hlZ
        have HX := Lib.hid (And.intro hge1 (And.intro hBk1 (And.intro hn1 (And.intro hr1 (And.intro (HB.out.trans hB1) (Nat.le_trans hge1 (Nat.le_of_lt hBk1.lt)))))))
        obtain ⟨A1, c1, rfl, _⟩ := own_reads hr1
        have hc1 : w1.cell? ⟨g, 0, none⟩ = some (.slice A1 Z.length c1) := hBk1.cell 0
        clear HLOW hP1 hB1 hr1 hn1 hge1 hZ hlZ hst HST HY hBk1
        go_wp2_with (first | ((with_reducible refine gate_builtin (b := .append) (xs := #[.tmp 28, .tmp 29]) rfl ?_); at_builtin; refine stop_append rfl ?_))
        refine Lib.hid ?_;refine print_append_str (w0 := w) base rfl (.tmp 28) (.tmp 29) 23 9 5 rfl Tryz.underlying23 Tryz.underlying9 infoB (.slice A1 Z.length c1) Z s rfl rfl HX.out.2.2.2.1 HX.out.2.2.2.2.1.b HX.out.2.2.2.2.2 HLZ.out ?_;intro v2 w2 ho2 hb2 hg2
        have hB2 := HX.out.2.1.grown hg2 (fun e => HX.out.2.2.1 e.symm)
        have hz2 := hB2.frozen 0
        have hc2 : w2.cell? ⟨g, 0, none⟩ = some (.slice A1 Z.length c1) := hB2.cell 0
        have HO2 := Lib.hid (And.intro ho2 (And.intro hb2 hg2))
        obtain ⟨A2, c2, rfl⟩ := own_slice ho2
        clear ho2 hb2 hg2 hB2 hc1
        go_wp2
        obtain ⟨ho2, hb2, hg2⟩ := HO2.out
        obtain ⟨hge1, hBk1, hn1, hr1, hKB, _⟩ := HX.out
        have hP2 := PenIs.laid hge1 hBk1 hn1 ho2 hg2
        go_roundw
        case rel => exact ⟨k + 1, by go_num, by omega, by rw [HST2.out]; simpa using hP2, hKB.step hb2 hBk1 hr1 hg2 hge1⟩
        case measure => simp [intOf]; omega
      · have hmin : min s.size 1048576 = 1048576 := Nat.min_eq_right (by omega)
        have hcs : (cutT s).size = 1048576 := by rw [cutT_size, hmin]
        rw [hmin] at hlow
        have hlow : Calls Tryz.prog 106 #[ptr g, .int .u64 1048576, .int .i64 4] wr _ := hlow
        rw [hmin] at hst
        have hmin2 : min 1048576 s.size = 1048576 := Nat.min_eq_left (by omega)
        have HLOW := Lib.hid hlow; have HST := Lib.hid hst
        have hco : s.extract 0 1048576 = cutT s := by unfold cutT; rw [hmin]
        have HCO := Lib.hid hco
        clear hlow hst hco hmin
        go_wp2_with fail
        rw [HCO.out]
        generalize cutT s = s at *
        obtain ⟨Z, hZ⟩ : ∃ Z, Y ++ leBytes 4 1048576 = Z := ⟨_, rfl⟩
        refine HLOW.out.mono ?_
        rintro e w1 ⟨rfl, hP1, hB1⟩
        obtain ⟨v1, hBk1, hr1, hn1⟩ := hP1.ex
        have hge1 := hP1.ge
        rw [hZ] at hr1
        have hlZ : Z.length + s.size ≤ 140737488355328 := by rw [← hZ, List.length_append, leBytes_len]; have := HY.out; omega
        have hst := HST.out
        rw [hZ] at hst
        have HST2 := Lib.hid hst; have HLZ := Lib.hid hlZ
        have HX := Lib.hid (And.intro hge1 (And.intro hBk1 (And.intro hn1 (And.intro hr1 (And.intro (HB.out.trans hB1) (Nat.le_trans hge1 (Nat.le_of_lt hBk1.lt)))))))
        obtain ⟨A1, c1, rfl, _⟩ := own_reads hr1
        have hc1 : w1.cell? ⟨g, 0, none⟩ = some (.slice A1 Z.length c1) := hBk1.cell 0
        clear HLOW hP1 hB1 hr1 hn1 hge1 hZ hlZ hst HST HY hBk1
        go_wp2_with (first | ((with_reducible refine gate_builtin (b := .append) (xs := #[.tmp 28, .tmp 29]) rfl ?_); at_builtin; refine stop_append rfl ?_))
        refine Lib.hid ?_;refine print_append_str (w0 := w) base rfl (.tmp 28) (.tmp 29) 23 9 5 rfl Tryz.underlying23 Tryz.underlying9 infoB (.slice A1 Z.length c1) Z s rfl rfl HX.out.2.2.2.1 HX.out.2.2.2.2.1.b HX.out.2.2.2.2.2 HLZ.out ?_;intro v2 w2 ho2 hb2 hg2
        have hB2 := HX.out.2.1.grown hg2 (fun e => HX.out.2.2.1 e.symm)
        have hz2 := hB2.frozen 0
        have hc2 : w2.cell? ⟨g, 0, none⟩ = some (.slice A1 Z.length c1) := hB2.cell 0
        have HO2 := Lib.hid (And.intro ho2 (And.intro hb2 hg2))
        obtain ⟨A2, c2, rfl⟩ := own_slice ho2
        clear ho2 hb2 hg2 hB2 hc1
        go_wp2
        obtain ⟨ho2, hb2, hg2⟩ := HO2.out
        obtain ⟨hge1, hBk1, hn1, hr1, hKB, _⟩ := HX.out
        have hP2 := PenIs.laid hge1 hBk1 hn1 ho2 hg2
        go_roundw
        case rel => exact ⟨k + 1, by go_num, by omega, by rw [HST2.out]; simpa using hP2, hKB.step hb2 hBk1 hr1 hg2 hge1⟩
        case measure => simp [intOf]; omega
    · obtain rfl : k = l.length := by omega
      rw [List.take_length] at hP
      go_wp2
      (try simp only [Exit.inBlock, Exit.then]); refine bodyPost_end (results_none rfl _ _ _) rfl ?_
      exact ⟨rfl, hP, hB⟩
end
theorem own_lit0 (W : World) {b : Nat} (hb : b ≤ W.heap.size) : RowB (W.alloc (.cells #[] 5)) b (.slice (some ⟨W.heap.size, 0, none⟩) 0 0) [] :=
  ⟨rfl, .inr ⟨W.heap.size, 0, #[], rfl, hb, heap_alloc_new W _, Nat.le_refl _, Nat.zero_le _, rfl, rfl⟩⟩
set_option maxHeartbeats 1000000 in
theorem bclone_any (A : Option Addr) (c : Nat) (xs : List Int) (w : World) (hr : ReadsInt w .u8 A xs.length xs) (hb : xs.length * 1 ≤ 140737488355328) :
    Calls Tryz.prog 92 #[.slice A xs.length c] w fun e w' => ∃ v, e = .returned v ∧ RowB w' w.heap.size v xs ∧ Below w.heap.size w w' := by
  have q22 : ∀ (w : World) (a : Option Addr) (n c n' c' : Nat), (binOp .eql 23 (.slice a n c) (.slice none n' c')).run Tryz.prog w = .ok (.bool a.isNone) w := fun w a n c n' c' => Lib.run_eql_slice_nil w _ _ a n c n' c' Tryz.underlying23
  rcases A with _ | ad
  · have h0 : xs = [] := by
      rcases xs with _ | ⟨x, xs⟩
      · rfl
      · obtain ⟨_, h, _⟩ := hr.2.2 (by simp)
        cases h
    subst h0
    go_enter Tryz.func92, Tryz.ntmps92
    go_wp2
    go_ret
    exact ⟨_, rfl, ⟨rfl, .inl ⟨rfl, rfl⟩⟩, Below.refl _ _⟩
  · have HR := Lib.hid hr; have HB := Lib.hid hb
    clear hr hb
    go_enter Tryz.func92, Tryz.ntmps92
    go_wp2_with (first | ((with_reducible refine gate_builtin (b := .append) (xs := #[.tmp 5, .tmp 6]) rfl ?_); at_builtin; refine stop_append rfl ?_))
    refine Lib.hid ?_;refine print_append_row (w0 := w) w.heap.size rfl (.tmp 5) (.tmp 6) 23 5 .u8 1 rfl Tryz.underlying23 infoB (by decide) (.slice (some ⟨w.heap.size, 0, none⟩) 0 0) [] xs (some ad) xs.length c rfl rfl (own_lit0 w (Nat.le_refl _)) (HR.out.below ((Below.refl _ _).alloc (Nat.le_refl _) _)) ((Below.refl _ _).alloc (Nat.le_refl _) _) (by simp) (by simpa using HB.out) ?_;intro v1 w1 ho hbl _ _
    simp only [List.nil_append] at ho
    have HO := Lib.hid (And.intro ho hbl)
    obtain ⟨A1, c1, rfl⟩ := own_slice ho
    clear ho hbl
    go_wp2
    go_ret
    exact ⟨_, rfl, HO.out.1, HO.out.2⟩
section
variable {base g : Nat} {xs : List Int}
theorem pnBytes_any (w : World) (h : PenIs w base g xs) (hl : xs.length ≤ 140000000000000) : Calls Tryz.prog 62 #[ptr g] w fun e w' => ∃ v, e = .returned v ∧ RowB w' w.heap.size v xs ∧ Below w.heap.size w w' := by
  obtain ⟨v, hB, hr, hn⟩ := h.ex
  obtain ⟨A, c, rfl, hrd⟩ := own_reads hr
  have hc0 : w.cell? ⟨g, 0, none⟩ = some (.slice A xs.length c) := hB.cell 0
  have hcl := bclone_any A c xs w hrd (by omega)
  have HCL := Lib.hid hcl
  clear h hB hr hn hrd hcl
  go_enter Tryz.func62, Tryz.ntmps62
  go_wp2_with fail
  refine HCL.out.mono ?_
  rintro e w1 ⟨v1, rfl, ho, hb⟩
  have HO := Lib.hid (And.intro ho hb)
  obtain ⟨A1, c1, rfl⟩ := own_slice ho
  clear ho hb
  go_wp2
  go_ret
  exact ⟨_, rfl, HO.out.1, HO.out.2⟩
end
end Go.Proofs.YtgmlenpcchhmbaaGreat.P
end
section
set_option linter.unusedVariables false
set_option linter.unusedSimpArgs false
namespace Go.Proofs.YtgmlenpcchhmbaaGreat.P
open Go.RowKit Go.Proofs.YtgmlenpcchhmbaaGreatW.PrintWords Go.Proofs.YtgmlenpcchhmbaaGreatW.PrintLast Go.Proofs.YtgmlenpcchhmbaaGreatW.PrintMore
theorem zeroCells_one (z : Value) (n : Nat) (a b : Value) (hz : z.cells = #[a, b]) (ha : a.oneCell' = true) (hb : b.oneCell' = true) : (Builtin.zeroCells z.cells n).toList.length = n * 2 ∧ ∀ v ∈ (Builtin.zeroCells z.cells n).toList, v.oneCell' = true := by
  rw [hz]
  constructor
  · simp [Builtin.zeroCells]
  · intro v hv
    unfold Builtin.zeroCells at hv
    rw [Array.mem_toList_iff, Array.mem_map] at hv
    obtain ⟨i, _, rfl⟩ := hv
    have : i % (#[a, b] : Array Value).size = 0 ∨ i % (#[a, b] : Array Value).size = 1 := Nat.mod_two_eq_zero_or_one i
    rcases this with h | h
    · rw [h]; exact ha
    · rw [h]; exact hb
theorem run_clear2 {P : Program} (w : World) (t e ty : TypeId) (z a' b' : Value) (ht : P.underlying t = some (.slice e)) (hv : ∀ w, (zeroValue e).run P w = .ok z w) (hz : z.cells = #[a', b']) (ha : a'.oneCell' = true) (hb : b'.oneCell' = true) (b o n c : Nat) (hn : 0 < n)
    (hc : ∀ j, j < n * 2 → (w.cell? ⟨b, o + j, none⟩).isSome = true) (hf : ∀ j, j < n * 2 → w.frozen? ⟨b, o + j, none⟩ = false) :
    (Builtin.clear_ #[t] ty #[.slice (some ⟨b, o, none⟩) n c]).run P w = .ok (.tuple #[]) (w.setCells b o (Builtin.zeroCells z.cells n).toList) := by
  obtain ⟨hl, h1⟩ := zeroCells_one z n a' b' hz ha hb
  have hst := run_storeCells_cells (P := P) b o (Builtin.zeroCells z.cells n).toList 0 w (by rw [hl]; simpa using hc) (by rw [hl]; simpa using hf) h1
  simp only [Nat.add_zero] at hst
  obtain ⟨m, rfl⟩ : ∃ m, n = m + 1 := ⟨n - 1, by omega⟩
  simp [Builtin.clear_, run_underlying ht, hv, hst]
def enc2 (ps : List (Value × Value)) : List Value := ps.flatMap fun p => [p.1, p.2]
theorem enc2_cons (p : Value × Value) (ps : List (Value × Value)) : enc2 (p :: ps) = p.1 :: p.2 :: enc2 ps := rfl
theorem enc2_len : ∀ ps : List (Value × Value), (enc2 ps).length = ps.length * 2
  | [] => rfl
  | p :: ps => by rw [enc2_cons, List.length_cons, List.length_cons, enc2_len ps, List.length_cons]; omega
theorem enc2_at : ∀ (ps : List (Value × Value)) (j : Nat), (enc2 ps)[j * 2]? = ps[j]?.map (·.1) ∧ (enc2 ps)[j * 2 + 1]? = ps[j]?.map (·.2)
  | [], j => by simp [enc2]
  | p :: ps, 0 => by simp [enc2_cons]
  | p :: ps, j + 1 => by
    have h := enc2_at ps j
    rw [enc2_cons, show (j + 1) * 2 = j * 2 + 1 + 1 by omega]
    simpa using h
theorem enc2_take : ∀ (ps : List (Value × Value)) (j : Nat), (enc2 ps).take (j * 2) = enc2 (ps.take j)
  | [], j => by simp [enc2]
  | p :: ps, 0 => by simp [enc2]
  | p :: ps, j + 1 => by
    rw [enc2_cons, show (j + 1) * 2 = j * 2 + 1 + 1 by omega, List.take_succ_cons, List.take_succ_cons, enc2_take ps j]
    rfl
theorem enc2_set : ∀ (ps : List (Value × Value)) (j : Nat) (a b : Value), ((enc2 ps).set (j * 2) a).set (j * 2 + 1) b = enc2 (ps.set j (a, b))
  | [], j, a, b => by simp [enc2]
  | p :: ps, 0, a, b => by simp [enc2_cons]
  | p :: ps, j + 1, a, b => by
    have h := enc2_set ps j a b
    rw [enc2_cons, show (j + 1) * 2 = j * 2 + 1 + 1 by omega, List.set_cons_succ, List.set_cons_succ, List.set_cons_succ, List.set_cons_succ, h]
    rfl
abbrev pPr (s : S61) : Value × Value := (.string s.f0, .int .u64 s.f1)
def RowPr (w : World) (base : Nat) (v : Value) (xs : List (S61)) : Prop := w.ownsRow base 61 2 v xs.length (enc2 (xs.map pPr))
theorem RowPr.at_ {w : World} {base g n cap : Nat} {xs : List (S61)} (h : RowPr w base (.slice (some ⟨g, 0, none⟩) n cap) xs) (i : Nat) (s : S61) (hx : xs[i]? = some s) :
    w.cell? ⟨g, i * 2, none⟩ = some (.string s.f0) ∧ w.cell? ⟨g, i * 2 + 1, none⟩ = some (.int .u64 s.f1) ∧ w.frozen? ⟨g, i * 2, none⟩ = false ∧ w.frozen? ⟨g, i * 2 + 1, none⟩ = false := by
  obtain rfl : n = xs.length := by
    obtain ⟨_, _, e⟩ := own_slice h
    injection e
  have hl := (List.getElem?_eq_some_iff.1 hx).1
  have hE := enc2_at (xs.map pPr) i
  rw [List.getElem?_map, hx] at hE
  exact ⟨(World.ownsRow.cellAt h (i * 2) (by omega)).trans hE.1, (World.ownsRow.cellAt h (i * 2 + 1) (by omega)).trans hE.2, World.ownsRow.frozenAt h _, World.ownsRow.frozenAt h _⟩
theorem RowPr.store {w : World} {base g n cap : Nat} {xs : List (S61)} (h : RowPr w base (.slice (some ⟨g, 0, none⟩) n cap) xs) (i : Nat) (s : S61) :
    RowPr ((w.setCell ⟨g, i * 2, none⟩ (.string s.f0)).setCell ⟨g, i * 2 + 1, none⟩ (.int .u64 s.f1)) base (.slice (some ⟨g, 0, none⟩) n cap) (xs.set i s) := by
  obtain rfl : n = xs.length := by
    obtain ⟨_, _, e⟩ := own_slice h
    injection e
  have h1 := (World.ownsRow.stored h (i * 2) (.string s.f0)).1
  have h2 := (World.ownsRow.stored h1 (i * 2 + 1) (.int .u64 s.f1)).1
  rw [enc2_set] at h2
  unfold RowPr
  rw [List.length_set, List.map_set]
  exact h2
theorem reps_Pr {w : World} {b : Nat} {ok : Nat → Prop} : ∀ {xs : List S61} {cs : List Value}, Reps (k61.M w b ok) 2 xs cs → cs = enc2 (xs.map pPr)
  | [], cs, h => List.eq_nil_of_length_eq_zero (by simpa using h.1)
  | x :: xs, cs, h => by
    have h0 := k61_openM (h.2 0 x rfl)
    have hr : Reps (k61.M w b ok) 2 xs (cs.drop 2) := ⟨by rw [List.length_drop, h.1, List.length_cons]; omega, fun j p hj => by
      have := h.2 (j + 1) p hj
      rwa [List.drop_drop, show 2 + j * 2 = (j + 1) * 2 by omega]⟩
    have ih := reps_Pr hr
    rw [List.map_cons, enc2_cons, ← ih]
    rw [show 0 * 2 = 0 from rfl, List.drop_zero] at h0
    conv => lhs; rw [← List.take_append_drop 2 cs, h0]
    rfl
theorem Pr_reps (w : World) (b : Nat) (ok : Nat → Prop) : ∀ xs : List S61, Reps (k61.M w b ok) 2 xs (enc2 (xs.map pPr))
  | [] => ⟨rfl, fun j p h => by simp at h⟩
  | x :: xs => by
    have ih := Pr_reps w b ok xs
    refine ⟨by rw [enc2_len, List.length_map], fun j p hj => ?_⟩
    rcases j with _ | j
    · obtain rfl : x = p := by simpa using hj
      exact k61_mkM w b ok x
    · have := ih.2 j p (by simpa using hj)
      rw [List.map_cons, enc2_cons, show (j + 1) * 2 = j * 2 + 1 + 1 by omega, List.drop_succ_cons, List.drop_succ_cons]
      exact this
theorem RowPr.of_R {w : World} {b : Nat} {ok : Nat → Prop} {v : Value} {xs : List S61} (h : Kd.R k61 61 w b ok v xs) : RowPr w b v xs := by
  obtain ⟨_, inner, ho, hr⟩ := h
  have : inner = enc2 (xs.map pPr) := reps_Pr hr
  subst this
  exact ho
theorem RowPr.R {w : World} {b : Nat} {v : Value} {xs : List S61} (h : RowPr w b v xs) : Kd.R k61 61 w b (fun _ => True) v xs :=
  ⟨fun _ _ => trivial, _, h, Pr_reps w b _ xs⟩
theorem RowPr.lower {w : World} {b b' : Nat} {v : Value} {xs : List S61} (h : RowPr w b v xs) (hb : b' ≤ b) : RowPr w b' v xs :=
  ⟨h.1, h.2.imp id fun ⟨g, cap, cur, h1, h2, h3⟩ => ⟨g, cap, cur, h1, Nat.le_trans hb h2, h3⟩⟩
theorem own_lit0Pr (W : World) {b : Nat} (hb : b ≤ W.heap.size) : (W.alloc (.cells #[] 61)).ownsRow b 61 2 (.slice (some ⟨W.heap.size, 0, none⟩) 0 0) 0 [] :=
  ⟨rfl, .inr ⟨W.heap.size, 0, #[], rfl, hb, heap_alloc_new W _, Nat.le_refl _, Nat.zero_le _, rfl, rfl⟩⟩
set_option maxHeartbeats 1000000 in
theorem clonePr_any (A : Option Addr) (c : Nat) (xs : List S61) (w : World) (hr : Kd.C k61 w A xs.length xs) (hb : xs.length * 24 ≤ 140737488355328) :
    Calls Tryz.prog 75 #[.slice A xs.length c] w fun e w' => ∃ v, e = .returned v ∧ RowPr w' w.heap.size v xs ∧ Below w.heap.size w w' := by
  have q22 : ∀ (w : World) (a : Option Addr) (n c n' c' : Nat), (binOp .eql 39 (.slice a n c) (.slice none n' c')).run Tryz.prog w = .ok (.bool a.isNone) w := fun w a n c n' c' => Lib.run_eql_slice_nil w _ _ a n c n' c' Tryz.underlying39
  rcases A with _ | ad
  · have h0 : xs = [] := by
      rcases xs with _ | ⟨x, xs⟩
      · rfl
      · obtain ⟨_, h, _⟩ := hr.2.2 (by simp)
        cases h
    subst h0
    go_enter Tryz.func75, Tryz.ntmps75
    go_wp2
    go_ret
    exact ⟨_, rfl, own_nil _ _ _ _, Below.refl _ _⟩
  · have HR := Lib.hid hr; have HB := Lib.hid hb
    clear hr hb
    go_enter Tryz.func75, Tryz.ntmps75
    go_wp2_with (first | ((with_reducible refine gate_builtin (b := .append) (xs := #[.tmp 5, .tmp 6]) rfl ?_); at_builtin; refine stop_append rfl ?_))
    refine Lib.hid ?_;refine Kd.R_append_rows k61 (w0 := w) (Rr := k61.K w) w.heap.size (by rfl) (.tmp 5) (.tmp 6) 39 61 (.agg #[.string ⟨#[]⟩, .int .u64 0]) 24 (by rfl) Tryz.underlying39 info61 rfl (by decide) (by decide) (.slice (some ⟨w.heap.size, 0, none⟩) 0 0) [] xs (some ad) xs.length c (fun _ => True) (fun _ => False) (by rfl) (by rfl) ⟨fun _ _ => trivial, [], own_lit0Pr w (Nat.le_refl _), Reps.none _ _⟩ (HR.out.imp_ ((Below.refl _ _).alloc (Nat.le_refl _) _) (fun _ _ h => h)) ?_ (fun _ h => h.elim) (fun _ _ => trivial) ((Below.refl _ _).alloc (Nat.le_refl _) _) (by simp) (by simpa using HB.out) ?_
    · intro x cs hK;obtain rfl := k61_open hK
      exact k61_mkM _ _ _ x
    intro v1 w1 ho hbl _ _
    simp only [List.nil_append] at ho
    have HO := Lib.hid (And.intro (RowPr.of_R ho) hbl)
    obtain ⟨A1, c1, rfl⟩ := own_slice HO.out.1
    clear ho hbl
    go_wp2
    go_ret
    exact ⟨_, rfl, HO.out.1, HO.out.2⟩
abbrev pSp (s : S71) : Value × Value := (.string s.f0, .string s.f1)
def RowSp (w : World) (base : Nat) (v : Value) (xs : List (S71)) : Prop := w.ownsRow base 71 2 v xs.length (enc2 (xs.map pSp))
theorem RowSp.at_ {w : World} {base g n cap : Nat} {xs : List (S71)} (h : RowSp w base (.slice (some ⟨g, 0, none⟩) n cap) xs) (i : Nat) (s : S71) (hx : xs[i]? = some s) :
    w.cell? ⟨g, i * 2, none⟩ = some (.string s.f0) ∧ w.cell? ⟨g, i * 2 + 1, none⟩ = some (.string s.f1) ∧ w.frozen? ⟨g, i * 2, none⟩ = false ∧ w.frozen? ⟨g, i * 2 + 1, none⟩ = false := by
  obtain rfl : n = xs.length := by
    obtain ⟨_, _, e⟩ := own_slice h
    injection e
  have hl := (List.getElem?_eq_some_iff.1 hx).1
  have hE := enc2_at (xs.map pSp) i
  rw [List.getElem?_map, hx] at hE
  exact ⟨(World.ownsRow.cellAt h (i * 2) (by omega)).trans hE.1, (World.ownsRow.cellAt h (i * 2 + 1) (by omega)).trans hE.2, World.ownsRow.frozenAt h _, World.ownsRow.frozenAt h _⟩
theorem RowSp.store {w : World} {base g n cap : Nat} {xs : List (S71)} (h : RowSp w base (.slice (some ⟨g, 0, none⟩) n cap) xs) (i : Nat) (s : S71) :
    RowSp ((w.setCell ⟨g, i * 2, none⟩ (.string s.f0)).setCell ⟨g, i * 2 + 1, none⟩ (.string s.f1)) base (.slice (some ⟨g, 0, none⟩) n cap) (xs.set i s) := by
  obtain rfl : n = xs.length := by
    obtain ⟨_, _, e⟩ := own_slice h
    injection e
  have h1 := (World.ownsRow.stored h (i * 2) (.string s.f0)).1
  have h2 := (World.ownsRow.stored h1 (i * 2 + 1) (.string s.f1)).1
  rw [enc2_set] at h2
  unfold RowSp
  rw [List.length_set, List.map_set]
  exact h2
theorem reps_Sp {w : World} {b : Nat} {ok : Nat → Prop} : ∀ {xs : List S71} {cs : List Value}, Reps (k71.M w b ok) 2 xs cs → cs = enc2 (xs.map pSp)
  | [], cs, h => List.eq_nil_of_length_eq_zero (by simpa using h.1)
  | x :: xs, cs, h => by
    have h0 := k71_openM (h.2 0 x rfl)
    have hr : Reps (k71.M w b ok) 2 xs (cs.drop 2) := ⟨by rw [List.length_drop, h.1, List.length_cons]; omega, fun j p hj => by
      have := h.2 (j + 1) p hj
      rwa [List.drop_drop, show 2 + j * 2 = (j + 1) * 2 by omega]⟩
    have ih := reps_Sp hr
    rw [List.map_cons, enc2_cons, ← ih]
    rw [show 0 * 2 = 0 from rfl, List.drop_zero] at h0
    conv => lhs; rw [← List.take_append_drop 2 cs, h0]
    rfl
theorem Sp_reps (w : World) (b : Nat) (ok : Nat → Prop) : ∀ xs : List S71, Reps (k71.M w b ok) 2 xs (enc2 (xs.map pSp))
  | [] => ⟨rfl, fun j p h => by simp at h⟩
  | x :: xs => by
    have ih := Sp_reps w b ok xs
    refine ⟨by rw [enc2_len, List.length_map], fun j p hj => ?_⟩
    rcases j with _ | j
    · obtain rfl : x = p := by simpa using hj
      exact k71_mkM w b ok x
    · have := ih.2 j p (by simpa using hj)
      rw [List.map_cons, enc2_cons, show (j + 1) * 2 = j * 2 + 1 + 1 by omega, List.drop_succ_cons, List.drop_succ_cons]
      exact this
theorem RowSp.of_R {w : World} {b : Nat} {ok : Nat → Prop} {v : Value} {xs : List S71} (h : Kd.R k71 71 w b ok v xs) : RowSp w b v xs := by
  obtain ⟨_, inner, ho, hr⟩ := h
  have : inner = enc2 (xs.map pSp) := reps_Sp hr
  subst this
  exact ho
theorem RowSp.R {w : World} {b : Nat} {v : Value} {xs : List S71} (h : RowSp w b v xs) : Kd.R k71 71 w b (fun _ => True) v xs :=
  ⟨fun _ _ => trivial, _, h, Sp_reps w b _ xs⟩
theorem RowSp.lower {w : World} {b b' : Nat} {v : Value} {xs : List S71} (h : RowSp w b v xs) (hb : b' ≤ b) : RowSp w b' v xs :=
  ⟨h.1, h.2.imp id fun ⟨g, cap, cur, h1, h2, h3⟩ => ⟨g, cap, cur, h1, Nat.le_trans hb h2, h3⟩⟩
theorem own_lit0Sp (W : World) {b : Nat} (hb : b ≤ W.heap.size) : (W.alloc (.cells #[] 71)).ownsRow b 71 2 (.slice (some ⟨W.heap.size, 0, none⟩) 0 0) 0 [] :=
  ⟨rfl, .inr ⟨W.heap.size, 0, #[], rfl, hb, heap_alloc_new W _, Nat.le_refl _, Nat.zero_le _, rfl, rfl⟩⟩
set_option maxHeartbeats 1000000 in
theorem cloneSp_any (A : Option Addr) (c : Nat) (xs : List S71) (w : World) (hr : Kd.C k71 w A xs.length xs) (hb : xs.length * 32 ≤ 140737488355328) :
    Calls Tryz.prog 132 #[.slice A xs.length c] w fun e w' => ∃ v, e = .returned v ∧ RowSp w' w.heap.size v xs ∧ Below w.heap.size w w' := by
  have q22 : ∀ (w : World) (a : Option Addr) (n c n' c' : Nat), (binOp .eql 40 (.slice a n c) (.slice none n' c')).run Tryz.prog w = .ok (.bool a.isNone) w := fun w a n c n' c' => Lib.run_eql_slice_nil w _ _ a n c n' c' Tryz.underlying40
  rcases A with _ | ad
  · have h0 : xs = [] := by
      rcases xs with _ | ⟨x, xs⟩
      · rfl
      · obtain ⟨_, h, _⟩ := hr.2.2 (by simp)
        cases h
    subst h0
    go_enter Tryz.func132, Tryz.ntmps132
    go_wp2
    go_ret
    exact ⟨_, rfl, own_nil _ _ _ _, Below.refl _ _⟩
  · have HR := Lib.hid hr; have HB := Lib.hid hb
    clear hr hb
    go_enter Tryz.func132, Tryz.ntmps132
    go_wp2_with (first | ((with_reducible refine gate_builtin (b := .append) (xs := #[.tmp 5, .tmp 6]) rfl ?_); at_builtin; refine stop_append rfl ?_))
    refine Lib.hid ?_;refine Kd.R_append_rows k71 (w0 := w) (Rr := k71.K w) w.heap.size (by rfl) (.tmp 5) (.tmp 6) 40 71 (.agg #[.string ⟨#[]⟩, .string ⟨#[]⟩]) 32 (by rfl) Tryz.underlying40 info71 rfl (by decide) (by decide) (.slice (some ⟨w.heap.size, 0, none⟩) 0 0) [] xs (some ad) xs.length c (fun _ => True) (fun _ => False) (by rfl) (by rfl) ⟨fun _ _ => trivial, [], own_lit0Sp w (Nat.le_refl _), Reps.none _ _⟩ (HR.out.imp_ ((Below.refl _ _).alloc (Nat.le_refl _) _) (fun _ _ h => h)) ?_ (fun _ h => h.elim) (fun _ _ => trivial) ((Below.refl _ _).alloc (Nat.le_refl _) _) (by simp) (by simpa using HB.out) ?_
    · intro x cs hK;obtain rfl := k71_open hK
      exact k71_mkM _ _ _ x
    intro v1 w1 ho hbl _ _
    simp only [List.nil_append] at ho
    have HO := Lib.hid (And.intro (RowSp.of_R ho) hbl)
    obtain ⟨A1, c1, rfl⟩ := own_slice HO.out.1
    clear ho hbl
    go_wp2
    go_ret
    exact ⟨_, rfl, HO.out.1, HO.out.2⟩
end Go.Proofs.YtgmlenpcchhmbaaGreat.P
end
section
set_option linter.unusedVariables false
set_option linter.unusedSimpArgs false
namespace Go.Proofs.YtgmlenpcchhmbaaGreat.P
def klt (a b : ByteArray) : Bool := Op.bytesLess a.data.toList b.data.toList
theorem ba_ext {a b : ByteArray} (h : a.data.toList = b.data.toList) : a = b := by
  cases a; cases b
  simp only at h
  rw [Array.toList_inj.1 h]
theorem klt_irrefl (a : ByteArray) : klt a a = false := bl_irrefl _
theorem klt_asymm {a b : ByteArray} (h : klt a b = true) : klt b a = false := bl_asymm h
theorem klt_trans {a b c : ByteArray} (h : klt a b = true) (g : klt b c = true) : klt a c = true := bl_trans h g
theorem klt_ne {a b : ByteArray} (h : klt a b = true) : a ≠ b := fun e => by rw [e, klt_irrefl] at h; cases h
theorem klt_eq {a b : ByteArray} (h : klt a b = false) (g : klt b a = false) : a = b := ba_ext (bl_eq h g)
theorem klt_tri (a b : ByteArray) : klt a b = true ∨ a = b ∨ klt b a = true := by
  cases h : klt a b with
  | true => exact .inl rfl
  | false => cases g : klt b a with
    | true => exact .inr (.inr rfl)
    | false => exact .inr (.inl (klt_eq h g))
section
variable {V : Type}
def SortK (l : List (ByteArray × V)) : Prop := l.Pairwise fun x y => klt x.1 y.1 = true
def getL (l : List (ByteArray × V)) (k : ByteArray) : Option V := (l.find? fun x => decide (x.1 = k)).map (·.2)
def putL : List (ByteArray × V) → ByteArray → V → List (ByteArray × V)
  | [], k, v => [(k, v)]
  | x :: r, k, v => if klt x.1 k then x :: putL r k v else if x.1 = k then (k, v) :: r else (k, v) :: x :: r
def delL (l : List (ByteArray × V)) (k : ByteArray) : List (ByteArray × V) := l.filter fun x => decide (x.1 ≠ k)
theorem getL_nil (k : ByteArray) : getL ([] : List (ByteArray × V)) k = none := rfl
theorem getL_cons (x : ByteArray × V) (l : List (ByteArray × V)) (k : ByteArray) : getL (x :: l) k = if x.1 = k then some x.2 else getL l k := by
  unfold getL
  rw [List.find?_cons]
  by_cases h : x.1 = k
  · simp [h]
  · simp [h]
theorem getL_put (l : List (ByteArray × V)) (k : ByteArray) (v : V) (x : ByteArray) : getL (putL l k v) x = if x = k then some v else getL l x := by
  induction l with
  | nil =>
    rw [putL, getL_cons]
    by_cases h : x = k
    · rw [if_pos h, if_pos h.symm]
    · rw [if_neg h, if_neg (Ne.symm h)]
  | cons y r ih =>
    rw [putL]
    by_cases h1 : klt y.1 k = true
    · rw [if_pos h1, getL_cons, ih, getL_cons]
      have := klt_ne h1
      by_cases h2 : x = k
      · rw [h2, if_pos rfl, if_neg this, if_pos rfl]
      · rw [if_neg h2, if_neg h2]
    · rw [if_neg h1]
      by_cases h3 : y.1 = k
      · rw [if_pos h3, getL_cons, getL_cons, h3]
        by_cases h2 : x = k
        · rw [if_pos h2, if_pos h2.symm]
        · rw [if_neg h2, if_neg (Ne.symm h2), if_neg (Ne.symm h2)]
      · rw [if_neg h3, getL_cons]
        by_cases h2 : x = k
        · rw [if_pos h2, if_pos h2.symm]
        · rw [if_neg h2, if_neg (Ne.symm h2)]
theorem getL_del (l : List (ByteArray × V)) (k : ByteArray) (x : ByteArray) : getL (delL l k) x = if x = k then none else getL l x := by
  induction l with
  | nil => simp [delL, getL_nil]
  | cons y r ih =>
    unfold delL at ih ⊢
    rw [List.filter_cons]
    by_cases h1 : y.1 = k
    · rw [if_neg (by simp [h1]), ih, getL_cons]
      by_cases h2 : x = k
      · rw [if_pos h2, if_pos h2]
      · rw [if_neg h2, if_neg h2, if_neg (by rw [h1]; exact Ne.symm h2)]
    · rw [if_pos (by simp [h1]), getL_cons, ih, getL_cons]
      by_cases h2 : x = k
      · rw [if_pos h2, if_pos h2, if_neg (by rw [h2]; exact h1)]
      · rw [if_neg h2, if_neg h2]
theorem SortK.tail {x : ByteArray × V} {l : List (ByteArray × V)} (h : SortK (x :: l)) : SortK l := (List.pairwise_cons.1 h).2
theorem SortK.head {x : ByteArray × V} {l : List (ByteArray × V)} (h : SortK (x :: l)) : ∀ y ∈ l, klt x.1 y.1 = true := (List.pairwise_cons.1 h).1
theorem SortK.nil : SortK ([] : List (ByteArray × V)) := List.Pairwise.nil
theorem mem_putL {l : List (ByteArray × V)} {k : ByteArray} {v : V} {y : ByteArray × V} (h : y ∈ putL l k v) : y = (k, v) ∨ y ∈ l := by
  induction l with
  | nil => rw [putL] at h; exact .inl (List.mem_singleton.1 h)
  | cons x r ih =>
    rw [putL] at h
    split at h
    · rcases List.mem_cons.1 h with h | h
      · exact .inr (h ▸ List.mem_cons_self ..)
      · exact (ih h).imp id (List.mem_cons_of_mem _)
    · split at h
      · rcases List.mem_cons.1 h with h | h
        · exact .inl h
        · exact .inr (List.mem_cons_of_mem _ h)
      · rcases List.mem_cons.1 h with h | h
        · exact .inl h
        · exact .inr h
theorem SortK.put {l : List (ByteArray × V)} (h : SortK l) (k : ByteArray) (v : V) : SortK (putL l k v) := by
  induction l with
  | nil => rw [putL]; exact List.pairwise_singleton _ _
  | cons x r ih =>
    rw [putL]
    split
    · rename_i h1
      refine List.pairwise_cons.2 ⟨fun y hy => ?_, ih h.tail⟩
      rcases mem_putL hy with rfl | hy
      · exact h1
      · exact h.head y hy
    · rename_i h1
      split
      · rename_i h2
        exact List.pairwise_cons.2 ⟨fun y hy => by rw [← h2]; exact h.head y hy, h.tail⟩
      · rename_i h2
        have h3 : klt k x.1 = true := by
          rcases klt_tri x.1 k with g | g | g
          · exact absurd g h1
          · exact absurd g h2
          · exact g
        refine List.pairwise_cons.2 ⟨fun y hy => ?_, h⟩
        rcases List.mem_cons.1 hy with rfl | hy
        · exact h3
        · exact klt_trans h3 (h.head y hy)
theorem SortK.del {l : List (ByteArray × V)} (h : SortK l) (k : ByteArray) : SortK (delL l k) := h.filter _
theorem getL_none {l : List (ByteArray × V)} {k : ByteArray} : getL l k = none ↔ ∀ y ∈ l, y.1 ≠ k := by
  unfold getL
  simp
theorem getL_some {l : List (ByteArray × V)} (h : SortK l) {k : ByteArray} {v : V} : getL l k = some v ↔ (k, v) ∈ l := by
  induction l with
  | nil => simp [getL_nil]
  | cons x r ih =>
    rw [getL_cons]
    by_cases e : x.1 = k
    · rw [if_pos e]
      constructor
      · intro h1; injection h1 with h1; subst h1; subst e; exact List.mem_cons_self ..
      · intro h1
        rcases List.mem_cons.1 h1 with h2 | h2
        · rw [← h2]
        · exact absurd e (klt_ne (h.head _ h2))
    · rw [if_neg e, ih h.tail]
      constructor
      · exact List.mem_cons_of_mem _
      · intro h1
        rcases List.mem_cons.1 h1 with h2 | h2
        · exact absurd (by rw [← h2]) e
        · exact h2
theorem putL_len {l : List (ByteArray × V)} (h : SortK l) (k : ByteArray) (v : V) : (putL l k v).length = if (getL l k).isSome then l.length else l.length + 1 := by
  induction l with
  | nil => rfl
  | cons x r ih =>
    rw [putL, getL_cons]
    by_cases h1 : klt x.1 k = true
    · rw [if_pos h1, if_neg (klt_ne h1), List.length_cons, ih h.tail, List.length_cons]
      split <;> rfl
    · rw [if_neg h1]
      by_cases h2 : x.1 = k
      · rw [if_pos h2, if_pos h2]; rfl
      · rw [if_neg h2, if_neg h2]
        have : getL r k = none := getL_none.2 fun y hy e => by
          have := h.head y hy
          rw [e] at this
          exact h1 this
        rw [this]; rfl
theorem delL_len {l : List (ByteArray × V)} (h : SortK l) (k : ByteArray) : (delL l k).length = if (getL l k).isSome then l.length - 1 else l.length := by
  induction l with
  | nil => rfl
  | cons x r ih =>
    unfold delL at ih ⊢
    rw [List.filter_cons, getL_cons]
    by_cases h2 : x.1 = k
    · rw [if_neg (by simp [h2]), if_pos h2]
      have : r.filter (fun y => decide (y.1 ≠ k)) = r := List.filter_eq_self.2 fun y hy => by
        have := klt_ne (h.head y hy)
        rw [h2] at this
        simpa using this.symm
      rw [this]; rfl
    · rw [if_pos (by simp [h2]), if_neg h2, List.length_cons, ih h.tail]
      cases hg : getL r k with
      | none => rfl
      | some v =>
        have : r ≠ [] := by rintro rfl; cases hg
        have := List.length_pos_iff.2 this
        simp; omega
theorem sort_ext {l m : List (ByteArray × V)} (h : SortK l) (g : SortK m) (he : ∀ k, getL l k = getL m k) : l = m := by
  induction l generalizing m with
  | nil =>
    cases m with
    | nil => rfl
    | cons y m => have := he y.1; rw [getL_nil, getL_cons, if_pos rfl] at this; cases this
  | cons x l ih =>
    cases m with
    | nil => have := he x.1; rw [getL_nil, getL_cons, if_pos rfl] at this; cases this
    | cons y m =>
      have hxy : x.1 = y.1 := by
        rcases klt_tri x.1 y.1 with h1 | h1 | h1
        · have := he x.1
          rw [getL_cons, if_pos rfl] at this
          have h2 := (getL_some g).1 this.symm
          rcases List.mem_cons.1 h2 with h2 | h2
          · rw [← h2]
          · exact absurd (klt_asymm h1) (by have := g.head _ h2; simp only at this; rw [this]; simp)
        · exact h1
        · have := he y.1
          rw [getL_cons y, if_pos rfl] at this
          have h2 := (getL_some h).1 this
          rcases List.mem_cons.1 h2 with h2 | h2
          · rw [← h2]
          · exact absurd (klt_asymm h1) (by have := h.head _ h2; simp only at this; rw [this]; simp)
      have e2 : x = y := by
        have := he x.1
        rw [getL_cons, if_pos rfl, getL_cons, if_pos hxy.symm] at this
        injection this with this
        exact Prod.ext hxy this
      subst e2
      rw [ih h.tail g.tail fun k => ?_]
      have := he k
      rw [getL_cons, getL_cons] at this
      by_cases e : x.1 = k
      · have n1 : getL l k = none := getL_none.2 fun z hz hk => klt_ne (h.head z hz) (e.trans hk.symm)
        have n2 : getL m k = none := getL_none.2 fun z hz hk => klt_ne (g.head z hz) (e.trans hk.symm)
        rw [n1, n2]
      · rw [if_neg e, if_neg e] at this; exact this
end
end Go.Proofs.YtgmlenpcchhmbaaGreat.P
end
section
set_option linter.unusedVariables false
set_option linter.unusedSimpArgs false
namespace Go.Proofs.YtgmlenpcchhmbaaGreat.P
abbrev quietN : Int := 9221120237041090561
def nanN (n : Int) : Bool := (Ieee.double.read n.toNat).isNaN
def rightN (n : Int) : Int := if nanN n = true then quietN else n
def addR : Option Nat → Int
  | some r => rightN r
  | none => quietN
def addN (a b : Int) : Int := addR (Ieee.double.add (rightN a).toNat (rightN b).toNat)
def negN (a : Int) : Int := rightN (bits .xor .u64 a 9223372036854775808)
def geN (a b : Int) : Bool := Ieee.double.order (rightN a).toNat (rightN b).toNat == some .gt || Ieee.double.order (rightN a).toNat (rightN b).toNat == some .eq
def ofN (n : Int) : Int := rightN (floatOfInt .f64 n : Nat)
def numOk (n : Int) : Bool := decide (rightN n = n)
theorem compare_self (x : Int) : compare x x = .eq := by simp [compare, compareOfLessAndEq]
theorem order_self (x : Nat) : (Ieee.double.order x x == some .eq) = !(Ieee.double.read x).isNaN := by
  unfold Ieee.Format.order
  cases Ieee.double.read x with
  | number s m i => simp [Ieee.Datum.order, Ieee.Datum.isNaN, compare_self]
  | infinity s => cases s <;> rfl
  | nan s f => rfl
theorem order_ne (x : Nat) : (Ieee.double.order x x != some .eq) = (Ieee.double.read x).isNaN := by
  have := order_self x
  unfold bne
  rw [this]; simp
theorem nan_cut (x y t : Nat) : nanN ((Question.nanBits .f64 x y).cut t : Nat) = true := by
  unfold nanN Question.cut
  rw [Int.toNat_natCast]
  simp only
  have h2 := Nat.mod_lt (t / 2) (show 0 < 2 ^ 52 - 1 by decide)
  generalize (t / 2) % (2 ^ 52 - 1) = m at h2
  have h3 : t % 2 = 0 ∨ t % 2 = 1 := Nat.mod_two_eq_zero_or_one t
  have e1 : Ieee.double.signWeight = 9223372036854775808 := by decide
  have e2 : Ieee.double.binade = 4503599627370496 := by decide
  have e3 : Ieee.double.infRung = 9218868437227405312 := by decide
  have e4 : (2 : Nat) ^ 52 - 1 = 4503599627370495 := by decide
  have e5 : (2 : Nat) ^ 63 = 9223372036854775808 := by decide
  rw [e4] at h2
  have hr : ((t % 2) * 2 ^ 63 + 0x7ff0000000000000 + 1 + m) % Ieee.double.signWeight = 9218868437227405313 + m := by rw [e1, e5]; omega
  unfold Ieee.Format.read
  simp only [hr, e2, e3]
  rw [if_neg (by omega), if_neg (by omega), if_neg (by omega)]
  rfl
theorem right_cut (x y t : Nat) : rightN ((Question.nanBits .f64 x y).cut t : Nat) = quietN := by unfold rightN; rw [nan_cut]; rfl
end Go.Proofs.YtgmlenpcchhmbaaGreat.P
end
section
set_option linter.unusedVariables false
set_option linter.unusedSimpArgs false
namespace Go.Proofs.YtgmlenpcchhmbaaGreat.P
def toA (p : S61) : ByteArray × Int := (p.f0, p.f1)
def ofA (x : ByteArray × Int) : S61 := ⟨x.1, x.2⟩
structure St where
  d : List (ByteArray × Int)
  c : List (ByteArray × Bool)
def St.ok (s : St) : Prop := SortK s.d ∧ SortK s.c ∧ (∀ x ∈ s.c, x.2 = true)
def emptyB : ByteArray := ⟨#[]⟩
def hasS (s : S71) (k : ByteArray) : Bool := !klt k s.f0 && (decide (s.f1 = emptyB) || klt k s.f1)
def hasSs (l : List S71) (k : ByteArray) : Bool := l.any fun s => hasS s k
def pickT (l : List S71) (d : List S61) : List S61 := d.filter fun p => hasSs l p.f0
def St.put (s : St) (k : ByteArray) (n : Int) : St := ⟨putL s.d k n, putL s.c k true⟩
def St.drop (s : St) (k : ByteArray) : St := ⟨delL s.d k, putL s.c k true⟩
def St.at (s : St) (k : ByteArray) : Int := (getL s.d k).getD 0
def St.has (s : St) (k : ByteArray) : Bool := (getL s.d k).isSome
def stepA (o : S63) (s : St) : S65 :=
  if o.f0 = 1 then ⟨s.has o.f1, s.at o.f1, []⟩
  else if o.f0 = 2 then ⟨true, 0, pickT [⟨o.f1, o.f2⟩] (s.d.map ofA)⟩
  else if o.f0 = 3 then ⟨true, 0, []⟩
  else if o.f0 = 4 then ⟨s.has o.f1, addN (s.at o.f1) o.f3, []⟩
  else if o.f0 = 5 then ⟨s.has o.f1, 0, []⟩
  else if o.f0 = 6 then (if (geN (s.at o.f1) o.f3 && geN o.f3 0) = true then ⟨true, 0, []⟩ else ⟨false, 0, []⟩)
  else ⟨false, 0, []⟩
def stepS (o : S63) (s : St) : St :=
  if o.f0 = 3 then s.put o.f1 o.f3
  else if o.f0 = 4 then s.put o.f1 (addN (s.at o.f1) o.f3)
  else if o.f0 = 5 then s.drop o.f1
  else if o.f0 = 6 then (if (geN (s.at o.f1) o.f3 && geN o.f3 0) = true then (s.put o.f1 (addN (s.at o.f1) (negN o.f3))).put o.f2 (addN ((s.put o.f1 (addN (s.at o.f1) (negN o.f3))).at o.f2) o.f3) else s)
  else s
def runA : List S63 → St → List S65
  | [], _ => []
  | o :: l, s => stepA o s :: runA l (stepS o s)
def runS : List S63 → St → St
  | [], s => s
  | o :: l, s => runS l (stepS o s)
def writesT (s : St) : List S69 := s.c.map fun x => ⟨x.1, (getL s.d x.1).getD 0, (getL s.d x.1).isNone⟩
def mapT (data : List S61) : List (ByteArray × Int) := data.foldl (fun l p => putL l p.f0 p.f1) []
def startT (data : List S61) : St := ⟨mapT data, []⟩
theorem foldl_sort : ∀ (data : List S61) (l : List (ByteArray × Int)), SortK l → SortK (data.foldl (fun l p => putL l p.f0 p.f1) l)
  | [], _, h => h
  | p :: r, _, h => foldl_sort r _ (h.put _ _)
theorem mapT_sort (data : List S61) : SortK (mapT data) := foldl_sort data _ .nil
theorem St.ok_put {s : St} (h : s.ok) (k : ByteArray) (n : Int) : (s.put k n).ok := ⟨h.1.put _ _, h.2.1.put _ _, fun x hx => by
  rcases mem_putL hx with rfl | hx
  · rfl
  · exact h.2.2 x hx⟩
theorem St.ok_drop {s : St} (h : s.ok) (k : ByteArray) : (s.drop k).ok := ⟨h.1.del _, h.2.1.put _ _, fun x hx => by
  rcases mem_putL hx with rfl | hx
  · rfl
  · exact h.2.2 x hx⟩
theorem start_ok (data : List S61) : (startT data).ok := ⟨mapT_sort data, .nil, fun x hx => by cases hx⟩
theorem runA_snoc : ∀ (l : List S63) (o : S63) (s : St), runA (l ++ [o]) s = runA l s ++ [stepA o (runS l s)]
  | [], _, _ => rfl
  | p :: l, o, s => by show stepA p s :: runA (l ++ [o]) _ = _; rw [runA_snoc l o]; rfl
theorem runS_snoc : ∀ (l : List S63) (o : S63) (s : St), runS (l ++ [o]) s = stepS o (runS l s)
  | [], _, _ => rfl
  | p :: l, o, s => by show runS (l ++ [o]) _ = _; rw [runS_snoc l o]; rfl
theorem runA_len : ∀ (l : List S63) (s : St), (runA l s).length = l.length
  | [], _ => rfl
  | o :: l, s => by show (runA l _).length + 1 = _; rw [runA_len l]; rfl
end Go.Proofs.YtgmlenpcchhmbaaGreat.P
end
section
set_option linter.unusedVariables false
set_option linter.unusedSimpArgs false
namespace Go.Proofs.YtgmlenpcchhmbaaGreat.P
open Go.RowKit Go.Proofs.YtgmlenpcchhmbaaGreatW.PrintWords Go.Proofs.YtgmlenpcchhmbaaGreatW.PrintLast Go.Proofs.YtgmlenpcchhmbaaGreatW.PrintMore
theorem ffb_run (n : Int) (w : World) : (callFunc 119 #[.int .u64 n]).run Tryz.prog w = .ok (.value (.float .f64 n.toNat)) w := by kernel_rfl
theorem fb_run (n : Nat) (w : World) : (callFunc 85 #[.float .f64 n]).run Tryz.prog w = .ok (.value (.int .u64 (n : Int))) w := by kernel_rfl
theorem isNaN_any (n : Nat) (w : World) : Calls Tryz.prog 159 #[.float .f64 n] w fun e w' => e = .returned (.bool (Ieee.double.read n).isNaN) ∧ w' = w := by
  go_enter Tryz.func159, Tryz.ntmps159
  go_wp2
  go_ret
  exact ⟨by rw [← order_ne]; rfl, rfl⟩
set_option maxRecDepth 100000 in
theorem nRight_any (n : Int) (w : World) : Calls Tryz.prog 142 #[.int .u64 n] w fun e w' => e = .returned (.int .u64 (rightN n)) ∧ w' = w := by
  have hf := ffb_run n
  have hn := fun w => isNaN_any n.toNat w
  unfold rightN nanN
  cases hb : (Ieee.double.read n.toNat).isNaN with
  | true =>
    rw [hb] at hn
    clear hb
    go_enter Tryz.func142, Tryz.ntmps142
    go_wp2_with (go_at_call 159; refine (hn _).mono ?_; rintro e w' ⟨rfl, rfl⟩)
    go_ret
    exact ⟨rfl, rfl⟩
  | false =>
    rw [hb] at hn
    clear hb
    go_enter Tryz.func142, Tryz.ntmps142
    go_wp2_with (go_at_call 159; refine (hn _).mono ?_; rintro e w' ⟨rfl, rfl⟩)
    go_ret
    exact ⟨rfl, rfl⟩
set_option maxRecDepth 100000 in
theorem nFloat_any (n : Int) (w : World) : Calls Tryz.prog 161 #[.int .u64 n] w fun e w' => e = .returned (.float .f64 (rightN n).toNat) ∧ w' = w := by
  have hn := fun w => nRight_any n w
  have hf := ffb_run (rightN n)
  generalize rightN n = m at *
  go_enter Tryz.func161, Tryz.ntmps161
  go_wp2_with (go_at_call 142; refine (hn _).mono ?_; rintro e w' ⟨rfl, rfl⟩)
  go_ret
  exact ⟨rfl, rfl⟩
set_option maxRecDepth 100000 in
theorem nCovers_any (a b : Int) (w : World) : Calls Tryz.prog 146 #[.int .u64 a, .int .u64 b] w fun e w' => e = .returned (.bool (geN a b)) ∧ w' = w := by
  have hn := fun n w => nFloat_any n w
  unfold geN
  go_enter Tryz.func146, Tryz.ntmps146
  go_wp2_with (go_at_call 161; refine (hn _ _).mono ?_; rintro e w' ⟨rfl, rfl⟩)
  go_ret
  exact ⟨rfl, rfl⟩
set_option maxRecDepth 100000 in
theorem nCheck_any (n : Int) (w : World) : Calls Tryz.prog 104 #[.int .u64 n] w fun e w' => e = .returned (.int .i64 (if numOk n = true then 0 else 70)) ∧ w' = w := by
  have hn := fun w => nRight_any n w
  unfold numOk
  by_cases h : rightN n = n
  · have d : (rightN n == n) = true := by simp [h]
    have d' : (rightN n != n) = false := by simp [h]
    rw [if_pos (by simpa using h)]
    clear h
    generalize rightN n = m at *
    go_enter Tryz.func104, Tryz.ntmps104
    go_wp2_with (go_at_call 142; refine (hn _).mono ?_; rintro e w' ⟨rfl, rfl⟩)
    go_ret
    exact ⟨rfl, rfl⟩
  · have d : (rightN n == n) = false := by simp [h]
    have d' : (rightN n != n) = true := by simp [h]
    rw [if_neg (by simpa using h)]
    clear h
    generalize rightN n = m at *
    go_enter Tryz.func104, Tryz.ntmps104
    go_wp2_with (go_at_call 142; refine (hn _).mono ?_; rintro e w' ⟨rfl, rfl⟩)
    go_ret
    exact ⟨rfl, rfl⟩
theorem add_run (x y : Nat) (w : World) : ∃ r : Nat, ∃ n, (binOp .add 129 (.float .f64 x) (.float .f64 y)).run Tryz.prog w = .ok (.float .f64 r) (w.drewN n) ∧ rightN r = addR (Ieee.double.add x y) := by
  cases h : Ieee.double.add x y with
  | some r => exact ⟨r, 0, run_float_arith w .add 129 .f64 x y r h, rfl⟩
  | none =>
    refine ⟨(Question.nanBits .f64 x y).cut (w.tape w.drawn (Question.nanBits .f64 x y)), 1, ?_, right_cut _ _ _⟩
    have h' : FloatKind.format .f64 = Ieee.double := rfl
    simp [binOp, Op.floatArith, h', h, Question.forced]
    rfl
set_option maxRecDepth 100000 in
theorem nAdd_any (a b : Int) (w : World) : Calls Tryz.prog 145 #[.int .u64 a, .int .u64 b] w fun e w' => e = .returned (.int .u64 (addN a b)) ∧ Drawn0 w w' := by
  have hn := fun n w => nFloat_any n w
  unfold addN
  obtain ⟨r, n, hr, he⟩ := add_run (rightN a).toNat (rightN b).toNat w
  rw [← he]
  clear he
  have hr' := fun w => nRight_any (r : Int) w
  have hb := fb_run r
  generalize rightN (r : Int) = m at *
  go_enter Tryz.func145, Tryz.ntmps145
  go_wp2_with (first | (go_at_call 161; refine (hn _ _).mono ?_; rintro e w' ⟨rfl, rfl⟩) | (go_at_call 142; refine (hr' _).mono ?_; rintro e w' ⟨rfl, rfl⟩))
  go_ret
  exact ⟨rfl, n, rfl⟩
set_option maxRecDepth 100000 in
theorem nNeg_any (a : Int) (w : World) : Calls Tryz.prog 148 #[.int .u64 a] w fun e w' => e = .returned (.int .u64 (negN a)) ∧ w' = w := by
  have hr' := fun w => nRight_any (bits .xor .u64 a 9223372036854775808) w
  unfold negN
  go_enter Tryz.func148, Tryz.ntmps148
  go_wp2_with (first | (go_at_call 142; refine (hr' _).mono ?_; rintro e w' ⟨rfl, rfl⟩))
  go_ret
  exact ⟨rfl, rfl⟩
set_option maxRecDepth 100000 in
theorem nOf_any (a : Int) (w : World) : Calls Tryz.prog 147 #[.int .i64 a] w fun e w' => e = .returned (.int .u64 (ofN a)) ∧ w' = w := by
  have hr' := fun w => nRight_any (floatOfInt .f64 a : Nat) w
  have hb := fb_run (floatOfInt .f64 a)
  unfold ofN
  have hc : ∀ w, (convert 2 129 (.int .i64 a)).run Tryz.prog w = .ok (.float .f64 (floatOfInt .f64 a)) w := fun w => run_convert_int_float w _ _ .i64 .f64 a (by kernel_rfl) (by kernel_rfl)
  generalize floatOfInt .f64 a = q at *
  go_enter Tryz.func147, Tryz.ntmps147
  go_wp2_with (first | (go_at_call 142; refine (hr' _).mono ?_; rintro e w' ⟨rfl, rfl⟩))
  go_ret
  exact ⟨rfl, rfl⟩
end Go.Proofs.YtgmlenpcchhmbaaGreat.P
end
section
set_option linter.unusedVariables false
set_option linter.unusedSimpArgs false
namespace Go.Proofs.YtgmlenpcchhmbaaGreat.P
open Go.RowKit
def LastPost (P : Program) (ops : Array Oper) (o : Oper) (Q : Exit → Act → World → Prop) : Exit → Act → World → Prop
  | .normal, a, w => wpList P ops Q [o] a w
  | e, a, w => Q e a w
theorem lastPost_wp {P : Program} {ops : Array Oper} {o : Oper} {Q : Exit → Act → World → Prop} {a : Act} {w : World} (h : wpList P ops Q [o] a w) : LastPost P ops o Q .normal a w := h
def lastOk (l : List Oper) (o : Oper) : Bool :=
  (List.range l.length).all (fun i => match l[i]? with
    | some x => x.after.toList.all (fun e => decide (e.on < i)) && (match x.guard with | none => true | some (j, _) => decide (j < l.length))
    | none => true) &&
  (List.range l.length).all (fun j => o.after.toList.any (fun e => e.on == j && Region.binds .any e) || (List.range l.length).any (fun k => decide (j < k) && (match l[k]? with | some x => x.after.toList.any (fun e => e.on == j && Region.binds .any e) | none => false))) &&
  o.after.toList.all (fun e => decide (e.on < l.length)) && (match o.guard with | none => true | some _ => false)
structure LastOk (l : List Oper) (o : Oper) : Prop where
  low : ∀ (i : Nat) (x : Oper), l[i]? = some x → ∀ e ∈ x.after, e.on < i
  guard : ∀ (i : Nat) (x : Oper), l[i]? = some x → ∀ (j : Nat) (b : Bool), x.guard = some (j, b) → j < l.length
  all : ∀ j, j < l.length → (∃ e ∈ o.after, e.on = j ∧ Region.binds .any e = true) ∨ ∃ k x, j < k ∧ l[k]? = some x ∧ ∃ e ∈ x.after, e.on = j ∧ Region.binds .any e = true
  lt : ∀ e ∈ o.after, e.on < l.length
  ng : o.guard = none
theorem LastOk.of {l : List Oper} {o : Oper} (h : lastOk l o = true) : LastOk l o := by
  simp only [lastOk, Bool.and_eq_true, List.all_eq_true, List.any_eq_true, List.mem_range, Array.mem_toList_iff, decide_eq_true_eq, beq_iff_eq, Bool.or_eq_true] at h
  obtain ⟨⟨⟨h1, h2⟩, h3⟩, h4⟩ := h
  refine ⟨fun i x hx => ?_, fun i x hx j b hg => ?_, fun j hj => ?_, h3, ?_⟩
  · have := h1 i (List.getElem?_eq_some_iff.1 hx).1
    rw [hx] at this
    simp only [Bool.and_eq_true, List.all_eq_true, Array.mem_toList_iff, decide_eq_true_eq] at this
    exact this.1
  · have := h1 i (List.getElem?_eq_some_iff.1 hx).1
    rw [hx] at this
    simp only [Bool.and_eq_true, hg, decide_eq_true_eq] at this
    exact this.2
  · rcases h2 j hj with ⟨e, he, h, k⟩ | ⟨k, hk, hjk, hx⟩
    · exact .inl ⟨e, he, h, k⟩
    · right
      rw [List.getElem?_eq_getElem hk] at hx
      simp only [List.any_eq_true, Array.mem_toList_iff, Bool.and_eq_true, beq_iff_eq] at hx
      exact ⟨k, l[k], hjk, List.getElem?_eq_getElem hk, hx⟩
  · revert h4; cases o.guard <;> simp
section
variable {P : Program} {l : List Oper} {o : Oper} {Q : Exit → Act → World → Prop}
theorem lastPost_out (h : LetsOut (LastPost P (l ++ [o]).toArray o Q)) : LetsOut Q := h
theorem oper_post {x : Oper} {a : Act} {w : World} {K : Act → World → Prop} {Q' : Exit → Act → World → Prop} (hp : ∀ c a w, Q' (.panic c) a w → Q (.panic c) a w) (ho : LetsOut Q' → LetsOut Q)
    (hh : x.wp P a w K Q') : x.wp P a w K Q := by
  unfold Oper.wp at *
  generalize (execOp a.eval x).run P w = r at *
  cases r with
  | ok n w' =>
    cases n <;> simp only [Oper.upon] at hh ⊢ <;>
      first
        | exact hh
        | exact Calls.mono hh (fun e w'' he => by cases e <;> first | exact he | exact hp _ _ _ he | exact ho he)
  | halt y w' => cases y <;> simp only [Oper.upon] at hh ⊢ <;> first | exact hh | exact hp _ _ _ hh
theorem all_listed (hok : LastOk l o) {listed : Array Bool} (hs : listed.size = l.length) (h : Region.ready .any l.toArray listed = []) : ∀ i, i < l.length → listed.getD i false = true := by
  intro i
  induction i using Nat.strongRecOn with
  | _ i ih =>
    intro hi
    by_cases hl : listed.getD i false = true
    · exact hl
    · have hx := List.getElem?_eq_getElem hi
      have : i ∈ Region.ready .any l.toArray listed := by
        rw [mem_ready]
        refine ⟨?_, l[i], (by simp [hi]), fun e he _ => ih e.on (hok.low i _ hx e he) (by have := hok.low i _ hx e he; omega)⟩
        simp only [Array.getD_eq_getD_getElem?, Array.getElem?_eq_getElem (show i < listed.size by omega), Option.getD_some] at hl ⊢
        simpa using hl
      rw [h] at this; cases this
theorem push_getD {listed : Array Bool} {i : Nat} (hi : i < listed.size) (b d : Bool) : (listed.push b).getD i d = listed.getD i d := by
  simp [Array.getD_eq_getD_getElem?, Array.getElem?_push, Nat.ne_of_lt hi]
theorem ready_old (hok : LastOk l o) {listed : Array Bool} (hs : listed.size = l.length) {i : Nat} (hi : i < l.length) (h : i ∈ Region.ready .any (l ++ [o]).toArray (listed.push false)) : i ∈ Region.ready .any l.toArray listed := by
  rw [mem_ready] at h ⊢
  obtain ⟨h1, x, hx, h2⟩ := h
  rw [push_getD (by omega)] at h1
  have hx' : l[i]? = some x := by simpa [List.getElem?_append_left hi] using hx
  refine ⟨h1, x, by simpa using hx', fun e he hb => ?_⟩
  have := h2 e he hb
  rwa [push_getD (by have := hok.low i x hx' e he; omega)] at this
theorem old_ready (hok : LastOk l o) {listed : Array Bool} (hs : listed.size = l.length) {i : Nat} (h : i ∈ Region.ready .any l.toArray listed) : i ∈ Region.ready .any (l ++ [o]).toArray (listed.push false) := by
  rw [mem_ready] at h ⊢
  obtain ⟨h1, x, hx, h2⟩ := h
  have hi : i < l.length := by have := (Array.getElem?_eq_some_iff.1 hx).1; simpa using this
  have hx' : l[i]? = some x := by simpa using hx
  refine ⟨by rw [push_getD (by omega)]; exact h1, x, by simpa [List.getElem?_append_left hi] using hx', fun e he hb => ?_⟩
  rw [push_getD (by have := hok.low i x hx' e he; omega)]
  exact h2 e he hb
def Closed (l : List Oper) (listed : Array Bool) : Prop := ∀ i x, l[i]? = some x → listed.getD i false = true → ∀ e ∈ x.after, Region.binds .any e = true → listed.getD e.on false = true
theorem closed_set {listed : Array Bool} (hc : Closed l listed) {i : Nat} (hi : i ∈ Region.ready .any l.toArray listed) : Closed l (listed.setIfInBounds i true) := by
  intro j x hx hj e he hb
  obtain ⟨_, y, hy, h2⟩ := mem_ready.1 hi
  have hy' : l[i]? = some y := by simpa using hy
  by_cases hij : i = j
  · subst hij
    rw [hx] at hy'
    injection hy' with hy'
    subst hy'
    exact getD_set_true (h2 e he hb)
  · rw [getD_set_ne false hij] at hj
    exact getD_set_true (hc j x hx hj e he hb)
theorem ready_last (hok : LastOk l o) {listed : Array Bool} (hs : listed.size = l.length) (hc : Closed l listed) : l.length ∈ Region.ready .any (l ++ [o]).toArray (listed.push false) ↔ ∀ i, i < l.length → listed.getD i false = true := by
  rw [mem_ready]
  constructor
  · rintro ⟨_, x, hx, h⟩
    have : x = o := by simp at hx; exact hx.symm
    subst this
    have key : ∀ d i, i < l.length → l.length - i ≤ d → listed.getD i false = true := by
      intro d
      induction d with
      | zero => intro i hi hd; omega
      | succ d ih =>
        intro i hi hd
        rcases hok.all i hi with ⟨e, he, rfl, hb⟩ | ⟨k, y, hk, hy, e, he, rfl, hb⟩
        · have := h e he hb
          rwa [push_getD (by omega)] at this
        · have hkl := (List.getElem?_eq_some_iff.1 hy).1
          exact hc k y hy (ih k hkl (by omega)) e he hb
    exact fun i hi => key _ i hi (Nat.le_refl _)
  · intro h
    refine ⟨by simp [Array.getD_eq_getD_getElem?, ← hs], o, by simp, fun e he _ => ?_⟩
    rw [push_getD (by have := hok.lt e he; omega)]
    exact h _ (hok.lt e he)
theorem ready_end {listed : Array Bool} (hs : listed.size = l.length) (h : ∀ i, i < l.length → listed.getD i false = true) : Region.ready .any (l ++ [o]).toArray ((listed.push false).setIfInBounds l.length true) = [] := by
  apply List.eq_nil_iff_forall_not_mem.2
  intro i hi
  rw [mem_ready] at hi
  obtain ⟨h1, x, hx, _⟩ := hi
  have hlt : i < l.length + 1 := by have := (Array.getElem?_eq_some_iff.1 hx).1; simpa using this
  have e : (listed.push false).setIfInBounds l.length true = listed.push true := by
    apply Array.ext_getElem?
    intro j;simp only [Array.getElem?_setIfInBounds, Array.getElem?_push, Array.size_push]
    by_cases hj : l.length = j
    · subst hj; simp [hs]
    · simp [hj, show ¬ j = listed.size by omega]
  rw [e] at h1
  rcases Nat.lt_or_ge i l.length with hl | hl
  · rw [push_getD (by omega)] at h1
    have := h i hl
    simp only [Array.getD_eq_getD_getElem?, Array.getElem?_eq_getElem (show i < listed.size by omega), Option.getD_some] at h1 this
    rw [this] at h1; cases h1
  · have : i = listed.size := by omega
    subst this
    simp [Array.getD_eq_getD_getElem?] at h1
theorem wpOp_last (_hok : LastOk l o) {K : Act → World → Prop} {a : Act} {w : World} (h : wpList P (l ++ [o]).toArray Q [o] a w) (hK : ∀ a w, Q .normal a w → K a w) : wpOp P (l ++ [o]).toArray Q l.length K a w := by
  unfold wpOp
  have e : (l ++ [o]).toArray[l.length]? = some o := by simp
  rw [e]
  have hw : Region.wanted o (yielded (l ++ [o]).toArray a.tmps) = true := by simp [Region.wanted, _hok.ng]
  simp only [wpList, hw, if_true] at h ⊢
  exact h.imp (Oper.wp_mono fun a w h => hK a w h) id
theorem wpOp_old (hok : LastOk l o) {K K' : Act → World → Prop} {a : Act} {w : World} {i : Nat} (hi : i < l.length) (hK : ∀ a w, K a w → K' a w) (h : wpOp P l.toArray (LastPost P (l ++ [o]).toArray o Q) i K a w) :
    wpOp P (l ++ [o]).toArray Q i K' a w := by
  unfold wpOp at h ⊢
  have hx := List.getElem?_eq_getElem hi
  have e1 : l.toArray[i]? = some l[i] := by simp [hi]
  have e2 : (l ++ [o]).toArray[i]? = some l[i] := by simp [List.getElem?_append_left hi, hi]
  rw [e1] at h
  rw [e2]
  have hy : Region.wanted l[i] (yielded (l ++ [o]).toArray a.tmps) = Region.wanted l[i] (yielded l.toArray a.tmps) := by
    unfold Region.wanted
    split
    · rfl
    · rename_i j b hg
      have hj := hok.guard i _ hx j b hg
      have : yielded (l ++ [o]).toArray a.tmps j = yielded l.toArray a.tmps j := by
        unfold yielded
        rw [show (l ++ [o]).toArray[j]? = l.toArray[j]? from by simp [List.getElem?_append_left hj]]
      rw [this]
  simp only [hy]
  split
  · rename_i hw
    simp only [hw, if_true] at h
    rcases h with h | h
    · exact .inl (oper_post (Q' := LastPost P (l ++ [o]).toArray o Q) (fun _ _ _ h => h) lastPost_out (Oper.wp_mono hK h))
    · exact .inr ⟨h.1, lastPost_out h.2⟩
  · rename_i hw
    simp only [hw] at h
    exact hK _ _ h
theorem wpAny_last (hok : LastOk l o) : ∀ (fuel : Nat) (listed : Array Bool) (a : Act) (w : World), listed.size = l.length → Closed l listed → wpAny P .any l.toArray (LastPost P (l ++ [o]).toArray o Q) fuel listed a w →
    wpAny P .any (l ++ [o]).toArray Q (fuel + 1) (listed.push false) a w := by
  intro fuel
  induction fuel with
  | zero =>
    intro listed a w hs hc h
    obtain ⟨h1, h2⟩ := h
    have hall := all_listed hok hs h1
    have hin := (ready_last hok hs hc).2 hall
    refine ⟨fun h0 => (by rw [h0] at hin; cases hin), fun i hi => ?_⟩
    have hlt : i < l.length + 1 := by
      obtain ⟨_, x, hx, _⟩ := mem_ready.1 hi
      have := (Array.getElem?_eq_some_iff.1 hx).1; simpa using this
    rcases Nat.lt_or_ge i l.length with hl | hl
    · have := ready_old hok hs hl hi
      rw [h1] at this; cases this
    · obtain rfl : i = l.length := by omega
      exact wpOp_last hok h2 (fun a w h => ⟨ready_end hs hall, h⟩)
  | succ fuel ih =>
    intro listed a w hs hc h
    obtain ⟨h1, h2⟩ := h
    refine ⟨fun h0 => ?_, fun i hi => ?_⟩
    · by_cases hr : Region.ready .any l.toArray listed = []
      · have hin := (ready_last hok hs hc).2 (all_listed hok hs hr)
        rw [h0] at hin; cases hin
      · obtain ⟨j, hj⟩ := List.exists_mem_of_ne_nil _ hr
        have := old_ready hok hs hj
        rw [h0] at this; cases this
    · have hlt : i < l.length + 1 := by
        obtain ⟨_, x, hx, _⟩ := mem_ready.1 hi
        have := (Array.getElem?_eq_some_iff.1 hx).1; simpa using this
      rcases Nat.lt_or_ge i l.length with hl | hl
      · refine wpOp_old hok hl (fun a w h => ?_) (h2 i (ready_old hok hs hl hi))
        have e : (listed.push false).setIfInBounds i true = (listed.setIfInBounds i true).push false := by
          apply Array.ext_getElem?
          intro j;simp only [Array.getElem?_setIfInBounds, Array.getElem?_push, Array.size_push, Array.size_setIfInBounds]
          by_cases hj : i = j
          · subst hj; simp [show i < listed.size by omega, show ¬ i = listed.size by omega, show i < listed.size + 1 by omega]
          · simp [hj]
        rw [e]
        exact ih _ a w (by simpa using hs) (closed_set hc (ready_old hok hs hl hi)) h
      · obtain rfl : i = l.length := by omega
        have hall := (ready_last hok hs hc).1 hi
        have hr : Region.ready .any l.toArray listed = [] := by
          apply List.eq_nil_iff_forall_not_mem.2
          intro j hj
          obtain ⟨h0, x, hx, _⟩ := mem_ready.1 hj
          have hjl : j < l.length := by have := (Array.getElem?_eq_some_iff.1 hx).1; simpa using this
          have := hall j hjl
          simp only [Array.getD_eq_getD_getElem?, Array.getElem?_eq_getElem (show j < listed.size by omega), Option.getD_some] at h0 this
          rw [this] at h0; cases h0
        exact wpOp_last hok (h1 hr) (fun a w h => ⟨fun _ => h, fun j hj => by rw [ready_end hs hall] at hj; cases hj⟩)
theorem wp_region_last {id : Nat} {a : Act} {w : World} (hm : P.follows .mixedOrders = true) (hk : lastOk l o = true)
    (h : wpAny P .any l.toArray (LastPost P (l ++ [o]).toArray o Q) l.length (Array.replicate l.length false) a { w with drawn := w.drawn + 1 }) : (Code.region id (l ++ [o]).toArray true).wp P Q a w := by
  refine wp_region_any hm ?_
  have := wpAny_last (LastOk.of hk) l.length (Array.replicate l.length false) a _ (by simp) (fun i x hx hi => by simp [Array.getD_eq_getD_getElem?, Array.getElem?_replicate] at hi; split at hi <;> simp at hi) h
  have e : Array.replicate (l ++ [o]).toArray.size false = (Array.replicate l.length false).push false := by
    simp [Array.replicate_succ]
  rw [e]
  simpa using this
end
theorem cellA {W : World} {a : Addr} {v : Value} (h : W.cell? a = some v) (o : Obj) : (W.alloc o).cell? a = some v :=
  (World.cell?_of_block (w := W) (Below.heap_alloc W o a.block (World.block_lt_of_cell? W _ h))).trans h
theorem tk_ {P : Program} {ops : Array Oper} {Q : Exit → Act → World → Prop} {md : Region.Mode} {S : World → Prop} (i : Nat) {oi : Oper} {v : Value} {fuel : Nat} {listed listed' : Array Bool} {a a' : Act} {w : World} (hS : S w) (h : wpAnyH P md ops Q S fuel listed' a' w)
    (hi : ops[i]? = some oi := by rfl) (hs : Region.noSelect ops = true := by kernel_rfl) (hf : Region.free md ops listed i = true := by kernel_rfl) (hr : (Region.ready md ops listed).contains i = true := by kernel_rfl)
    (hw : Region.wanted oi (yielded ops a.tmps) = true := by rfl) (hy : ∀ w, S w → (execOp a.eval oi).run P w = .ok (.value v) w := by (intro w hSw; (try dsimp only at hSw); go_split_ands; go_simp; try with_reducible rfl))
    (hQ : ∀ c a w, Q (.panic c) (a.put oi.dst v) w → Q (.panic c) a w := by exact fun _ _ _ h => h)
    (hl : listed.setIfInBounds i true = listed' := by rfl)
    (hp : a.put oi.dst v = a' := by (simp only [List.getElem_toArray, List.getElem_cons_succ, List.getElem_cons_zero, Act.put, List.setIfInBounds_toArray, List.set_cons_zero, List.set_cons_succ]; rfl)) :
    wpAnyH P md ops Q S (fuel + 1) listed a w := by
  subst hl; subst hp
  exact wpAnyH_take hi hs hf hr hQ (Or.inl ⟨hw, hy⟩) hS h
theorem tf_ {P : Program} {ops : Array Oper} {Q : Exit → Act → World → Prop} {md : Region.Mode} {S : World → Prop} (i : Nat) {oi : Oper} {fuel : Nat} {listed listed' : Array Bool} {a a' : Act} {w : World} (hS : S w) (h : wpAnyH P md ops Q S fuel listed' a' w)
    (hi : ops[i]? = some oi := by rfl) (hs : Region.noSelect ops = true := by kernel_rfl) (hf : Region.free md ops listed i = true := by kernel_rfl) (hr : (Region.ready md ops listed).contains i = true := by kernel_rfl)
    (hw : Region.wanted oi (yielded ops a.tmps) = false := by rfl)
    (hQ : ∀ c a w, Q (.panic c) (a.put oi.dst undef) w → Q (.panic c) a w := by exact fun _ _ _ h => h)
    (hl : listed.setIfInBounds i true = listed' := by rfl)
    (hp : a.put oi.dst undef = a' := by (simp only [List.getElem_toArray, List.getElem_cons_succ, List.getElem_cons_zero, Act.put, List.setIfInBounds_toArray, List.set_cons_zero, List.set_cons_succ]; rfl)) :
    wpAnyH P md ops Q S (fuel + 1) listed a w := by
  subst hl; subst hp
  exact wpAnyH_take hi hs hf hr hQ (Or.inr ⟨hw, rfl⟩) hS h
end Go.Proofs.YtgmlenpcchhmbaaGreat.P
end
section
set_option linter.unusedVariables false
set_option linter.unusedSimpArgs false
namespace Go.Proofs.YtgmlenpcchhmbaaGreat.P
open Go.RowKit
def lastOk2 (l : List Oper) (o : Oper) : Bool :=
  (List.range l.length).all (fun i => match l[i]? with
    | some x => x.after.toList.all (fun e => !Region.binds .any e || decide (e.on < i)) && (match x.guard with | none => true | some (j, _) => decide (j < l.length))
    | none => true) &&
  (List.range l.length).all (fun j => o.after.toList.any (fun e => e.on == j && Region.binds .any e) || (List.range l.length).any (fun k => decide (j < k) && (match l[k]? with | some x => x.after.toList.any (fun e => e.on == j && Region.binds .any e) | none => false))) &&
  o.after.toList.all (fun e => !Region.binds .any e || decide (e.on < l.length))
structure LastOk2 (l : List Oper) (o : Oper) : Prop where
  low : ∀ (i : Nat) (x : Oper), l[i]? = some x → ∀ e ∈ x.after, Region.binds .any e = true → e.on < i
  guard : ∀ (i : Nat) (x : Oper), l[i]? = some x → ∀ (j : Nat) (b : Bool), x.guard = some (j, b) → j < l.length
  all : ∀ j, j < l.length → (∃ e ∈ o.after, e.on = j ∧ Region.binds .any e = true) ∨ ∃ k x, j < k ∧ l[k]? = some x ∧ ∃ e ∈ x.after, e.on = j ∧ Region.binds .any e = true
  lt : ∀ e ∈ o.after, Region.binds .any e = true → e.on < l.length
theorem LastOk2.of {l : List Oper} {o : Oper} (h : lastOk2 l o = true) : LastOk2 l o := by
  simp only [lastOk2, Bool.and_eq_true, List.all_eq_true, List.any_eq_true, List.mem_range, Array.mem_toList_iff, decide_eq_true_eq, beq_iff_eq, Bool.or_eq_true] at h
  obtain ⟨⟨h1, h2⟩, h3⟩ := h
  refine ⟨fun i x hx => ?_, fun i x hx j b hg => ?_, fun j hj => ?_, fun e he hb => by have := h3 e he; simpa [hb] using this⟩
  · have := h1 i (List.getElem?_eq_some_iff.1 hx).1
    rw [hx] at this
    simp only [Bool.and_eq_true, List.all_eq_true, Array.mem_toList_iff] at this
    exact fun e he hb => by have := this.1 e he; simpa [hb] using this
  · have := h1 i (List.getElem?_eq_some_iff.1 hx).1
    rw [hx] at this
    simp only [Bool.and_eq_true, hg, decide_eq_true_eq] at this
    exact this.2
  · rcases h2 j hj with ⟨e, he, h, k⟩ | ⟨k, hk, hjk, hx⟩
    · exact .inl ⟨e, he, h, k⟩
    · right
      rw [List.getElem?_eq_getElem hk] at hx
      simp only [List.any_eq_true, Array.mem_toList_iff, Bool.and_eq_true, beq_iff_eq] at hx
      exact ⟨k, l[k], hjk, List.getElem?_eq_getElem hk, hx⟩
section
variable {P : Program} {l : List Oper} {o : Oper} {Q : Exit → Act → World → Prop}
theorem lastPost_out2 (h : LetsOut (LastPost P (l ++ [o]).toArray o Q)) : LetsOut Q := h
theorem oper_post2 {x : Oper} {a : Act} {w : World} {K : Act → World → Prop} {Q' : Exit → Act → World → Prop} (hp : ∀ c a w, Q' (.panic c) a w → Q (.panic c) a w) (ho : LetsOut Q' → LetsOut Q)
    (hh : x.wp P a w K Q') : x.wp P a w K Q := by
  unfold Oper.wp at *
  generalize (execOp a.eval x).run P w = r at *
  cases r with
  | ok n w' =>
    cases n <;> simp only [Oper.upon] at hh ⊢ <;>
      first
        | exact hh
        | exact Calls.mono hh (fun e w'' he => by cases e <;> first | exact he | exact hp _ _ _ he | exact ho he)
  | halt y w' => cases y <;> simp only [Oper.upon] at hh ⊢ <;> first | exact hh | exact hp _ _ _ hh
theorem all_listed2 (hok : LastOk2 l o) {listed : Array Bool} (hs : listed.size = l.length) (h : Region.ready .any l.toArray listed = []) : ∀ i, i < l.length → listed.getD i false = true := by
  intro i
  induction i using Nat.strongRecOn with
  | _ i ih =>
    intro hi
    by_cases hl : listed.getD i false = true
    · exact hl
    · have hx := List.getElem?_eq_getElem hi
      have : i ∈ Region.ready .any l.toArray listed := by
        rw [mem_ready]
        refine ⟨?_, l[i], (by simp [hi]), fun e he hb => ih e.on (hok.low i _ hx e he hb) (by have := hok.low i _ hx e he hb; omega)⟩
        simp only [Array.getD_eq_getD_getElem?, Array.getElem?_eq_getElem (show i < listed.size by omega), Option.getD_some] at hl ⊢
        simpa using hl
      rw [h] at this; cases this
theorem push_getD2 {listed : Array Bool} {i : Nat} (hi : i < listed.size) (b d : Bool) : (listed.push b).getD i d = listed.getD i d := by
  simp [Array.getD_eq_getD_getElem?, Array.getElem?_push, Nat.ne_of_lt hi]
theorem ready_old2 (hok : LastOk2 l o) {listed : Array Bool} (hs : listed.size = l.length) {i : Nat} (hi : i < l.length) (h : i ∈ Region.ready .any (l ++ [o]).toArray (listed.push false)) : i ∈ Region.ready .any l.toArray listed := by
  rw [mem_ready] at h ⊢
  obtain ⟨h1, x, hx, h2⟩ := h
  rw [push_getD2 (by omega)] at h1
  have hx' : l[i]? = some x := by simpa [List.getElem?_append_left hi] using hx
  refine ⟨h1, x, by simpa using hx', fun e he hb => ?_⟩
  have := h2 e he hb
  rwa [push_getD2 (by have := hok.low i x hx' e he hb; omega)] at this
theorem old_ready2 (hok : LastOk2 l o) {listed : Array Bool} (hs : listed.size = l.length) {i : Nat} (h : i ∈ Region.ready .any l.toArray listed) : i ∈ Region.ready .any (l ++ [o]).toArray (listed.push false) := by
  rw [mem_ready] at h ⊢
  obtain ⟨h1, x, hx, h2⟩ := h
  have hi : i < l.length := by have := (Array.getElem?_eq_some_iff.1 hx).1; simpa using this
  have hx' : l[i]? = some x := by simpa using hx
  refine ⟨by rw [push_getD2 (by omega)]; exact h1, x, by simpa [List.getElem?_append_left hi] using hx', fun e he hb => ?_⟩
  rw [push_getD2 (by have := hok.low i x hx' e he hb; omega)]
  exact h2 e he hb
def Closed2 (l : List Oper) (listed : Array Bool) : Prop := ∀ i x, l[i]? = some x → listed.getD i false = true → ∀ e ∈ x.after, Region.binds .any e = true → listed.getD e.on false = true
theorem closed_set2 {listed : Array Bool} (hc : Closed2 l listed) {i : Nat} (hi : i ∈ Region.ready .any l.toArray listed) : Closed2 l (listed.setIfInBounds i true) := by
  intro j x hx hj e he hb
  obtain ⟨_, y, hy, h2⟩ := mem_ready.1 hi
  have hy' : l[i]? = some y := by simpa using hy
  by_cases hij : i = j
  · subst hij
    rw [hx] at hy'
    injection hy' with hy'
    subst hy'
    exact getD_set_true (h2 e he hb)
  · rw [getD_set_ne false hij] at hj
    exact getD_set_true (hc j x hx hj e he hb)
theorem ready_last2 (hok : LastOk2 l o) {listed : Array Bool} (hs : listed.size = l.length) (hc : Closed2 l listed) : l.length ∈ Region.ready .any (l ++ [o]).toArray (listed.push false) ↔ ∀ i, i < l.length → listed.getD i false = true := by
  rw [mem_ready]
  constructor
  · rintro ⟨_, x, hx, h⟩
    have : x = o := by simp at hx; exact hx.symm
    subst this
    have key : ∀ d i, i < l.length → l.length - i ≤ d → listed.getD i false = true := by
      intro d
      induction d with
      | zero => intro i hi hd; omega
      | succ d ih =>
        intro i hi hd
        rcases hok.all i hi with ⟨e, he, rfl, hb⟩ | ⟨k, y, hk, hy, e, he, rfl, hb⟩
        · have := h e he hb
          rwa [push_getD2 (by omega)] at this
        · have hkl := (List.getElem?_eq_some_iff.1 hy).1
          exact hc k y hy (ih k hkl (by omega)) e he hb
    exact fun i hi => key _ i hi (Nat.le_refl _)
  · intro h
    refine ⟨by simp [Array.getD_eq_getD_getElem?, ← hs], o, by simp, fun e he hb => ?_⟩
    rw [push_getD2 (by have := hok.lt e he hb; omega)]
    exact h _ (hok.lt e he hb)
theorem ready_end2 {listed : Array Bool} (hs : listed.size = l.length) (h : ∀ i, i < l.length → listed.getD i false = true) : Region.ready .any (l ++ [o]).toArray ((listed.push false).setIfInBounds l.length true) = [] := by
  apply List.eq_nil_iff_forall_not_mem.2
  intro i hi
  rw [mem_ready] at hi
  obtain ⟨h1, x, hx, _⟩ := hi
  have hlt : i < l.length + 1 := by have := (Array.getElem?_eq_some_iff.1 hx).1; simpa using this
  have e : (listed.push false).setIfInBounds l.length true = listed.push true := by
    apply Array.ext_getElem?
    intro j;simp only [Array.getElem?_setIfInBounds, Array.getElem?_push, Array.size_push]
    by_cases hj : l.length = j
    · subst hj; simp [hs]
    · simp [hj, show ¬ j = listed.size by omega]
  rw [e] at h1
  rcases Nat.lt_or_ge i l.length with hl | hl
  · rw [push_getD2 (by omega)] at h1
    have := h i hl
    simp only [Array.getD_eq_getD_getElem?, Array.getElem?_eq_getElem (show i < listed.size by omega), Option.getD_some] at h1 this
    rw [this] at h1; cases h1
  · have : i = listed.size := by omega
    subst this
    simp [Array.getD_eq_getD_getElem?] at h1
theorem wpOp_last2 {K : Act → World → Prop} {a : Act} {w : World} (h : wpList P (l ++ [o]).toArray Q [o] a w) (hK : ∀ a w, Q .normal a w → K a w) : wpOp P (l ++ [o]).toArray Q l.length K a w := by
  unfold wpOp
  have e : (l ++ [o]).toArray[l.length]? = some o := by simp
  rw [e]
  by_cases hw : Region.wanted o (yielded (l ++ [o]).toArray a.tmps) = true
  · simp only [wpList, hw, if_true] at h ⊢
    exact h.imp (Oper.wp_mono fun a w h => hK a w h) id
  · have hw' : Region.wanted o (yielded (l ++ [o]).toArray a.tmps) = false := by simpa using hw
    simp only [wpList, hw'] at h ⊢
    exact hK _ _ h
theorem wpOp_old2 (hok : LastOk2 l o) {K K' : Act → World → Prop} {a : Act} {w : World} {i : Nat} (hi : i < l.length) (hK : ∀ a w, K a w → K' a w) (h : wpOp P l.toArray (LastPost P (l ++ [o]).toArray o Q) i K a w) :
    wpOp P (l ++ [o]).toArray Q i K' a w := by
  unfold wpOp at h ⊢
  have hx := List.getElem?_eq_getElem hi
  have e1 : l.toArray[i]? = some l[i] := by simp [hi]
  have e2 : (l ++ [o]).toArray[i]? = some l[i] := by simp [List.getElem?_append_left hi, hi]
  rw [e1] at h
  rw [e2]
  have hy : Region.wanted l[i] (yielded (l ++ [o]).toArray a.tmps) = Region.wanted l[i] (yielded l.toArray a.tmps) := by
    unfold Region.wanted
    split
    · rfl
    · rename_i j b hg
      have hj := hok.guard i _ hx j b hg
      have : yielded (l ++ [o]).toArray a.tmps j = yielded l.toArray a.tmps j := by
        unfold yielded
        rw [show (l ++ [o]).toArray[j]? = l.toArray[j]? from by simp [List.getElem?_append_left hj]]
      rw [this]
  simp only [hy]
  split
  · rename_i hw
    simp only [hw, if_true] at h
    rcases h with h | h
    · exact .inl (oper_post2 (Q' := LastPost P (l ++ [o]).toArray o Q) (fun _ _ _ h => h) lastPost_out2 (Oper.wp_mono hK h))
    · exact .inr ⟨h.1, lastPost_out2 h.2⟩
  · rename_i hw
    simp only [hw] at h
    exact hK _ _ h
theorem wpAny_last2 (hok : LastOk2 l o) : ∀ (fuel : Nat) (listed : Array Bool) (a : Act) (w : World), listed.size = l.length → Closed2 l listed → wpAny P .any l.toArray (LastPost P (l ++ [o]).toArray o Q) fuel listed a w →
    wpAny P .any (l ++ [o]).toArray Q (fuel + 1) (listed.push false) a w := by
  intro fuel
  induction fuel with
  | zero =>
    intro listed a w hs hc h
    obtain ⟨h1, h2⟩ := h
    have hall := all_listed2 hok hs h1
    have hin := (ready_last2 hok hs hc).2 hall
    refine ⟨fun h0 => (by rw [h0] at hin; cases hin), fun i hi => ?_⟩
    have hlt : i < l.length + 1 := by
      obtain ⟨_, x, hx, _⟩ := mem_ready.1 hi
      have := (Array.getElem?_eq_some_iff.1 hx).1; simpa using this
    rcases Nat.lt_or_ge i l.length with hl | hl
    · have := ready_old2 hok hs hl hi
      rw [h1] at this; cases this
    · obtain rfl : i = l.length := by omega
      exact wpOp_last2 h2 (fun a w h => ⟨ready_end2 hs hall, h⟩)
  | succ fuel ih =>
    intro listed a w hs hc h
    obtain ⟨h1, h2⟩ := h
    refine ⟨fun h0 => ?_, fun i hi => ?_⟩
    · by_cases hr : Region.ready .any l.toArray listed = []
      · have hin := (ready_last2 hok hs hc).2 (all_listed2 hok hs hr)
        rw [h0] at hin; cases hin
      · obtain ⟨j, hj⟩ := List.exists_mem_of_ne_nil _ hr
        have := old_ready2 hok hs hj
        rw [h0] at this; cases this
    · have hlt : i < l.length + 1 := by
        obtain ⟨_, x, hx, _⟩ := mem_ready.1 hi
        have := (Array.getElem?_eq_some_iff.1 hx).1; simpa using this
      rcases Nat.lt_or_ge i l.length with hl | hl
      · refine wpOp_old2 hok hl (fun a w h => ?_) (h2 i (ready_old2 hok hs hl hi))
        have e : (listed.push false).setIfInBounds i true = (listed.setIfInBounds i true).push false := by
          apply Array.ext_getElem?
          intro j;simp only [Array.getElem?_setIfInBounds, Array.getElem?_push, Array.size_push, Array.size_setIfInBounds]
          by_cases hj : i = j
          · subst hj; simp [show i < listed.size by omega, show ¬ i = listed.size by omega, show i < listed.size + 1 by omega]
          · simp [hj]
        rw [e]
        exact ih _ a w (by simpa using hs) (closed_set2 hc (ready_old2 hok hs hl hi)) h
      · obtain rfl : i = l.length := by omega
        have hall := (ready_last2 hok hs hc).1 hi
        have hr : Region.ready .any l.toArray listed = [] := by
          apply List.eq_nil_iff_forall_not_mem.2
          intro j hj
          obtain ⟨h0, x, hx, _⟩ := mem_ready.1 hj
          have hjl : j < l.length := by have := (Array.getElem?_eq_some_iff.1 hx).1; simpa using this
          have := hall j hjl
          simp only [Array.getD_eq_getD_getElem?, Array.getElem?_eq_getElem (show j < listed.size by omega), Option.getD_some] at h0 this
          rw [this] at h0; cases h0
        exact wpOp_last2 (h1 hr) (fun a w h => ⟨fun _ => h, fun j hj => by rw [ready_end2 hs hall] at hj; cases hj⟩)
theorem wpAny_last2' (hok : lastOk2 l o = true) {m : Nat} (hm : m = l.length + 1) {a : Act} {w : World} (h : wpAny P .any l.toArray (LastPost P (l ++ [o]).toArray o Q) l.length (Array.replicate l.length false) a w) : wpAny P .any (l ++ [o]).toArray Q m (Array.replicate m false) a w := by
  subst hm
  have := wpAny_last2 (LastOk2.of hok) l.length (Array.replicate l.length false) a _ (by simp) (fun i x hx hi => by simp [Array.getD_eq_getD_getElem?, Array.getElem?_replicate] at hi; split at hi <;> simp at hi) h
  have e : Array.replicate (l.length + 1) false = (Array.replicate l.length false).push false := by
    simp [Array.replicate_succ]
  rw [e]
  exact this
theorem wp_region_last1_held {id : Nat} {a : Act} {w : World} (S : World → Prop) (hm : P.follows .mixedOrders = true) (h1 : lastOk2 l o = true)
    (h : wpAnyH P .any l.toArray (LastPost P (l ++ [o]).toArray o Q) S l.length (Array.replicate l.length false) a w.drew) : (Code.region id (l ++ [o]).toArray true).wp P Q a w := by
  refine wp_region_any hm ?_;refine wpAny_last2' h1 (by simp) ?_
  exact wpAny_of_held _ _ _ _ h
end
end Go.Proofs.YtgmlenpcchhmbaaGreat.P
end
section
set_option linter.unusedVariables false
set_option linter.unusedSimpArgs false
namespace Go.Proofs.YtgmlenpcchhmbaaGreat.P
def noneS (s : S71) : Bool := decide (s.f1 ≠ emptyB) && !klt s.f0 s.f1
def mostE (e f : ByteArray) : ByteArray := if e = emptyB ∨ f = emptyB then emptyB else if klt e f = true then f else e
def joinS (t s : S71) : Bool := decide (t.f1 = emptyB) || !klt t.f1 s.f0
def stepU (out : List S71) (s : S71) : List S71 := match out.getLast? with
  | none => [s]
  | some t => if joinS t s = true then out.dropLast ++ [⟨t.f0, mostE t.f1 s.f1⟩] else out ++ [s]
def mergeU (l : List S71) : List S71 := l.foldl stepU []
theorem kle_trans {a b c : ByteArray} (h : klt b a = false) (g : klt c b = false) : klt c a = false := by
  cases h3 : klt c a with
  | false => rfl
  | true =>
    rcases klt_tri b a with h1 | h1 | h1
    · rw [h1] at h; cases h
    · rw [h1, h3] at g; cases g
    · have := klt_trans h3 h1; rw [this] at g; cases g
theorem klt_kle {a b c : ByteArray} (h : klt a b = true) (g : klt c b = false) : klt a c = true := by
  rcases klt_tri a c with h1 | h1 | h1
  · exact h1
  · rw [← h1, h] at g; cases g
  · have := klt_trans h1 h; rw [this] at g; cases g
theorem kle_klt {a b c : ByteArray} (h : klt b a = false) (g : klt b c = true) : klt a c = true := by
  rcases klt_tri a c with h1 | h1 | h1
  · exact h1
  · rw [← h1] at g; rw [g] at h; cases h
  · have := klt_trans g h1; rw [this] at h; cases h
theorem noneS_false {s : S71} : noneS s = false ↔ s.f1 = emptyB ∨ klt s.f0 s.f1 = true := by
  unfold noneS
  by_cases h : s.f1 = emptyB
  · simp [h]
  · cases klt s.f0 s.f1 <;> simp [h]
theorem hasS_iff (s : S71) (k : ByteArray) : hasS s k = true ↔ klt k s.f0 = false ∧ (s.f1 = emptyB ∨ klt k s.f1 = true) := by
  unfold hasS
  simp [Bool.and_eq_true, Bool.or_eq_true]
def Apart (t s : S71) : Prop := t.f1 ≠ emptyB ∧ klt t.f1 s.f0 = true
def CanonU (l : List S71) : Prop := (∀ s ∈ l, noneS s = false) ∧ l.Pairwise Apart
theorem hasS_join {t s : S71} (h0 : klt s.f0 t.f0 = false) (hj : joinS t s = true) (k : ByteArray) : hasS ⟨t.f0, mostE t.f1 s.f1⟩ k = (hasS t k || hasS s k) := by
  rw [Bool.eq_iff_iff, Bool.or_eq_true, hasS_iff, hasS_iff, hasS_iff]
  simp only
  have hj2 : t.f1 = emptyB ∨ klt t.f1 s.f0 = false := by
    unfold joinS at hj
    simpa using hj
  unfold mostE
  by_cases e1 : t.f1 = emptyB
  · rw [if_pos (.inl e1)]
    constructor
    · rintro ⟨h, _⟩; exact .inl ⟨h, .inl e1⟩
    · rintro (⟨h, _⟩ | ⟨h, _⟩)
      · exact ⟨h, .inl rfl⟩
      · exact ⟨kle_trans h0 h, .inl rfl⟩
  · have hj3 : klt t.f1 s.f0 = false := hj2.resolve_left e1
    by_cases e2 : s.f1 = emptyB
    · rw [if_pos (.inr e2)]
      constructor
      · rintro ⟨h, _⟩
        cases hk : klt k t.f1 with
        | true => exact .inl ⟨h, .inr rfl⟩
        | false => exact .inr ⟨kle_trans hj3 hk, .inl e2⟩
      · rintro (⟨h, _⟩ | ⟨h, _⟩)
        · exact ⟨h, .inl rfl⟩
        · exact ⟨kle_trans h0 h, .inl rfl⟩
    · rw [if_neg (by rintro (h | h); exact e1 h; exact e2 h)]
      cases hm : klt t.f1 s.f1 with
      | true =>
        rw [if_pos rfl]
        constructor
        · rintro ⟨h, h2⟩
          have h3 := h2.resolve_left e2
          cases hk : klt k t.f1 with
          | true => exact .inl ⟨h, .inr rfl⟩
          | false => exact .inr ⟨kle_trans hj3 hk, .inr h3⟩
        · rintro (⟨h, h2⟩ | ⟨h, h2⟩)
          · exact ⟨h, .inr (klt_trans (h2.resolve_left e1) hm)⟩
          · exact ⟨kle_trans h0 h, h2⟩
      | false =>
        rw [if_neg (by simp)]
        constructor
        · rintro ⟨h, h2⟩; exact .inl ⟨h, h2⟩
        · rintro (⟨h, h2⟩ | ⟨h, h2⟩)
          · exact ⟨h, h2⟩
          · exact ⟨kle_trans h0 h, .inr (klt_kle (h2.resolve_left e2) hm)⟩
theorem hasSs_app (a b : List S71) (k : ByteArray) : hasSs (a ++ b) k = (hasSs a k || hasSs b k) := by unfold hasSs; rw [List.any_append]
theorem hasSs_one (s : S71) (k : ByteArray) : hasSs [s] k = hasS s k := by unfold hasSs; simp
theorem step_ok {out : List S71} {s : S71} (hc : CanonU out) (hs : noneS s = false) (hf : ∀ x ∈ out, klt s.f0 x.f0 = false) :
    CanonU (stepU out s) ∧ (∀ k, hasSs (stepU out s) k = (hasSs out k || hasS s k)) ∧ (∀ x ∈ stepU out s, klt s.f0 x.f0 = false) := by
  rcases List.eq_nil_or_concat out with rfl | ⟨init, t, rfl⟩
  · refine ⟨⟨fun x hx => ?_, List.pairwise_singleton _ _⟩, fun k => ?_, fun x hx => ?_⟩
    · rw [List.mem_singleton.1 hx]; exact hs
    · show hasSs [s] k = _; rw [hasSs_one]; rfl
    · rw [List.mem_singleton.1 hx, klt_irrefl]
  · rw [List.concat_eq_append] at *
    have hst : stepU (init ++ [t]) s = if joinS t s = true then init ++ [⟨t.f0, mostE t.f1 s.f1⟩] else init ++ [t] ++ [s] := by
      unfold stepU
      simp
    have htm : t ∈ init ++ [t] := by simp
    have ht := hc.1 t htm
    have hp := List.pairwise_append.1 hc.2
    rw [hst]
    by_cases hj : joinS t s = true
    · rw [if_pos hj]
      refine ⟨⟨fun x hx => ?_, List.pairwise_append.2 ⟨hp.1, List.pairwise_singleton _ _, fun a ha b hb => ?_⟩⟩, fun k => ?_, fun x hx => ?_⟩
      · rcases List.mem_append.1 hx with hx | hx
        · exact hc.1 x (List.mem_append_left _ hx)
        · rw [List.mem_singleton.1 hx]
          rw [noneS_false] at ht ⊢
          simp only
          unfold mostE
          by_cases e : t.f1 = emptyB ∨ s.f1 = emptyB
          · rw [if_pos e]; exact .inl rfl
          · rw [if_neg e]
            have h1 := ht.resolve_left (fun h => e (.inl h))
            by_cases h2 : klt t.f1 s.f1 = true
            · rw [if_pos h2]; exact .inr (klt_trans h1 h2)
            · rw [if_neg h2]; exact .inr h1
      · rw [List.mem_singleton.1 hb]
        have := hp.2.2 a ha t (List.mem_singleton.2 rfl)
        exact this
      · rw [hasSs_app, hasSs_app, hasSs_one, hasSs_one, hasS_join (hf t htm) hj, Bool.or_assoc]
      · rcases List.mem_append.1 hx with hx | hx
        · exact hf x (List.mem_append_left _ hx)
        · rw [List.mem_singleton.1 hx]; exact hf t htm
    · rw [if_neg hj]
      have hj2 : Apart t s := by
        unfold joinS at hj
        simpa [Apart] using hj
      refine ⟨⟨fun x hx => ?_, List.pairwise_append.2 ⟨hc.2, List.pairwise_singleton _ _, fun a ha b hb => ?_⟩⟩, fun k => ?_, fun x hx => ?_⟩
      · rcases List.mem_append.1 hx with hx | hx
        · exact hc.1 x hx
        · rw [List.mem_singleton.1 hx]; exact hs
      · rw [List.mem_singleton.1 hb]
        rcases List.mem_append.1 ha with ha | ha
        · have h1 := hp.2.2 a ha t (List.mem_singleton.2 rfl)
          have h2 := (noneS_false.1 ht).resolve_left hj2.1
          exact ⟨h1.1, klt_trans h1.2 (klt_trans h2 hj2.2)⟩
        · rw [List.mem_singleton.1 ha]; exact hj2
      · rw [hasSs_app, hasSs_one]
      · rcases List.mem_append.1 hx with hx | hx
        · exact hf x hx
        · rw [List.mem_singleton.1 hx, klt_irrefl]
theorem fold_ok : ∀ (l out : List S71), CanonU out → (∀ s ∈ l, noneS s = false) → l.Pairwise (fun x y => klt y.f0 x.f0 = false) → (∀ s ∈ l, ∀ x ∈ out, klt s.f0 x.f0 = false) → CanonU (l.foldl stepU out) ∧ ∀ k, hasSs (l.foldl stepU out) k = (hasSs out k || hasSs l k)
  | [], out, hc, _, _, _ => ⟨hc, fun k => by unfold hasSs; simp⟩
  | s :: l, out, hc, hs, hp, hf => by
    obtain ⟨h1, h2, h3⟩ := step_ok hc (hs s (List.mem_cons_self ..)) (hf s (List.mem_cons_self ..))
    have hp2 := List.pairwise_cons.1 hp
    obtain ⟨g1, g2⟩ := fold_ok l (stepU out s) h1 (fun x hx => hs x (List.mem_cons_of_mem _ hx)) hp2.2 (fun y hy x hx => kle_trans (h3 x hx) (hp2.1 y hy))
    refine ⟨g1, fun k => ?_⟩
    show hasSs (l.foldl stepU (stepU out s)) k = _
    rw [g2, h2, Bool.or_assoc]
    rfl
theorem merge_ok {l : List S71} (hs : ∀ s ∈ l, noneS s = false) (hp : l.Pairwise (fun x y => klt y.f0 x.f0 = false)) : CanonU (mergeU l) ∧ ∀ k, hasSs (mergeU l) k = hasSs l k := by
  obtain ⟨h1, h2⟩ := fold_ok l [] ⟨fun x hx => (by cases hx), List.Pairwise.nil⟩ hs hp (fun s _ x hx => by cases hx)
  exact ⟨h1, fun k => by rw [show mergeU l = l.foldl stepU [] from rfl, h2]; rfl⟩
theorem canon_head {x : S71} {l : List S71} (h : CanonU (x :: l)) : hasSs (x :: l) x.f0 = true ∧ (∀ k, hasSs (x :: l) k = true → klt k x.f0 = false) ∧ (x.f1 ≠ emptyB → hasSs (x :: l) x.f1 = false) ∧ (∀ k, hasS x k = true → hasSs l k = false) := by
  have hx := noneS_false.1 (h.1 x (List.mem_cons_self ..))
  have hp := List.pairwise_cons.1 h.2
  have hl : ∀ k, (x.f1 = emptyB ∨ klt x.f1 k = false) → hasSs l k = false := fun k hk => by
    cases hh : hasSs l k with
    | false => rfl
    | true =>
      obtain ⟨y, hy, hyk⟩ := List.any_eq_true.1 hh
      have h1 := hp.1 y hy
      have h2 := ((hasS_iff y k).1 hyk).1
      rcases hk with hk | hk
      · exact absurd hk h1.1
      · have := klt_kle h1.2 h2
        rw [this] at hk; cases hk
  have hc : ∀ k, hasSs (x :: l) k = (hasS x k || hasSs l k) := fun k => rfl
  refine ⟨?_, fun k hk => ?_, fun he => ?_, fun k hk => ?_⟩
  · rw [hc, (hasS_iff x x.f0).2 ⟨klt_irrefl _, hx⟩]; rfl
  · rw [hc, Bool.or_eq_true] at hk
    rcases hk with hk | hk
    · exact ((hasS_iff x k).1 hk).1
    · obtain ⟨y, hy, hyk⟩ := List.any_eq_true.1 hk
      have h1 := hp.1 y hy
      have h2 := ((hasS_iff y k).1 hyk).1
      have h3 := hx.resolve_left h1.1
      exact klt_asymm (klt_kle (klt_trans h3 h1.2) h2)
  · rw [hc, hl _ (.inr (klt_irrefl _)), Bool.or_false]
    cases hh : hasS x x.f1 with
    | false => rfl
    | true =>
      have := ((hasS_iff x x.f1).1 hh).2.resolve_left he
      rw [klt_irrefl] at this; cases this
  · refine hl k ?_
    rcases ((hasS_iff x k).1 hk).2 with e | e
    · exact .inl e
    · exact .inr (klt_asymm e)
theorem canon_ext : ∀ {a b : List S71}, CanonU a → CanonU b → (∀ k, hasSs a k = hasSs b k) → a = b
  | [], [], _, _, _ => rfl
  | [], y :: b, _, hb, h => by have := (canon_head hb).1; rw [← h] at this; cases this
  | x :: a, [], ha, _, h => by have := (canon_head ha).1; rw [h] at this; cases this
  | x :: a, y :: b, ha, hb, h => by
    obtain ⟨a1, a2, a3, a4⟩ := canon_head ha
    obtain ⟨b1, b2, b3, b4⟩ := canon_head hb
    have hxn := noneS_false.1 (ha.1 x (List.mem_cons_self ..))
    have hyn := noneS_false.1 (hb.1 y (List.mem_cons_self ..))
    have e0 : x.f0 = y.f0 := klt_eq (b2 _ (by rw [← h]; exact a1)) (a2 _ (by rw [h]; exact b1))
    have hin : ∀ (u v : S71) (c d : List S71), u.f0 = v.f0 → (∀ k, hasSs (u :: c) k = hasSs (v :: d) k) → (v.f1 ≠ emptyB → hasSs (v :: d) v.f1 = false) → (v.f1 = emptyB ∨ klt v.f0 v.f1 = true) → v.f1 ≠ emptyB → ¬ (u.f1 = emptyB ∨ klt v.f1 u.f1 = true) := by
      intro u v c d e hh h1 h2 h3 h4
      have : hasSs (u :: c) v.f1 = true := by
        show (hasS u v.f1 || hasSs c v.f1) = true
        rw [(hasS_iff u v.f1).2 ⟨klt_asymm (by rw [e]; exact h2.resolve_left h3), h4⟩]; rfl
      rw [hh, h1 h3] at this; cases this
    have e1 : x.f1 = y.f1 := by
      by_cases ex : x.f1 = emptyB
      · by_cases ey : y.f1 = emptyB
        · rw [ex, ey]
        · exact absurd (.inl ex) (hin x y a b e0 h b3 hyn ey)
      · by_cases ey : y.f1 = emptyB
        · exact absurd (.inl ey) (hin y x b a e0.symm (fun k => (h k).symm) a3 hxn ex)
        · have g1 := hin x y a b e0 h b3 hyn ey
          have g2 := hin y x b a e0.symm (fun k => (h k).symm) a3 hxn ex
          rcases klt_tri x.f1 y.f1 with g | g | g
          · exact absurd (.inr g) g2
          · exact g
          · exact absurd (.inr g) g1
    have exy : x = y := by
      obtain ⟨p, q⟩ := x
      obtain ⟨p', q'⟩ := y
      simp only at e0 e1
      rw [e0, e1]
    subst exy
    rw [canon_ext ⟨fun s hs => ha.1 s (List.mem_cons_of_mem _ hs), (List.pairwise_cons.1 ha.2).2⟩ ⟨fun s hs => hb.1 s (List.mem_cons_of_mem _ hs), (List.pairwise_cons.1 hb.2).2⟩ fun k => ?_]
    have hk := h k
    change (hasS x k || hasSs a k) = (hasS x k || hasSs b k) at hk
    cases hx : hasS x k with
    | true => rw [a4 k hx, b4 k hx]
    | false => rw [hx] at hk; exact hk
end Go.Proofs.YtgmlenpcchhmbaaGreat.P
end
section
set_option linter.unusedVariables false
set_option linter.unusedSimpArgs false
namespace Go.Proofs.YtgmlenpcchhmbaaGreat.P
open Go.RowKit Go.Proofs.YtgmlenpcchhmbaaGreatW.PrintWords Go.Proofs.YtgmlenpcchhmbaaGreatW.PrintLast Go.Proofs.YtgmlenpcchhmbaaGreatW.PrintMore
attribute [local go_sem] max2_int min2_int max_two min_two max_three min_three max_four min_four   -- for this text's walks alone
def span_Key.f (a0 : ByteArray) : Option (Int) := if a0.toList = ([] : List UInt8) then (some 30) else (if (a0.size : Int) > 16 then (some 30) else (some 0))
set_option maxHeartbeats 8000000 in
set_option maxRecDepth 100000 in
theorem span_Key.calls (a0 : ByteArray) (r : Int) (w : World) (h : span_Key.f a0 = some r) :
  Calls Tryz.prog 103 #[.string a0] w fun e w' => e = .returned (.int .i64 r) ∧ Drawn0 w w' := by
 have H : (if a0.toList = ([] : List UInt8) then (some 30) else (if (a0.size : Int) > 16 then (some 30) else (some 0))) = some r := h
 clear h
 by_cases c2 : a0.toList = ([] : List UInt8)
 ·rw [if_pos c2] at H
  have c2b0 : (a0.toList == ([] : List UInt8)) = true := beq_iff_eq.mpr c2
  have c2b1 : (a0.toList != ([] : List UInt8)) = false := bne_eq_false_iff_eq.mpr c2
  clear c2;obtain rfl := Option.some.inj H
  go_enter Tryz.func103, Tryz.ntmps103
  go_wp2
  go_ret
  exact ⟨by first | rfl | (simp; done) | (simp [*]; done), by repeat (first | exact Drawn0.refl _ | apply Drawn0.step)⟩
 ·rw [if_neg c2] at H
  have c2b0 : (a0.toList == ([] : List UInt8)) = false := beq_eq_false_iff_ne.mpr c2
  have c2b1 : (a0.toList != ([] : List UInt8)) = true := bne_iff_ne.mpr c2
  by_cases c3 : (a0.size : Int) > 16
  ·rw [if_pos c3] at H
   have c3b0 : decide (16 < (a0.size : Int)) = true := decide_eq_true c3
   have c3b1 : decide (16 < a0.size) = true := decide_eq_true (by omega)
   clear c3;obtain rfl := Option.some.inj H
   go_enter Tryz.func103, Tryz.ntmps103
   go_wp2
   go_ret
   exact ⟨by first | rfl | (simp; done) | (simp [*]; done), by repeat (first | exact Drawn0.refl _ | apply Drawn0.step)⟩
  ·rw [if_neg c3] at H
   have c3b0 : decide (16 < (a0.size : Int)) = false := decide_eq_false c3
   have c3b1 : decide (16 < a0.size) = false := decide_eq_false (by omega)
   clear c3;obtain rfl := Option.some.inj H
   go_enter Tryz.func103, Tryz.ntmps103
   go_wp2
   go_ret
   exact ⟨by first | rfl | (simp; done) | (simp [*]; done), by repeat (first | exact Drawn0.refl _ | apply Drawn0.step)⟩
end Go.Proofs.YtgmlenpcchhmbaaGreat.P
end
section
set_option linter.unusedVariables false
set_option linter.unusedSimpArgs false
namespace Go.Proofs.YtgmlenpcchhmbaaGreat.P
open Go.RowKit Go.Proofs.YtgmlenpcchhmbaaGreatW.PrintWords Go.Proofs.YtgmlenpcchhmbaaGreatW.PrintLast Go.Proofs.YtgmlenpcchhmbaaGreatW.PrintMore
def num_Check.f (a0 : Int) : Option Int := some (if numOk a0 = true then 0 else 70)
theorem num_Check.calls (a0 : Int) (r : Int) (w : World) (h : num_Check.f a0 = some r) : Calls Tryz.prog 104 #[.int .u64 a0] w fun e w' => e = .returned (.int .i64 r) ∧ Drawn0 w w' := by
  injection h with h
  subst h
  exact (nCheck_any a0 w).mono fun e w' ⟨he, hw⟩ => ⟨he, hw ▸ Drawn0.refl _⟩
end Go.Proofs.YtgmlenpcchhmbaaGreat.P
end
