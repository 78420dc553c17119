/- NetPlays' walk. -/
import Derived.Test.YtmanpicmbeeceaaNetS
import Derived.Test.YtmanpicmbeeceaaNetT
import Derived.Test.YtmanpicmbeeceaaNetG
import Derived.Test.YtmanpicmbeeceaaNetH
import Derived.Deep.CutBlock
import Derived.Deep.DeepCutAuto
namespace Go.Proofs.Ytmanpicmbeeceaa
open Go.RowKit
open Kd (Sl)
structure PlayAt (w : World) (H : PHeap) (nb rb : Nat) (S : Nat → Prop) (v : Value) (M : List Lt) (T : Nat → Prop) (u : Value) (N : List Lt) (wr : World) : Prop where
  net : NetIs wr 56 58 nb S v M
  ref : NetIs wr 30 50 rb T u N
  dis : ∀ q, S q → ¬ T q
  slo : ∀ q, S q → w.heap.size ≤ q
  tlo : ∀ q, T q → w.heap.size ≤ q
  fits : Fits wr H
  dom : ∀ q, w.heap.size ≤ q → H q = none
  below : Below w.heap.size w wr
section
variable {w wr w' : World} {H : PHeap} {nb rb : Nat} {S T : Nat → Prop} {v u : Value} {M N : List Lt}
theorem PlayAt.snone (h : PlayAt w H nb rb S v M T u N wr) : ∀ q, S q → H q = none := fun q hq => h.dom q (h.slo q hq)
theorem PlayAt.tnone (h : PlayAt w H nb rb S v M T u N wr) : ∀ q, T q → H q = none := fun q hq => h.dom q (h.tlo q hq)
theorem PlayAt.upd (h : PlayAt w H nb rb S v M T u N wr) {X : Nat → Prop} (hu : Upd wr w' X) (hX : ∀ q, X q → ¬ S q ∧ ¬ T q ∧ w.heap.size ≤ q) : PlayAt w H nb rb S v M T u N w' :=
  ⟨h.net.upd hu (fun q hs hx => (hX q hx).1 hs), h.ref.upd hu (fun q hs hx => (hX q hx).2.1 hs), h.dis, h.slo, h.tlo, h.fits.upd hu (fun q hx => h.dom q (hX q hx).2.2), h.dom,
    h.below.trans (hu.below h.below.size (fun q hq hx => by have := (hX q hx).2.2; omega))⟩
theorem PlayAt.alloc (h : PlayAt w H nb rb S v M T u N wr) (o : Obj) : PlayAt w H nb rb S v M T u N (wr.alloc o) := h.upd (X := fun _ => False) ((Upd.refl wr _).alloc o) (fun _ hx => hx.elim)
theorem PlayAt.drewN (h : PlayAt w H nb rb S v M T u N wr) (n : Nat) : PlayAt w H nb rb S v M T u N (wr.drewN n) := h.upd (X := fun _ => False) ((Upd.refl wr _).drewN n) (fun _ hx => hx.elim)
theorem PlayAt.grows (h : PlayAt w H nb rb S v M T u N wr) (hb : Below wr.heap.size wr w') : PlayAt w H nb rb S v M T u N w' := h.upd (X := fun _ => False) (Upd.of_below hb _) (fun _ hx => hx.elim)
theorem PlayAt.impl (h : PlayAt w H nb rb S v M T u N wr) {S' : Nat → Prop} {v' : Value} {M' : List Lt} (hN : NetIs w' 56 58 nb S' v' M') (hx : Nx wr S w' S') : PlayAt w H nb rb S' v' M' T u N w' where
  net := hN
  ref := h.ref.upd hx.upd (fun q ht hs => h.dis q hs ht)
  dis := fun q hs ht => by
    rcases hx.new q hs with h1 | h1
    · exact h.dis q h1 ht
    · have := h.ref.slo q ht; omega
  slo := fun q hs => by
    rcases hx.new q hs with h1 | h1
    · exact h.slo q h1
    · have := h.below.size; omega
  tlo := h.tlo
  fits := (hx.out h.fits h.snone).1
  dom := h.dom
  below := h.below.trans (hx.upd.below h.below.size (fun q hq hs => by have := h.slo q hs; omega))
theorem PlayAt.refn (h : PlayAt w H nb rb S v M T u N wr) {T' : Nat → Prop} {u' : Value} {N' : List Lt} (hN : NetIs w' 30 50 rb T' u' N') (hx : Nx wr T w' T') : PlayAt w H nb rb S v M T' u' N' w' where
  net := h.net.upd hx.upd (fun q hs ht => h.dis q hs ht)
  ref := hN
  dis := fun q hs ht => by
    rcases hx.new q ht with h1 | h1
    · exact h.dis q hs h1
    · have := h.net.slo q hs; omega
  slo := h.slo
  tlo := fun q hs => by
    rcases hx.new q hs with h1 | h1
    · exact h.tlo q h1
    · have := h.below.size; omega
  fits := (hx.out h.fits h.tnone).1
  dom := h.dom
  below := h.below.trans (hx.upd.below h.below.size (fun q hq hs => by have := h.tlo q hs; omega))
theorem PlayAt.ltOk (h : PlayAt w H nb rb S v M T u N wr) {l : Lt} (hl : LtOk wr l) (hS : S l.g) {w' : World} {T' : Nat → Prop} (hx : Nx wr T w' T') : LtOk w' l := by
  obtain ⟨a, b, rest, hb⟩ := hl
  exact ⟨a, b, rest, hb.upd hx.upd (h.dis _ hS)⟩
end
def Twin (M N : List Lt) : Prop := ab M = ab N ∧ M.length ≤ 4000 ∧ ∀ l ∈ M, l.bs.length ≤ 140737488355328
theorem Twin.at_ {M N : List Lt} (h : Twin M N) {k : Nat} (hk : k < M.length) : ∃ hk' : k < N.length, N[k].bs = M[k].bs ∧ N[k].sp = M[k].sp := by
  have hl : M.length = N.length := by have := congrArg List.length h.1; rwa [ab_length, ab_length] at this
  refine ⟨by omega, ?_⟩
  have e := congrArg (·[k]?) h.1
  simp only [ab, List.getElem?_map] at e
  rw [List.getElem?_eq_getElem hk, List.getElem?_eq_getElem (by omega)] at e
  simp only [Option.map_some, Option.some.injEq, Prod.mk.injEq] at e
  exact ⟨e.1.symm, e.2.symm⟩
theorem Twin.len {M N : List Lt} (h : Twin M N) : M.length = N.length := by have := congrArg List.length h.1; rwa [ab_length, ab_length] at this
theorem ab_erase (L : List Lt) : ∀ k, ab (L.eraseIdx k) = (ab L).eraseIdx k := by
  induction L with
  | nil => intro k; rfl
  | cons a L ih =>
    intro k
    cases k with
    | zero => rfl
    | succ k => have := ih k; simp only [ab, List.eraseIdx_cons_succ, List.map_cons] at this ⊢; rw [this]
theorem Twin.erase {M N : List Lt} (h : Twin M N) (k : Nat) : Twin (M.eraseIdx k) (N.eraseIdx k) := by
  refine ⟨?_, ?_, fun l hl => h.2.2 l (List.mem_of_mem_eraseIdx hl)⟩
  · rw [ab_erase, ab_erase, h.1]
  · have := h.2.1; rw [List.length_eraseIdx]; split <;> omega
theorem Twin.snoc {M N : List Lt} (h : Twin M N) {a b : Lt} (hb : a.bs = b.bs) (hs : a.sp = b.sp) (hl : M.length < 4000) (hx : a.bs.length ≤ 140737488355328) : Twin (M ++ [a]) (N ++ [b]) := by
  refine ⟨?_, by simp; omega, fun l hl => ?_⟩
  · have e : ∀ (L : List Lt) (x : Lt), ab (L ++ [x]) = ab L ++ [(x.bs, x.sp)] := fun L x => by simp [ab]
    rw [e, e, h.1, hb, hs]
  · rcases List.mem_append.1 hl with h1 | h1
    · exact h.2.2 l h1
    · rw [List.mem_singleton.1 h1]; exact hx
theorem Twin.set_ {M N : List Lt} (h : Twin M N) (k : Nat) {a b : Lt} (hb : a.bs = b.bs) (hs : a.sp = b.sp) (hx : a.bs.length ≤ 140737488355328) : Twin (M.set k a) (N.set k b) := by
  refine ⟨?_, by rw [List.length_set]; exact h.2.1, fun l hl => ?_⟩
  · have e : ∀ (L : List Lt) (x : Lt), ab (L.set k x) = (ab L).set k (x.bs, x.sp) := fun L x => by simp [ab, List.map_set]
    rw [e, e, h.1, hb, hs]
  · rcases List.mem_or_eq_of_mem_set hl with h1 | h1
    · exact h.2.2 l h1
    · rw [h1]; exact hx
theorem Twin.sent {M N M' N' : List Lt} (h : Twin M N) {L : List (List UInt8)} (hM : ab M' = ab M ++ (L.take (4000 - M.length)).map (·, false)) (hN : ab N' = ab N ++ (L.take (min L.length (4000 - N.length))).map (·, false))
    (hL : ∀ b ∈ L, b.length ≤ 140737488355328) : Twin M' N' := by
  have e : L.take (min L.length (4000 - N.length)) = L.take (4000 - M.length) := by
    rw [h.len]
    rcases Nat.le_total L.length (4000 - N.length) with h1 | h1
    · rw [Nat.min_eq_left h1, List.take_length, List.take_of_length_le h1]
    · rw [Nat.min_eq_right h1]
  refine ⟨by rw [hM, hN, e, h.1], ?_, fun l hl => ?_⟩
  · have e := congrArg List.length hM
    rw [ab_length, List.length_append, ab_length, List.length_map, List.length_take] at e
    have := h.2.1
    omega
  · have hm : (l.bs, l.sp) ∈ ab M' := List.mem_map.2 ⟨l, hl, rfl⟩
    rw [hM] at hm
    rcases List.mem_append.1 hm with hm | hm
    · obtain ⟨l0, h0, e0⟩ := List.mem_map.1 hm
      simp only [Prod.mk.injEq] at e0
      rw [← e0.1]; exact h.2.2 l0 h0
    · obtain ⟨b, hb, e0⟩ := List.mem_map.1 hm
      simp only [Prod.mk.injEq] at e0
      rw [← e0.1]; exact hL b (List.mem_of_mem_take hb)
/-! ### what is given, and spoilt behind the call -/
def gRow (gs : List Lt) : List Value := gs.map fun l => .slice (some ⟨l.g, 0, none⟩) l.bs.length l.cap
structure Giv (wr : World) (lo : Nat) (G : Nat → Prop) (gv : Value) (gs : List Lt) : Prop where
  row : wr.ownsRow 0 34 1 gv gs.length (gRow gs)
  ok : ∀ l ∈ gs, LtOk wr l
  glo : ∀ q, G q → lo ≤ q
  gsz : ∀ q, G q → q < wr.heap.size
  grow : ∀ q, gv.ownBlock = some q → G q
  gin : ∀ l ∈ gs, G l.g
theorem Giv.upd {wr w' : World} {lo : Nat} {G X : Nat → Prop} {gv : Value} {gs : List Lt} (h : Giv wr lo G gv gs) (hu : Upd wr w' X) (hX : ∀ q, G q → ¬ X q) : Giv w' lo G gv gs where
  row := own_upd h.row hu (fun q hq => hX q (h.grow q hq))
  ok := fun l hl => by
    obtain ⟨a, b, rest, hb⟩ := h.ok l hl
    exact ⟨a, b, rest, hb.upd hu (hX _ (h.gin l hl))⟩
  glo := h.glo
  gsz := fun q hq => Nat.lt_of_lt_of_le (h.gsz q hq) hu.size
  grow := h.grow
  gin := h.gin
theorem Giv.sl {wr : World} {lo : Nat} {G S : Nat → Prop} {gv : Value} {gs : List Lt} (h : Giv wr lo G gv gs) (hd : ∀ q, G q → ¬ S q) (hb : ∀ l ∈ gs, l.bs.length ≤ 140737488355328) (hn : gs.length * 24 ≤ 140737488355328) : Sl (Kd.slice Kd.byte) (HX wr S) gv (gs.map (·.bs)) := by
  have hreps : Reps (Kd.slice Kd.byte) (HX wr S) (gs.map (·.bs)) (gRow gs) := by
    have key : ∀ L : List Lt, (∀ l ∈ L, l ∈ gs) → Reps (Kd.slice Kd.byte) (HX wr S) (L.map (·.bs)) (gRow L) := by
      intro L
      induction L with
      | nil => intro _; exact .nil
      | cons l L ih =>
        intro hL
        obtain ⟨a, b, rest, hbk⟩ := h.ok l (hL l (by simp))
        refine .cons (c := [_]) ⟨_, rfl, ?_⟩ (ih (fun x hx => hL x (by simp [hx])))
        refine ⟨_, l.cap, byts l.bs, rfl, a, ⟨b, by show l.bs.length * 1 ≤ _; have := hb l (hL l (by simp)); omega⟩, ?_, reps_byts _⟩
        refine hx_reads hbk (hd _ (h.gin l (hL l (by simp)))) (fun j u hu => ?_)
        have := (List.getElem?_eq_some_iff.1 hu).1
        simp [List.getElem?_append_left this, hu]
    exact key gs (fun _ h => h)
  rcases h.row.2 with ⟨rfl, h0⟩ | ⟨g, cap, cur, rfl, _, hg, hle, hm, hs, ht⟩
  · have hx : gs = [] := List.eq_nil_of_length_eq_zero h0
    subst hx
    exact ⟨none, 0, [], rfl, Nat.le_refl _, ⟨by unfold maxLen; omega, by simp⟩, HReads.nil_, .nil⟩
  · refine ⟨some ⟨g, 0, none⟩, cap, gRow gs, by rw [List.length_map], by rw [List.length_map]; exact hle, ⟨hm, by rw [List.length_map]; exact hn⟩, ?_, hreps⟩
    refine hx_reads hg (hd _ (h.grow g rfl)) (fun j u hu => ?_)
    have hj : j < (gRow gs).length := (List.getElem?_eq_some_iff.1 hu).1
    rw [← ht] at hu
    rw [List.getElem?_take] at hu
    split at hu
    · simpa using hu
    · cases hu
theorem Giv.push {wr w2 w3 : World} {lo : Nat} {G : Nat → Prop} {gv : Value} {gs : List Lt} (h : Giv wr lo G gv gs) (hlo : lo ≤ wr.heap.size) (hu : Upd wr w2 (fun _ => False)) {g n c : Nat} {bs : List UInt8} (hn : n = bs.length)
    (h2 : w2.ownsRow 0 5 1 (.slice (some ⟨g, 0, none⟩) n c) n (byts bs)) (hg : wr.heap.size ≤ g) {o : Obj} {g3 c3 : Nat} (hg3 : (w2.alloc o).grownBy w3 gv.ownBlock)
    (h3 : w3.ownsRow 0 34 1 (.slice (some ⟨g3, 0, none⟩) (gs.length + 1) c3) (gs.length + 1) (gRow gs ++ [.slice (some ⟨g, 0, none⟩) n c])) (hat : gv.ownBlock = some g3 ∨ g3 = w2.heap.size + 1) :
    Giv w3 lo (fun q => G q ∨ q = g ∨ q = g3) (.slice (some ⟨g3, 0, none⟩) (gs.length + 1) c3) (gs ++ [⟨g, c, bs, false⟩]) := by
  subst hn
  have hu3 : Upd w2 w3 (fun q => gv.ownBlock = some q) := ((Upd.refl w2 _).alloc o).grown hg3 (fun k hk => .inl hk)
  have hG2 := h.upd hu (fun _ _ h => h)
  have hs2 := hu.size
  have hs3 := hu3.size
  have hgl : g < w2.heap.size := own_ltb h2 g rfl
  have hgg : gv.ownBlock ≠ some g := fun e => by have := h.gsz g (h.grow g e); omega
  refine ⟨by rw [List.length_append]; simpa [gRow] using h3, fun l hl => ?_, fun q hq => ?_, fun q hq => ?_, fun q hq => ?_, fun l hl => ?_⟩
  · rcases List.mem_append.1 hl with hl | hl
    · obtain ⟨a, b, rest, hb⟩ := hG2.ok l hl
      have hne : gv.ownBlock ≠ some l.g := own_ne hG2.row hb (by decide)
      exact ⟨a, b, rest, hb.upd hu3 hne⟩
    · rw [List.mem_singleton.1 hl]
      rcases h2.2 with ⟨e, _⟩ | ⟨g', cap, cur, e, _, hb, hle, hm, hsz, ht⟩
      · cases e
      · simp only [Value.slice.injEq, Option.some.injEq, Addr.mk.injEq] at e
        obtain ⟨⟨rfl, _⟩, _, rfl⟩ := e
        refine ⟨hle, hm, cur.toList.drop bs.length, ?_⟩
        have e2 : (byts bs ++ cur.toList.drop bs.length).toArray = cur := by
          rw [← ht]
          rw [Nat.mul_one, List.take_append_drop]
        rw [e2]
        exact Blk.upd (g := g) hb hu3 hgg
  · rcases hq with hq | rfl | rfl
    · exact h.glo q hq
    · omega
    · rcases hat with e | e
      · exact h.glo _ (h.grow _ e)
      · omega
  · rcases hq with hq | rfl | rfl
    · have := h.gsz q hq; omega
    · omega
    · exact own_ltb h3 _ rfl
  · simp only [Value.ownBlock, Option.some.injEq] at hq
    exact .inr (.inr hq.symm)
  · rcases List.mem_append.1 hl with hl | hl
    · exact .inl (h.gin l hl)
    · rw [List.mem_singleton.1 hl]; exact .inr (.inl rfl)
def G8 (w : World) (g n : Nat) : Prop := ∃ cs : Array Value, Blk w g 5 cs ∧ ∀ j, j < n → ∃ b : UInt8, cs[j]? = some (byt b)
structure Mut (wr : World) (gv : Value) (gs : List Lt) : Prop where
  row : wr.ownsRow 0 34 1 gv gs.length (gRow gs)
  ok : ∀ l ∈ gs, G8 wr l.g l.bs.length
theorem Giv.mut {wr : World} {lo : Nat} {G : Nat → Prop} {gv : Value} {gs : List Lt} (h : Giv wr lo G gv gs) : Mut wr gv gs := ⟨h.row, fun l hl => by
  obtain ⟨a, b, rest, hb⟩ := h.ok l hl
  refine ⟨_, hb, fun j hj => ⟨l.bs[j], ?_⟩⟩
  have e : j < (byts l.bs).length := by rw [byts_length]; exact hj
  rw [List.getElem?_toArray, List.getElem?_append_left e]
  simp [byts, hj]⟩
theorem Mut.set_ {wr : World} {gv : Value} {gs : List Lt} (h : Mut wr gv gs) {l : Lt} (hl : l ∈ gs) {j : Nat} (hj : j < l.bs.length) (b : UInt8) : Mut (wr.setCell ⟨l.g, j, none⟩ (.int .u8 b.toNat)) gv gs := by
  obtain ⟨cs, hb, hc⟩ := h.ok l hl
  have hne : gv.ownBlock ≠ some l.g := own_ne h.row hb (by decide)
  refine ⟨own_upd h.row (S := (· = l.g)) ((Upd.refl wr (· = l.g)).setCell (p := ⟨l.g, j, none⟩) (.inl rfl) _) (fun k hk e => by subst e; exact hne hk), fun l' hl' => ?_⟩
  by_cases e : l'.g = l.g
  · obtain ⟨cs', hb', hc'⟩ := h.ok l' hl'
    rw [e] at hb' ⊢
    have hcc : cs' = cs := by
      have := hb'.symm.trans hb
      simp only [Option.some.injEq, Obj.cells.injEq] at this
      exact this.1
    subst hcc
    refine ⟨_, hb.set_ j _, fun k hk => ?_⟩
    obtain ⟨x, hx⟩ := hc j hj
    have hjs : j < cs'.size := (Array.getElem?_eq_some_iff.1 hx).1
    by_cases hkj : k = j
    · subst hkj
      exact ⟨b, by rw [Array.getElem?_setIfInBounds_self_of_lt hjs]; rfl⟩
    · obtain ⟨y, hy⟩ := hc' k hk
      exact ⟨y, by rw [Array.getElem?_setIfInBounds_ne (Ne.symm hkj)]; exact hy⟩
  · obtain ⟨cs', hb', hc'⟩ := h.ok l' hl'
    exact ⟨cs', hb'.far (p := ⟨l.g, j, none⟩) e _, hc'⟩
end Go.Proofs.Ytmanpicmbeeceaa
