/- A map[int]*T: what it holds, key by key. -/
import Derived.Test.YtnimghkkhiacfaaPB
import Derived.Test.YtnimghkkhiacfaaPx0
import Derived.Maps.OwnOps
import Derived.Maps.OwnSet
import Derived.Maps.RangeWalk
namespace Go.Proofs.Ytnimghkkhiacfaa.P
open Go.RowKit Go.Maps Go.ChangeMaps Go.Proofs.YtnimghkkhiacfaaW.PrintWords
def kI (x : Int) : Lit := .int .i64 x
theorem kI_key (x : Int) : WideAt.IsKeyLit (kI x) := trivial
theorem kI_inj {x y : Int} (h : kI x = kI y) : x = y := by simpa [kI] using h
def wfI (x : Int) : Prop := (Lit.int .i64 x).wf = true
abbrev HD := DataW Value
def heldR (v : Value) : Option (HD × List MemPlace) := some (.held v, [])
def upF {α : Type} (f : Int → Option α) (x : Int) (v : Option α) : Int → Option α := fun y => if y = x then v else f y
theorem upF_same {α : Type} (f : Int → Option α) (x : Int) (v : Option α) : upF f x v x = v := if_pos rfl
theorem upF_other {α : Type} (f : Int → Option α) {x y : Int} (v : Option α) (h : y ≠ x) : upF f x v y = f y := if_neg h
def cardF {α : Type} (f : Int → Option α) : Nat := ((List.range 1001).filter fun i : Nat => (f i).isSome).length
theorem cnt_same {p p' : Nat → Bool} {x : Nat} (h3 : ∀ y, y ≠ x → p' y = p y) : ∀ (l : List Nat), x ∉ l → l.filter p' = l.filter p
  | [], _ => rfl
  | y :: l, hx => by
    rw [List.filter_cons, List.filter_cons, h3 y (fun e => hx (e ▸ List.mem_cons_self ..)), cnt_same h3 l (fun h => hx (List.mem_cons_of_mem _ h))]
theorem cnt_up {p p' : Nat → Bool} {x : Nat} (h1 : p x = false) (h2 : p' x = true) (h3 : ∀ y, y ≠ x → p' y = p y) : ∀ (l : List Nat), l.Nodup → x ∈ l → (l.filter p').length = (l.filter p).length + 1
  | [], _, hx => by cases hx
  | y :: l, hn, hx => by
    have hn' := List.nodup_cons.1 hn
    by_cases e : y = x
    · subst e
      rw [List.filter_cons, List.filter_cons, h1, h2, cnt_same h3 l hn'.1]
      simp
    · have hl : x ∈ l := by
        rcases List.mem_cons.1 hx with h | h
        · exact absurd h.symm e
        · exact h
      have ih := cnt_up h1 h2 h3 l hn'.2 hl
      rw [List.filter_cons, List.filter_cons, h3 y e]
      split <;> simp [ih]
set_option maxRecDepth 100000 in
theorem cardF_put {α : Type} (f : Int → Option α) {x : Int} (h0 : 0 ≤ x) (h1 : x ≤ 1000) (hn : f x = none) (v : α) : cardF (upF f x (some v)) = cardF f + 1 := by
  obtain ⟨n, rfl⟩ : ∃ n : Nat, x = n := ⟨x.toNat, by omega⟩
  refine cnt_up (x := n) (by simp [hn]) (by simp [upF]) (fun y hy => ?_) _ List.nodup_range (List.mem_range.2 (by omega))
  rw [upF_other f _ (show ((y : Nat) : Int) ≠ n by omega)]
set_option maxRecDepth 100000 in
theorem cardF_del {α : Type} (f : Int → Option α) {x : Int} (h0 : 0 ≤ x) (h1 : x ≤ 1000) {v : α} (hn : f x = some v) : cardF (upF f x none) + 1 = cardF f := by
  obtain ⟨n, rfl⟩ : ∃ n : Nat, x = n := ⟨x.toNat, by omega⟩
  refine (cnt_up (x := n) (by simp [upF]) (by simp [hn]) (fun y hy => ?_) _ List.nodup_range (List.mem_range.2 (by omega))).symm
  rw [upF_other f _ (show ((y : Nat) : Int) ≠ n by omega)]
set_option maxRecDepth 100000 in
theorem cardF_le {α : Type} (f : Int → Option α) : cardF f ≤ 1001 := Nat.le_trans (List.length_filter_le _ _) (by simp)
theorem cardF_none {α : Type} : cardF (fun _ => none : Int → Option α) = 0 := by unfold cardF; simp
/-- what a datum holds, key by key. -/
def Holds (D : HD) (f : Int → Option Value) : Prop := Maps.size D = cardF f ∧ ∀ x, Maps.has D (kI x) = (f x).isSome ∧ ∀ z, D.atKey (kI x) (.held z) = .held ((f x).getD z)
def MI (w : World) (mb : Nat) (f : Int → Option Value) : Prop := ∃ D : HD, w.ownsMap Try.prog 3 heldR mb (Maps.size D) D ∧ Holds D f
theorem own_tight {w : World} {P : Program} {k b n : Nat} {R : Value → Option (HD × List MemPlace)} {D : HD} (h : w.ownsMap P k R b n D) : w.ownsMap P k R b (Maps.size D) D := by
  obtain ⟨es, clock, hb, F, hs, rfl⟩ := h
  exact ⟨es, clock, hb, F, by simp [Maps.size, length_sorted], rfl⟩
theorem own_upd_map {w w' : World} {P : Program} {k b n : Nat} {R : Value → Option (HD × List MemPlace)} {D : HD} (h : w.ownsMap P k R b n D) (he : w'.heap[b]? = w.heap[b]?) : w'.ownsMap P k R b n D := by
  obtain ⟨es, clock, hb, r⟩ := h
  exact ⟨es, clock, he.trans hb, r⟩
section
variable {w w' : World} {mb : Nat} {f : Int → Option Value}
theorem MI.lt (h : MI w mb f) : mb < w.heap.size := by obtain ⟨D, h, _⟩ := h; exact h.lt
theorem MI.upd {S : Nat → Prop} (h : MI w mb f) (hu : Upd w w' S) (hs : ¬ S mb) : MI w' mb f := by
  have hlt := h.lt
  obtain ⟨D, h, hh⟩ := h
  exact ⟨D, own_upd_map h (hu.block mb hlt hs), hh⟩
theorem MI.below (h : MI w mb f) (hb : Below w.heap.size w w') : MI w' mb f := h.upd (Upd.of_below hb (fun _ => False)) (fun x => x)
set_option maxRecDepth 100000 in
theorem MI.made (w : World) : MI (w.alloc (.map #[] 0)) w.heap.size (fun _ => none) := ⟨.map [], World.ownsMap_made _ _ _ _, by rw [cardF_none]; rfl, fun x => ⟨rfl, fun z => rfl⟩⟩
theorem MI.block (h : MI w mb f) {t : TypeId} {cs : Array Value} {g : Nat} (hb : Blk w g t cs) : g ≠ mb := by
  obtain ⟨D, ⟨es, clock, h2, _⟩, _⟩ := h
  rintro rfl
  unfold Blk at hb
  rw [hb] at h2
  cases h2
theorem int_law : Keyed Try.prog 3 := Maps.int_keyed Try.underlying3
set_option maxRecDepth 100000 in
theorem MI.look (h : MI w mb f) {x : Int} (hx : wfI x) : (Instr.lookup 62 (.map (some mb)) (.int .i64 x) true).run Try.prog w = .ok (.tuple #[(f x).getD (.pointer none), .bool (f x).isSome]) w := by
  obtain ⟨D, h, hs, hh⟩ := h
  obtain ⟨v, ps, hrun, hv⟩ := h.look_ok int_law Try.underlying62 (Try.zeroValue67 w) (zd := .held (.pointer none)) (zp := []) rfl (Maps.keyOf_int_mk Try.underlying3 hx)
  obtain ⟨h1, h2⟩ := hh x
  rw [show Lit.int .i64 x = kI x from rfl, h1] at hrun
  rw [show Lit.int .i64 x = kI x from rfl, h2] at hv
  unfold heldR at hv
  injection hv with hv
  injection hv with hv _
  injection hv with hv
  rw [hrun, hv]
set_option maxRecDepth 100000 in
theorem MI.put (h : MI w mb f) {x : Int} (hx : wfI x) (h0 : 0 ≤ x) (h1 : x ≤ 1000) (hn : f x = none) (v : Value) :
    ∃ w', (Instr.mapUpdate 62 (.map (some mb)) (.int .i64 x) v).run Try.prog w = .ok () w' ∧ MI w' mb (upF f x (some v)) ∧ Upd w w' (· = mb) := by
  obtain ⟨D, h, hs, hh⟩ := h
  have hT := h.tidy int_law
  obtain ⟨w', hrun, hown, hg⟩ := h.update int_law Try.underlying62 (by have := cardF_le f; rw [hs]; simp only [maxLen]; omega) (Maps.keyOf_int_mk Try.underlying3 hx) (d := .held v) (ps := []) (val := v) rfl
  refine ⟨w', hrun, ⟨D.put (kI x) (.held v), own_tight hown, ?_, fun y => ?_⟩, Upd.of_grown hg (fun k hk => by injection hk with hk; exact hk.symm)⟩
  · rw [Maps.size_put hT, (hh x).1, hn, cardF_put f h0 h1 hn, hs]; rfl
  · by_cases e : y = x
    · subst e
      rw [Maps.has_put_same hT.isMap (kI_key y), upF_same]
      exact ⟨rfl, fun z => by rw [Maps.atKey_put_same hT.isMap (kI_key y)]; rfl⟩
    · have hne : kI y ≠ kI x := fun h => e (kI_inj h)
      rw [Maps.has_put_other hne, upF_other f _ e]
      exact ⟨(hh y).1, fun z => by rw [Maps.atKey_put_other hne]; exact (hh y).2 z⟩
set_option maxRecDepth 100000 in
theorem MI.del (h : MI w mb f) {x : Int} (hx : wfI x) (h0 : 0 ≤ x) (h1 : x ≤ 1000) {v : Value} (hn : f x = some v) (ty : TypeId) :
    ∃ w', (Builtin.delete_ #[62, 3] ty #[.map (some mb), .int .i64 x]).run Try.prog w = .ok (.tuple #[]) w' ∧ MI w' mb (upF f x none) ∧ Upd w w' (· = mb) := by
  obtain ⟨D, h, hs, hh⟩ := h
  have hT := h.tidy int_law
  obtain ⟨w', hrun, hown, hg⟩ := h.drop int_law Try.underlying62 (Maps.keyOf_int_mk Try.underlying3 hx) ty
  refine ⟨w', hrun, ⟨D.del (kI x), own_tight hown, ?_, fun y => ?_⟩, Upd.of_grown hg.grown (fun k hk => by injection hk with hk; exact hk.symm)⟩
  · have := Maps.size_del hT (k := kI x)
    rw [(hh x).1, hn] at this
    have := cardF_del f h0 h1 hn
    simp at *
    omega
  · by_cases e : y = x
    · subst e
      rw [Maps.has_del_same, upF_same]
      exact ⟨rfl, fun z => by rw [Maps.atKey_del_same]; rfl⟩
    · have hne : kI y ≠ kI x := fun h => e (kI_inj h)
      rw [Maps.has_del_other hne, upF_other f _ e]
      exact ⟨(hh y).1, fun z => by rw [Maps.atKey_del_other hne]; exact (hh y).2 z⟩
end
end Go.Proofs.Ytnimghkkhiacfaa.P
