/- A map[int]bool that holds true alone: a set of whole numbers. -/
import Derived.Test.YtmljpidhhiineaaPx0
import Derived.Test.YtmljpidhhiineaaPB
import Derived.Maps.OwnOps
import Derived.Maps.OwnSet
import Derived.Shelf.SlIterI.Sorted
namespace Go.Proofs.Ytmljpidhhiineaa.P
open Go.RowKit Go.Maps Go.ChangeMaps Go.Proofs.YtmljpidhhiineaaW.PrintWords
theorem snoc_ind {α : Type} {M : List α → Prop} (h0 : M []) (h1 : ∀ l x, M l → M (l ++ [x])) (l : List α) : M l := by
  have h : ∀ r : List α, M r.reverse := fun r => by
    induction r with
    | nil => exact h0
    | cons x r ih => rw [List.reverse_cons]; exact h1 _ _ ih
  have := h l.reverse
  rwa [List.reverse_reverse] at this
def kI (x : Int) : Lit := .int .i64 x
theorem kI_key (x : Int) : WideAt.IsKeyLit (kI x) := trivial
theorem kI_inj {x y : Int} (h : kI x = kI y) : x = y := by simpa [kI] using h
theorem kI_any (N : List Int) (x : Int) : (N.map kI).any (fun y => y.sameKey (kI x)) = decide (x ∈ N) := by
  induction N with
  | nil => rfl
  | cons y N ih =>
    rw [List.map_cons, List.any_cons, ih]
    by_cases e : y = x
    · subst e
      rw [WideAt.sameKey_self (kI_key y)]
      simp
    · rw [sameKey_ne (fun h => e (kI_inj h))]
      simp [Ne.symm e]
abbrev TD := DataW Unit
def tru : TD := .lit (.bool true)
def setD (N : List Int) : TD := setOf tru (N.map kI)
theorem setD_snoc (N : List Int) (x : Int) : setD (N ++ [x]) = (setD N).put (kI x) tru := by
  unfold setD
  rw [List.map_append, List.map_cons, List.map_nil, setOf_snoc]
theorem setD_tidy (N : List Int) : Tidy (setD N) := tidy_setOf _ _ (fun x hx => by obtain ⟨y, _, rfl⟩ := List.mem_map.1 hx; exact kI_key y)
theorem setD_has (N : List Int) (x : Int) : has (setD N) (kI x) = decide (x ∈ N) := by
  unfold setD
  rw [has_setOf _ _ _ (fun x hx => by obtain ⟨y, _, rfl⟩ := List.mem_map.1 hx; exact kI_key y), kI_any]
theorem setD_at (N : List Int) (x : Int) : (setD N).atKey (kI x) (.lit (.bool false)) = .lit (.bool (decide (x ∈ N))) := by
  induction N using snoc_ind with
  | h0 => rfl
  | h1 N y ih =>
    rw [setD_snoc]
    by_cases e : x = y
    · subst e
      rw [atKey_put_same (setD_tidy N).isMap (kI_key x)]
      simp [tru]
    · rw [atKey_put_other (fun h => e (kI_inj h)), ih]
      simp [e]
theorem setD_size {N : List Int} (h : N.Nodup) : Maps.size (setD N) = N.length := by
  induction N using snoc_ind with
  | h0 => rfl
  | h1 N y ih =>
    obtain ⟨h1, _, h3⟩ := List.nodup_append.1 h
    rw [setD_snoc, size_put (setD_tidy N), setD_has, ih h1, List.length_append]
    have : y ∉ N := fun hy => h3 y hy y (by simp) rfl
    simp [this]
def wfI (x : Int) : Prop := (Lit.int .i64 x).wf = true
structure SetIs (w : World) (mb : Nat) (N : List Int) : Prop where
  own : w.ownsMap Try.prog 3 (plainElem Try.prog 4) mb N.length (setD N)
  nodup : N.Nodup
  wf : ∀ x ∈ N, wfI x
theorem own_upd_map {w w' : World} {P : Program} {k b n : Nat} {R : Value → Option (TD × List MemPlace)} {D : TD} (h : w.ownsMap P k R b n D) (he : w'.heap[b]? = w.heap[b]?) : w'.ownsMap P k R b n D := by
  obtain ⟨es, clock, hb, r⟩ := h
  exact ⟨es, clock, he.trans hb, r⟩
theorem SetIs.lt {w : World} {mb : Nat} {N : List Int} (h : SetIs w mb N) : mb < w.heap.size := h.own.lt
theorem SetIs.upd {w w' : World} {mb : Nat} {N : List Int} {S : Nat → Prop} (h : SetIs w mb N) (hu : Upd w w' S) (hs : ¬ S mb) : SetIs w' mb N := ⟨own_upd_map h.own (hu.block mb h.lt hs), h.nodup, h.wf⟩
theorem SetIs.below {w w' : World} {mb : Nat} {N : List Int} (h : SetIs w mb N) (hb : Below w.heap.size w w') : SetIs w' mb N := h.upd (Upd.of_below hb (fun _ => False)) (fun x => x)
theorem SetIs.made (w : World) : SetIs (w.alloc (.map #[] 0)) w.heap.size [] := ⟨World.ownsMap_made _ _ _ _, List.nodup_nil, fun x hx => by cases hx⟩
theorem boolE_inv {v : Value} {z : TD × List MemPlace} (h : plainElem Try.prog 4 v = some z) : ∃ b, v = .bool b ∧ z = (.lit (.bool b), []) := by
  unfold plainElem at h
  rw [Try.underlying4] at h
  cases v <;> simp at h
  exact ⟨_, rfl, h.symm⟩
theorem SetIs.look {w : World} {mb : Nat} {N : List Int} (h : SetIs w mb N) {x : Int} (hx : wfI x) : (Instr.lookup 46 (.map (some mb)) (.int .i64 x) false).run Try.prog w = .ok (.bool (decide (x ∈ N))) w := by
  obtain ⟨v, ps, hrun, hv⟩ := h.own.lookup (Maps.int_keyed Try.underlying3) Try.underlying46 (Try.zeroValue4 w) (plainElem_bool Try.underlying4 false) (Maps.keyOf_int_mk Try.underlying3 hx)
  obtain ⟨b, rfl, hb⟩ := boolE_inv hv
  have e : (setD N).atKey (Lit.int .i64 x) (.lit (.bool false)) = .lit (.bool (decide (x ∈ N))) := setD_at N x
  rw [e] at hb
  simp only [Prod.mk.injEq, DataW.lit.injEq, Lit.bool.injEq] at hb
  rw [hrun, ← hb.1]
theorem SetIs.put {w : World} {mb : Nat} {N : List Int} (h : SetIs w mb N) {x : Int} (hx : wfI x) (hn : x ∉ N) (hl : N.length < maxLen) :
    ∃ w', (Instr.mapUpdate 46 (.map (some mb)) (.int .i64 x) (.bool true)).run Try.prog w = .ok () w' ∧ SetIs w' mb (N ++ [x]) ∧ Upd w w' (· = mb) := by
  obtain ⟨w', hrun, hown, hg⟩ := h.own.update (Maps.int_keyed Try.underlying3) Try.underlying46 hl (Maps.keyOf_int_mk Try.underlying3 hx) (plainElem_bool (H := Unit) Try.underlying4 true)
  refine ⟨w', hrun, ⟨?_, ?_, ?_⟩, Upd.of_grown hg (fun k hk => by injection hk with hk; exact hk.symm)⟩
  · rw [setD_snoc, List.length_append]
    exact hown
  · rw [List.nodup_append]
    exact ⟨h.nodup, by simp, fun a ha b hb e => hn (by rw [List.mem_singleton.1 hb] at e; rw [← e]; exact ha)⟩
  · intro y hy
    rcases List.mem_append.1 hy with hy | hy
    · exact h.wf y hy
    · rw [List.mem_singleton.1 hy]; exact hx
end Go.Proofs.Ytmljpidhhiineaa.P
