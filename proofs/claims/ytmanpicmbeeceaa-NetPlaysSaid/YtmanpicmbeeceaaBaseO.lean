/- Arguments opened: what reads as data reads by its kind. -/
import Derived.Test.YtmanpicmbeeceaaBaseH
import Derived.ProofKit
import Derived.OpenShut
import Derived.ShutString
import Derived.ChangeOld
import Derived.SizedLaws
import Derived.Deep.Slices
namespace Go.Proofs.Ytmanpicmbeeceaa
open Go.ChangeShapes Go.WideShapes Go.ChangeAt Go.RowKit Go.Deep
open Kd (Sl)

/-- all that is there. -/
def allH (W : World) : PHeap := fun k => W.heap[k]?
theorem allH_fits (W : World) : Fits W (allH W) := fun _ _ h => h
theorem allH_cell {W : World} {a : Addr} {u : Value} (h : W.cell? a = some u) : HCell (allH W) a u := fun w' hw => by
  have hl := World.block_lt_of_cell? W a h
  have e : w'.heap[a.block]? = W.heap[a.block]? := by
    have := hw a.block (W.heap[a.block]) (Array.getElem?_eq_getElem hl)
    rw [this, Array.getElem?_eq_getElem hl]
  exact (World.cell?_of_block (w := W) e).trans h
def Opens {α : Type} (P : Program) (d : Kd α) (t : TypeId) : Prop :=
  ∀ (H : Type) (enc : TypeId × Value → H) (W : World) (base : Nat) (spare : Nat → Bool) (held : Bool) (fuel : Nat) (cs : List Value) (x : DataW H × List MemPlace),
    DataW.trod enc P W base spare held fuel t cs = some x → (∀ n ∈ x.1.weights P t, n ≤ reachBytes) → ∃ a, d.R (allH W) a cs
section
variable {P : Program} {t : TypeId}
theorem opens_int {k : IntKind} (ht : P.underlying t = some (.int k)) : Opens P (Kd.int k) t := fun H enc W base spare held fuel cs x h _ => by
  obtain ⟨n, rfl, _, hw⟩ := DataW.trod_int ht h
  exact ⟨n, rfl, hw⟩
theorem opens_bool (ht : P.underlying t = some .bool) : Opens P Kd.bool t := fun H enc W base spare held fuel cs x h _ => by
  obtain ⟨b, rfl, _⟩ := DataW.trod_bool ht h
  exact ⟨b, rfl⟩
theorem opens_byte (ht : P.underlying t = some (.int .u8)) : Opens P Kd.byte t := fun H enc W base spare held fuel cs x h _ => by
  obtain ⟨n, rfl, _, hw⟩ := DataW.trod_int ht h
  have hb := bounds_u8 hw
  refine ⟨UInt8.ofNat n.toNat, ?_⟩
  show [Value.int .u8 n] = [.int .u8 ((UInt8.ofNat n.toNat).toNat : Int)]
  rw [UInt8.toNat_ofNat_of_lt' (by show n.toNat < 256; omega), Int.toNat_of_nonneg hb.1]
theorem opens_str (ht : P.underlying t = some .string) : Opens P Kd.str t := fun H enc W base spare held fuel cs x h hw => by
  obtain ⟨s, rfl, rfl, _⟩ := DataW.trod_string ht h
  have := hw s.data.toList.length (by rw [DataW.weights]; exact List.mem_singleton.2 rfl)
  refine ⟨s, rfl, ?_⟩
  have e : s.data.toList.length = s.size := by rw [Array.length_toList]; rfl
  rw [e] at this
  have hr : reachBytes ≤ 140737488355328 := by decide
  omega
theorem weights_all {H : Type} {e : TypeId} {ds : List (DataW H)} {i : Nat} {d : DataW H} (hd : ds[i]? = some d) : ∀ n ∈ d.weights P e, n ∈ DataW.weightsAll P e ds := by
  induction ds generalizing i with
  | nil => simp at hd
  | cons y ys ih =>
    intro n hn
    cases i with
    | zero => simp at hd; subst hd; exact List.mem_append_left _ hn
    | succ i => exact List.mem_append_right _ (ih (by simpa using hd) n hn)
theorem opens_slice {α : Type} {d : Kd α} {e : TypeId} (ht : P.underlying t = some (.slice e)) (hc : P.cellsOf e = d.sz) (hb : P.bytesOf e = d.by_) (he : Opens P d e) : Opens P (Kd.slice d) t := fun H enc W base spare held fuel cs x h hw => by
  rcases open_slice ht h with ⟨rfl, rfl⟩ | ⟨a, len, cap, m, n, D, Pl, rfl, _, hl, hm, hmm, rfl, hx⟩
  · exact ⟨[], _, rfl, none, 0, [], rfl, Nat.le_refl _, ⟨by unfold maxLen; omega, by simp⟩, HReads.nil_, .nil⟩
  · have hle : len ≤ m := by rw [hmm]; split <;> omega
    have hbound : len * d.by_ ≤ 140737488355328 := by
      have := hw ((len + (m - len)) * P.bytesOf e) (by simp [DataW.weights, ht])
      have hr : reachBytes ≤ 140737488355328 := by decide
      have h2 : len * d.by_ ≤ (len + (m - len)) * P.bytesOf e := by rw [hb]; exact Nat.mul_le_mul_right _ (by omega)
      omega
    have key : ∀ k, k ≤ len → ∃ xs inner, xs.length = k ∧ Reps d (allH W) xs inner ∧ ∀ j u, inner[j]? = some u → HCell (allH W) (a.add j) u := by
      intro k
      induction k with
      | zero => intro _; exact ⟨[], [], rfl, .nil, fun j u hu => by simp at hu⟩
      | succ k ih =>
        intro hk
        obtain ⟨xs, inner, hxl, hr, hi⟩ := ih (by omega)
        obtain ⟨cs', hcs, htr⟩ := hx k (by omega)
        obtain ⟨y, hy⟩ := he _ _ _ _ _ _ _ _ _ htr (fun q hq => hw q (by
          have : ((List.range len).map D)[k]? = some (D k) := by rw [List.getElem?_map, List.getElem?_range (by omega)]; rfl
          simp only [DataW.weights, ht, List.mem_cons, List.mem_append]
          exact .inr (.inl (weights_all this q hq))))
        obtain ⟨_, hcl, hcell⟩ := World.cells?_some hcs
        refine ⟨xs ++ [y], inner ++ cs', by simp [hxl], hr.snoc hy, fun j u hu => ?_⟩
        have hil : inner.length = k * d.sz := by rw [hr.length, hxl]
        rcases Nat.lt_or_ge j inner.length with hj | hj
        · rw [List.getElem?_append_left hj] at hu; exact hi j u hu
        · rw [List.getElem?_append_right hj] at hu
          have hjl := (List.getElem?_eq_some_iff.1 hu).1
          have := hcell (j - inner.length) (by omega)
          rw [hu, hc, add_of_add, ← hil, show inner.length + (j - inner.length) = j from by omega] at this
          exact allH_cell this
    obtain ⟨xs, inner, hxl, hr, hi⟩ := key len (Nat.le_refl _)
    subst hxl
    exact ⟨xs, _, rfl, some a, cap, inner, rfl, hl, ⟨hm, hbound⟩, fun _ => ⟨a, rfl, hi⟩, hr⟩
/-- the fields from one on. -/
def OpensF {α : Type} (P : Program) (d : Kd α) (fs : List Field) (off : Nat) : Prop :=
  ∀ (H : Type) (enc : TypeId × Value → H) (W : World) (base : Nat) (spare : Nat → Bool) (held : Bool) (fuel : Nat) (cs : List Value) (xs : List (DataW H × List MemPlace)),
    xs.length = fs.length → (∀ (i : Nat) (f : Field), fs[i]? = some f → DataW.trod enc P W base spare held fuel f.type ((cs.drop f.offset).take (P.cellsOf f.type)) = xs[i]?) →
    (∀ n ∈ DataW.weightsEach P (fs.map (·.type)) (xs.map (·.1)), n ≤ reachBytes) → cs.length = off + d.sz → ∃ a, d.R (allH W) a (cs.drop off)
theorem opensF_one {α : Type} {d : Kd α} {f : Field} {off : Nat} (ho : f.offset = off) (hc : P.cellsOf f.type = d.sz) (he : Opens P d f.type) : OpensF P d [f] off := fun H enc W base spare held fuel cs xs hl h hw hcs => by
  match xs, hl with
  | [x], _ =>
    have h0 := h 0 f rfl
    rw [ho, hc, List.take_of_length_le (by rw [List.length_drop]; omega)] at h0
    exact he _ _ _ _ _ _ _ _ _ h0 (fun n hn => hw n (List.mem_append_left _ hn))
theorem opensF_cons {α β : Type} {d0 : Kd α} {d1 : Kd β} {f : Field} {fs : List Field} {off : Nat} (ho : f.offset = off) (hc : P.cellsOf f.type = d0.sz) (he : Opens P d0 f.type) (hr : OpensF P d1 fs (off + d0.sz)) : OpensF P (Kd.pair d0 d1) (f :: fs) off := fun H enc W base spare held fuel cs xs hl h hw hcs => by
  match xs, hl with
  | x :: xs, hl =>
    have h0 := h 0 f rfl
    rw [ho, hc] at h0
    have hcs' : cs.length = off + (d0.sz + d1.sz) := hcs
    obtain ⟨a, ha⟩ := he _ _ _ _ _ _ _ _ _ h0 (fun n hn => hw n (List.mem_append_left _ hn))
    obtain ⟨b, hb⟩ := hr _ enc W base spare held fuel cs xs (by simpa using hl) (fun i g hg => h (i + 1) g (by simpa using hg)) (fun n hn => hw n (List.mem_append_right _ hn)) (by omega)
    exact ⟨(a, b), _, _, by rw [← List.drop_drop]; exact (List.take_append_drop d0.sz (cs.drop off)).symm, ha, hb⟩
theorem opens_struct {α : Type} {d : Kd α} {fs : List Field} (ht : P.underlying t = some (.struct fs.toArray)) (hc : P.cellsOf t = d.sz) (he : OpensF P d fs 0) : Opens P d t := fun H enc W base spare held fuel cs x h hw => by
  obtain ⟨xs, n, rfl, rfl, hl, hxl, hf⟩ := DataW.trod_struct ht h
  obtain ⟨a, ha⟩ := he _ enc W base spare held n cs xs (by simpa using hxl) (fun i f hf' => hf i f (by simpa using hf')) (fun q hq => hw q (by simpa [DataW.weights, ht] using hq)) (by omega)
  exact ⟨a, by simpa using ha⟩
theorem opens_iso {α : Type} {d : Kd α} {b : Nat} (h : Opens P d t) : Opens P (Kd.iso d (id : α → α) b) t := fun H enc W base spare held fuel cs x h1 h2 => h H enc W base spare held fuel cs x h1 h2
/-- an argument that is a slice. -/
theorem open_sl {α : Type} {d : Kd α} (ho : Opens P (Kd.slice d) t) {H : Type} {enc : TypeId × Value → H} {W : World} {base : Nat} {spare : Nat → Bool} {held : Bool} {A : Option Addr} {n c : Nat} {y : DataW H} {p : List MemPlace}
    (h : DataW.Trod enc P W base spare held t (.slice A n c) y p) (hw : ∀ n ∈ y.weights P t, n ≤ reachBytes) : ∃ xs, Sl d (allH W) (.slice A n c) xs := by
  obtain ⟨fuel, hf⟩ := h
  obtain ⟨xs, v, e, hs⟩ := ho _ _ _ _ _ _ _ _ _ hf hw
  simp only [Value.cells] at e
  have : v = .slice A n c := by simpa using e.symm
  subst this
  exact ⟨xs, hs⟩
end
end Go.Proofs.Ytmanpicmbeeceaa
