/- Arguments opened, with their sizes: what reads as data reads by its kind. -/
import Derived.Test.YtnimghkkhiacfaaPB
import Derived.ProofKit
import Derived.OpenShut
import Derived.ShutString
import Derived.ChangeOld
import Derived.SizedLaws
import Derived.Deep.Slices
namespace Go.Proofs.Ytnimghkkhiacfaa.P
open Go.ChangeShapes Go.WideShapes Go.ChangeAt Go.RowKit Go.Deep Go.Proofs.YtnimghkkhiacfaaW.PrintWords
theorem add_of_add (a : Addr) (i j : Nat) : (a.add i).add j = a.add (i + j) := by
  unfold Addr.add
  by_cases hi : i = 0 <;> by_cases hj : j = 0 <;> simp [hi, hj, Nat.add_assoc]
def Opens {α : Type} (P : Program) (d : Kd α) (t : TypeId) (p : α → Prop) : Prop :=
  ∀ (H : Type) (enc : TypeId × Value → H) (W : World) (base : Nat) (spare : Nat → Bool) (held : Bool) (fuel : Nat) (cs : List Value) (x : DataW H × List MemPlace),
    DataW.trod enc P W base spare held fuel t cs = some x → (∀ n ∈ x.1.weights P t, n ≤ reachBytes) → ∃ a, d.K W a cs ∧ p a
theorem weights_all {P : Program} {H : Type} {e : TypeId} {ds : List (DataW H)} {i : Nat} {d : DataW H} (hd : ds[i]? = some d) : ∀ n ∈ d.weights P e, n ∈ DataW.weightsAll P e ds := by
  induction ds generalizing i with
  | nil => simp at hd
  | cons y ys ih =>
    intro n hn
    cases i with
    | zero => simp at hd; subst hd; exact List.mem_append_left _ hn
    | succ i => exact List.mem_append_right _ (ih (by simpa using hd) n hn)
section
variable {P : Program} {t : TypeId}
theorem opens_int {k : IntKind} (ht : P.underlying t = some (.int k)) : Opens P (Kd.int k) t (fun x => (Lit.int k x).wf = true) := fun H enc W base spare held fuel cs x h _ => by
  obtain ⟨n, rfl, _, hw⟩ := DataW.trod_int ht h
  exact ⟨n, rfl, hw⟩
theorem opens_bool (ht : P.underlying t = some .bool) : Opens P Kd.bool t (fun _ => True) := fun H enc W base spare held fuel cs x h _ => by
  obtain ⟨b, rfl, _⟩ := DataW.trod_bool ht h
  exact ⟨b, rfl, trivial⟩
theorem opens_str (ht : P.underlying t = some .string) : Opens P Kd.string t (fun s => s.size ≤ 140737488355328) := fun H enc W base spare held fuel cs x h hw => by
  obtain ⟨s, rfl, rfl, _⟩ := DataW.trod_string ht h
  have := hw s.data.toList.length (by rw [DataW.weights]; exact List.mem_singleton.2 rfl)
  refine ⟨s, rfl, ?_⟩
  have e : s.data.toList.length = s.size := by rw [Array.length_toList]; rfl
  rw [e] at this
  have hr : reachBytes ≤ 140737488355328 := by decide
  omega
theorem opens_slice {α : Type} {d : Kd α} {e : TypeId} {p : α → Prop} {by_ : Nat} (ei : Nat) (ht : P.underlying t = some (.slice e)) (hc : P.cellsOf e = d.sz) (hb : P.bytesOf e = by_) (he : Opens P d e p) : Opens P (Kd.slice ei d) t (fun xs => xs.length ≤ 9223372036854775807 ∧ xs.length * by_ ≤ 140737488355328 ∧ ∀ x ∈ xs, p x) := fun H enc W base spare held fuel cs x h hw => by
  rcases open_slice ht h with ⟨rfl, rfl⟩ | ⟨a, len, cap, m, n, D, Pl, rfl, _, hl, hm, hmm, rfl, hx⟩
  · exact ⟨[], ⟨none, 0, rfl, Nat.le_refl _, Kd.C_nil _ _⟩, by simp, by simp, by simp⟩
  · have hle : len ≤ m := by rw [hmm]; split <;> omega
    have hbound : len * by_ ≤ 140737488355328 := by
      have := hw ((len + (m - len)) * P.bytesOf e) (by simp [DataW.weights, ht])
      have hr : reachBytes ≤ 140737488355328 := by decide
      have h2 : len * by_ ≤ (len + (m - len)) * P.bytesOf e := by rw [hb]; exact Nat.mul_le_mul_right _ (by omega)
      omega
    have key : ∀ k, k ≤ len → ∃ xs : List α, xs.length = k ∧ (∀ y ∈ xs, p y) ∧ ∀ j y, xs[j]? = some y → ∃ c, c.length = d.sz ∧ d.K W y c ∧ ∀ i u, c[i]? = some u → W.cell? (a.add (j * d.sz + i)) = some u := by
      intro k
      induction k with
      | zero => intro _; exact ⟨[], rfl, by simp, fun j y hy => by simp at hy⟩
      | succ k ih =>
        intro hk
        obtain ⟨xs, hxl, hp, hi⟩ := ih (by omega)
        obtain ⟨cs', hcs, htr⟩ := hx k (by omega)
        obtain ⟨y, hy, hpy⟩ := he _ _ _ _ _ _ _ _ _ htr (fun q hq => hw q (by
          have : ((List.range len).map D)[k]? = some (D k) := by rw [List.getElem?_map, List.getElem?_range (by omega)]; rfl
          simp only [DataW.weights, ht, List.mem_cons, List.mem_append]
          exact .inr (.inl (weights_all this q hq))))
        obtain ⟨_, hcl, hcell⟩ := World.cells?_some hcs
        refine ⟨xs ++ [y], by simp [hxl], fun z hz => ?_, fun j z hz => ?_⟩
        · rcases List.mem_append.1 hz with hz | hz
          · exact hp z hz
          · rw [List.mem_singleton.1 hz]; exact hpy
        · rcases Nat.lt_or_ge j xs.length with hj | hj
          · rw [List.getElem?_append_left hj] at hz; exact hi j z hz
          · rw [List.getElem?_append_right hj] at hz
            have hj0 : j - xs.length = 0 := by have := (List.getElem?_eq_some_iff.1 hz).1; simpa using this
            rw [hj0] at hz
            simp only [List.getElem?_cons_zero, Option.some.injEq] at hz
            subst hz
            refine ⟨cs', d.K_len hy, hy, fun i u hu => ?_⟩
            have hil := (List.getElem?_eq_some_iff.1 hu).1
            have := hcell i (by omega)
            rw [hu, hc, add_of_add] at this
            rw [show j = k by omega]
            exact this
    obtain ⟨xs, hxl, hp, hi⟩ := key len (Nat.le_refl _)
    subst hxl
    have hmx : xs.length ≤ 9223372036854775807 := by have := hm; unfold maxLen at this; omega
    exact ⟨xs, ⟨some a, cap, rfl, hl, rfl, hmx, fun _ => ⟨a, rfl, hi⟩⟩, hmx, hbound, hp⟩
/-- the fields from one on. -/
def OpensF {α : Type} (P : Program) (d : Kd α) (fs : List Field) (off : Nat) (p : α → Prop) : Prop :=
  ∀ (H : Type) (enc : TypeId × Value → H) (W : World) (base : Nat) (spare : Nat → Bool) (held : Bool) (fuel : Nat) (cs : List Value) (xs : List (DataW H × List MemPlace)),
    xs.length = fs.length → (∀ (i : Nat) (f : Field), fs[i]? = some f → DataW.trod enc P W base spare held fuel f.type ((cs.drop f.offset).take (P.cellsOf f.type)) = xs[i]?) →
    (∀ n ∈ DataW.weightsEach P (fs.map (·.type)) (xs.map (·.1)), n ≤ reachBytes) → cs.length = off + d.sz → ∃ a, d.K W a (cs.drop off) ∧ p a
theorem opensF_one {α : Type} {d : Kd α} {f : Field} {off : Nat} {p : α → Prop} (ho : f.offset = off) (hc : P.cellsOf f.type = d.sz) (he : Opens P d f.type p) : OpensF P d [f] off p := fun H enc W base spare held fuel cs xs hl h hw hcs => by
  match xs, hl with
  | [x], _ =>
    have h0 := h 0 f rfl
    rw [ho, hc, List.take_of_length_le (by rw [List.length_drop]; omega)] at h0
    exact he _ _ _ _ _ _ _ _ _ h0 (fun n hn => hw n (List.mem_append_left _ hn))
theorem opensF_cons {α β : Type} {d0 : Kd α} {d1 : Kd β} {f : Field} {fs : List Field} {off : Nat} {p : α → Prop} {q : β → Prop} (ho : f.offset = off) (hc : P.cellsOf f.type = d0.sz) (he : Opens P d0 f.type p) (hr : OpensF P d1 fs (off + d0.sz) q) : OpensF P (Kd.pair d0 d1) (f :: fs) off (fun x => p x.1 ∧ q x.2) := fun H enc W base spare held fuel cs xs hl h hw hcs => by
  match xs, hl with
  | x :: xs, hl =>
    have h0 := h 0 f rfl
    rw [ho, hc] at h0
    have hcs' : cs.length = off + (d0.sz + d1.sz) := hcs
    obtain ⟨a, ha, hp⟩ := he _ _ _ _ _ _ _ _ _ h0 (fun n hn => hw n (List.mem_append_left _ hn))
    obtain ⟨b, hb, hq⟩ := hr _ enc W base spare held fuel cs xs (by simpa using hl) (fun i g hg => h (i + 1) g (by simpa using hg)) (fun n hn => hw n (List.mem_append_right _ hn)) (by omega)
    exact ⟨(a, b), ⟨_, _, by rw [← List.drop_drop]; exact (List.take_append_drop d0.sz (cs.drop off)).symm, ha, hb⟩, hp, hq⟩
theorem opens_struct {α : Type} {d : Kd α} {fs : List Field} {p : α → Prop} (ht : P.underlying t = some (.struct fs.toArray)) (hc : P.cellsOf t = d.sz) (he : OpensF P d fs 0 p) : Opens P d t p := fun H enc W base spare held fuel cs x h hw => by
  obtain ⟨xs, n, rfl, rfl, hl, hxl, hf⟩ := DataW.trod_struct ht h
  obtain ⟨a, ha⟩ := he _ enc W base spare held n cs xs (by simpa using hxl) (fun i f hf' => hf i f (by simpa using hf')) (fun q hq => hw q (by simpa [DataW.weights, ht] using hq)) (by omega)
  exact ⟨a, by simpa using ha⟩
theorem opens_iso {α β : Type} {d : Kd α} {f : β → α} {g : α → β} {p : α → Prop} (hg : ∀ a, f (g a) = a) (h : Opens P d t p) : Opens P (Kd.iso d f) t (fun b => p (f b)) := fun H enc W base spare held fuel cs x h1 hw => by
  obtain ⟨a, ha, hp⟩ := h H enc W base spare held fuel cs x h1 hw
  exact ⟨g a, by show d.K W (f (g a)) cs; rw [hg]; exact ha, by show p (f (g a)); rw [hg]; exact hp⟩
theorem opens_mono {α : Type} {d : Kd α} {p q : α → Prop} (h : Opens P d t p) (hq : ∀ a, p a → q a) : Opens P d t q := fun H enc W base spare held fuel cs x h1 hw => by
  obtain ⟨a, ha, hp⟩ := h H enc W base spare held fuel cs x h1 hw
  exact ⟨a, ha, hq a hp⟩
/-- an argument that is a slice. -/
theorem open_sl {α : Type} {d : Kd α} {ei : Nat} {p : List α → Prop} (ho : Opens P (Kd.slice ei d) t p) {H : Type} {enc : TypeId × Value → H} {W : World} {base : Nat} {spare : Nat → Bool} {held : Bool} {A : Option Addr} {n c : Nat} {y : DataW H} {q : List MemPlace}
    (h : DataW.Trod enc P W base spare held t (.slice A n c) y q) (hw : ∀ n ∈ y.weights P t, n ≤ reachBytes) : ∃ xs, n = xs.length ∧ xs.length ≤ c ∧ Kd.C d W A xs.length xs ∧ p xs := by
  obtain ⟨fuel, hf⟩ := h
  obtain ⟨xs, ⟨A', c', e, hc, hC⟩, hp⟩ := ho _ _ _ _ _ _ _ _ _ hf hw
  simp only [Value.cells] at e
  have : (Value.slice A n c) = .slice A' xs.length c' := by simpa using e
  injection this with e1 e2 e3
  subst e1 e2 e3
  exact ⟨xs, rfl, hc, hC, hp⟩
end
end Go.Proofs.Ytnimghkkhiacfaa.P
