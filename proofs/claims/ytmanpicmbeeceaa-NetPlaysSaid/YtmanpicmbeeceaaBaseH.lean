/- What is known in the world at hand, but for some blocks; bytes as a string. -/
import Derived.Test.YtmanpicmbeeceaaBaseR
import Derived.Laws.IdiomStrings
import Derived.Laws.BytesArg
import Derived.Lib.SlBytesConst
import Derived.Lib.SmallJoins
namespace Go.Proofs.Ytmanpicmbeeceaa
open Go.RowKit
open Kd (Sl)

open Classical in
noncomputable def HX (W : World) (S : Nat → Prop) : PHeap := fun k => if S k then none else W.heap[k]?
theorem hx_fits (W : World) (S : Nat → Prop) : Fits W (HX W S) := fun k o h => by
  unfold HX at h
  split at h
  · cases h
  · exact h
theorem hx_out (W : World) (S : Nat → Prop) : ∀ k, S k → HX W S k = none := fun k h => by unfold HX; rw [if_pos h]
theorem hx_cell {W : World} {S : Nat → Prop} {a : Addr} {u : Value} (h : W.cell? a = some u) (hn : ¬ S a.block) : HCell (HX W S) a u := fun w' hw => by
  have hl := World.block_lt_of_cell? W a h
  have e : w'.heap[a.block]? = W.heap[a.block]? := by
    have := hw a.block (W.heap[a.block]) (by unfold HX; rw [if_neg hn]; exact Array.getElem?_eq_getElem hl)
    rw [this, Array.getElem?_eq_getElem hl]
  exact (World.cell?_of_block (w := W) e).trans h
theorem hx_le {W : World} {S : Nat → Prop} {H : PHeap} (hF : Fits W H) (hn : ∀ k, S k → H k = none) : H.le (HX W S) := fun k o h => by
  unfold HX
  rw [if_neg (fun hs => by rw [hn k hs] at h; cases h)]
  exact hF k o h
theorem hx_reads {W : World} {S : Nat → Prop} {g : Nat} {t : TypeId} {cs : Array Value} {fr : Nat × Nat} (h : W.heap[g]? = some (.cells cs t fr)) (hn : ¬ S g) {xs : List Value} (hx : ∀ (j : Nat) (u : Value), xs[j]? = some u → cs[j]? = some u) : HReads (HX W S) (some ⟨g, 0, none⟩) xs :=
  fun _ => ⟨_, rfl, fun j u hu => by
    rw [add_plain]
    refine hx_cell ?_ hn
    rw [cell_of_row W g j cs t fr h]
    exact hx j u hu⟩
theorem run_conv_str {P : Program} {w : World} {H : PHeap} (hF : Fits w H) {v : Value} {bs : List UInt8} (h : Bys H v bs) (src dst e : TypeId) (hs : P.underlying src = some (.slice e)) (he : P.underlying e = some (.int .u8)) (hd : P.underlying dst = some .string) :
    (convert src dst v).run P w = .ok (.string ⟨bs.toArray⟩) w := by
  obtain ⟨A, c, inner, rfl, _, _, hr, hp⟩ := h
  obtain rfl := byts_of_reps hp
  rcases A with _ | ad
  · have h0 : bs = [] := by
      by_cases h : 0 < bs.length
      · obtain ⟨ad, e, _⟩ := hr (by simpa [byts_length] using h); cases e
      · exact List.eq_nil_of_length_eq_zero (by omega)
    subst h0
    exact run_convert_bytes_nil w src e hs he 0 c dst hd
  · refine run_convert_bytes_back w src dst e ad c bs hs he hd (fun j hj => ?_)
    obtain ⟨ad', e, hc⟩ := hr (by rw [byts_length]; omega)
    injection e with e
    subst e
    exact hc j _ (byts_get (List.getElem?_eq_getElem hj)) w hF
theorem sl_hx {α : Type} {d : Kd α} {W : World} {S : Nat → Prop} {g : Nat} {t : TypeId} {cs : Array Value} {fr : Nat × Nat} {xs : List α} {n c : Nat} (h : W.heap[g]? = some (.cells cs t fr)) (hn : ¬ S g)
    (he : n = xs.length) (hc : n ≤ c) (hm : c ≤ maxLen ∧ xs.length * d.by_ ≤ 140737488355328) (hr : Reps d (HX W S) xs cs.toList) : Sl d (HX W S) (.slice (some ⟨g, 0, none⟩) n c) xs := by
  subst he
  exact ⟨_, c, _, rfl, hc, hm, hx_reads h hn (fun j u hu => by simpa using hu), hr⟩
theorem reps_get1 {α : Type} {d : Kd α} (h1 : d.sz = 1) {H : PHeap} {xs : List α} {cs : List Value} (h : Reps d H xs cs) {i : Nat} {x : α} (hi : xs[i]? = some x) : ∃ u, d.R H x [u] ∧ cs[i]? = some u := by
  obtain ⟨c, hc, hl, hj⟩ := h.get hi
  rw [h1] at hl hj
  match c, hl with
  | [u], _ => exact ⟨u, hc, by simpa using hj 0 (by omega)⟩
theorem own_cell {w : World} {base e g m cap n : Nat} {xs : List Value} (h : w.ownsRow base e 1 (.slice (some ⟨g, 0, none⟩) m cap) n xs) {j : Nat} {u : Value} (hj : xs[j]? = some u) : w.cell? ⟨g, j, none⟩ = some u := by
  have := h.cells (g := g) rfl j u hj
  rwa [add_plain] at this
end Go.Proofs.Ytmanpicmbeeceaa
