/- A drum: what a crash leaves of a file. -/
import Derived.Test.YtnimghkkhiacfaaDIdx
namespace Go.Proofs.Ytnimghkkhiacfaa.P
open Go.RowKit Go.Maps Go.Proofs.YtnimghkkhiacfaaW.PrintWords Go.Proofs.YtnimghkkhiacfaaW.PrintLast Go.Proofs.YtnimghkkhiacfaaW.PrintMore
/-- the last of the bytes that are kept is turned in its row. -/
theorem turn_set (r : List Int) (j : Nat) (v : Int) (hj : j + 1 ≤ r.length) : (r.set j v).take (j + 1) = (r.take (j + 1)).set j v ∧ ((r.set j v).take (j + 1)).length = j + 1 := by
  refine ⟨List.take_set, ?_⟩
  rw [List.length_take, List.length_set]; omega
section
variable {w w8 w9 wf : World} {o : Nat → Int} {g mb : Nat} {F : Files} {room : Nat} {left ops : Int} {dead : Bool}
theorem crash_done (h : DrumIs w o g mb F room left dead ops) {fb : Int → Nat} (hfs : ∀ n x, F n = some x → FileAt w o n (fb n) x.1 x.2) {n : Int} (hn : 1 ≤ n ∧ n ≤ 1000) {s r ks : List Int} (hF : F n = some (s, r)) (hm : MI w mb (ptrs F fb)) {vs vr v9 : Value}
    (hBf : Blk w (fb n) 70 #[vs, vr]) (hRs : Row w vs s) (hofn : o (fb n) = n) (hos : ∀ k, vs.ownBlock = some k → o k = n ∧ k ≠ fb n) (hor : ∀ k, vr.ownBlock = some k → o k = n ∧ k ≠ fb n)
    (hu8 : Upd w w8 (fun k => k = g ∨ vr.ownBlock = some k)) (hB8 : Blk w8 g 64 #[.map (some mb), .int .i64 (room - sumF F + (r.length - ks.length)), .int .i64 left, .bool dead, .int .i64 ops]) (hks : ks.length ≤ r.length)
    (hR9 : Row w9 v9 (s ++ ks)) (hg9 : w8.grownBy w9 vs.ownBlock) (hat9 : v9.ownBlock = vs.ownBlock ∨ ∃ b, v9.ownBlock = some b ∧ w8.heap.size ≤ b)
    (hwf : (w9.setCell ⟨fb n, 0, none⟩ v9).setCell ⟨fb n, 1, none⟩ (.slice none 0 0) = wf) (hBf9 : Blk wf (fb n) 70 #[v9, .slice none 0 0]) :
    Did w wf o g mb (upF F n (some (s ++ ks, []))) room left dead ops ∧ Upd w wf (fun k => k = g ∨ o k = n) := by
  have hu9 : Upd w8 w9 (fun k => vs.ownBlock = some k) := Upd.of_grown hg9 (fun k hk => hk)
  have hu67 : Upd w9 wf (· = fb n) := hwf ▸ ((Upd.refl w9 (· = fb n)).setCell (p := ⟨fb n, 0, none⟩) (.inl rfl) v9).setCell (p := ⟨fb n, 1, none⟩) (.inl rfl) (.slice none 0 0)
  have hsf : wf.heap.size = w9.heap.size := by rw [← hwf]; simp [World.setCell]
  have hs8 := hu8.size; have hs9 := hu9.size
  have hgo : ∀ k, o k = n → k ≠ g := fun k hk e => by have := h.zg; subst e; omega
  have hmo : ∀ k, o k = n → k ≠ mb := fun k hk e => by have := h.zm; subst e; omega
  have hbf := hBf.lt
  have hvl := hR9.lt
  have hown : ∀ k, v9.ownBlock = some k → (o k = n ∨ w.heap.size ≤ k) ∧ k ≠ fb n := fun k hk => by
    rcases hat9 with e | ⟨b, e, hbb⟩
    · rw [e] at hk; exact ⟨.inl (hos k hk).1, (hos k hk).2⟩
    · rw [e] at hk
      injection hk with hk
      exact ⟨.inr (by omega), by omega⟩
  have hlo : ∀ k, o k = n ∨ w.heap.size ≤ k → k < w9.heap.size → oN w.heap.size w9.heap.size n o k = n := fun k hk hlt => by
    rcases hk with hk | hk
    · exact oN_of hk
    · exact oN_new hk hlt
  have hsum := sumF_up F (n := n) (by omega) (by omega) (some (s ++ ks, []))
  rw [hF] at hsum
  simp only [szF, List.length_append, List.length_nil, Nat.add_zero] at hsum
  have hszr := szF_le F (n := n) (by omega) (by omega)
  rw [hF] at hszr
  simp only [szF] at hszr
  have hfit := h.fit
  have hne := h.ne
  have hm8 : MI w8 mb (ptrs F fb) := hm.upd hu8 (fun e => by
    rcases e with e | e
    · exact hne e.symm
    · exact hmo _ (hor _ e).1 rfl)
  have hmf := (hm8.upd hu9 (fun e => hmo _ (hos _ e).1 rfl)).upd hu67 (fun e => hmo _ hofn e.symm)
  refine ⟨file_done h hfs hn (((hu8.mono fun k _ hk => ?_).trans (hu9.mono fun k _ hk => .inr (.inr (.inl (hos k hk).1)))).trans (hu67.mono fun k _ hk => .inr (.inr (.inl (hk ▸ hofn))))) ?_ (by omega) (by rw [ptrs_same hF]; exact hmf) ?_, ?_⟩
  · rcases hk with hk | hk
    · exact .inl hk
    · exact .inr (.inr (.inl (hor k hk).1))
  · rw [show ((room : Int) - (sumF (upF F n (some (s ++ ks, []))) : Nat)) = (room : Int) - sumF F + (r.length - ks.length) by omega]
    exact (hB8.upd hu9 (fun e => hgo _ (hos _ e).1 rfl)).upd hu67 (fun e => hgo _ hofn e.symm)
  · rw [hsf]
    exact ⟨hlo (fb n) (.inl hofn) (by omega), v9, .slice none 0 0, hBf9, hR9.upd hu67 (fun k hk e => (hown k hk).2 e), Row.nil _, fun k hk => ⟨hlo k (hown k hk).1 (hvl k hk), (hown k hk).2⟩, fun k hk => (by cases hk), fun k hk e => (by cases e)⟩
  · refine ((hu8.mono fun k _ hk => ?_).trans (hu9.mono fun k _ hk => .inr (hos k hk).1)).trans (hu67.mono fun k _ hk => .inr (hk ▸ hofn))
    rcases hk with hk | hk
    · exact .inl hk
    · exact .inr (hor k hk).1
end
end Go.Proofs.Ytnimghkkhiacfaa.P
