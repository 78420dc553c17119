/- Plain laws: lists that rise and have the same members are the same. -/
import Derived.Test.YtmljpidhhiineaaPLaw
namespace Go.Proofs.Ytmljpidhhiineaa.P
open Go.RowKit Go.Lib Go.Proofs.YtmljpidhhiineaaW.PrintWords Go.Proofs.YtmljpidhhiineaaW.PrintLast
theorem rise_ext : ∀ (X Y : List Int), X.Pairwise (· < ·) → Y.Pairwise (· < ·) → (∀ x, x ∈ X ↔ x ∈ Y) → X = Y
  | [], [], _, _, _ => rfl
  | [], y :: Y, _, _, h => by have := (h y).2 (List.mem_cons_self ..); cases this
  | x :: X, [], _, _, h => by have := (h x).1 (List.mem_cons_self ..); cases this
  | x :: X, y :: Y, hX, hY, h => by
    have hx := List.pairwise_cons.1 hX
    have hy := List.pairwise_cons.1 hY
    have e : x = y := by
      rcases List.mem_cons.1 ((h x).1 (List.mem_cons_self ..)) with e | h1
      · exact e
      · rcases List.mem_cons.1 ((h y).2 (List.mem_cons_self ..)) with e | h2
        · exact e.symm
        · have := hy.1 x h1; have := hx.1 y h2; omega
    subst e
    rw [rise_ext X Y hx.2 hy.2 (fun z => by
      constructor
      · intro hz
        rcases List.mem_cons.1 ((h z).1 (List.mem_cons_of_mem _ hz)) with e | h1
        · have := hx.1 z hz; omega
        · exact h1
      · intro hz
        rcases List.mem_cons.1 ((h z).2 (List.mem_cons_of_mem _ hz)) with e | h1
        · have := hy.1 z hz; omega
        · exact h1)]
theorem addP_nodup (all N : List Int) (x : Int) (h : N.Nodup) : (addP all N x).Nodup := by
  unfold addP
  by_cases hc : x ∉ N ∧ x ∈ all
  · rw [if_pos hc]
    refine List.nodup_append.2 ⟨h, by simp, fun a ha b hb => ?_⟩
    rw [List.mem_singleton.1 hb]
    intro e
    exact hc.1 (e ▸ ha)
  · rw [if_neg hc]; exact h
theorem addsP_nodup (all : List Int) : ∀ (a N : List Int), N.Nodup → (addsP all N a).Nodup
  | [], _, h => h
  | x :: a, N, h => addsP_nodup all a (addP all N x) (addP_nodup all N x h)
def sortP (N : List Int) : List Int := N.mergeSort fun x y => decide (x ≤ y)
theorem mem_sortP (N : List Int) (x : Int) : x ∈ sortP N ↔ x ∈ N := List.mem_mergeSort
theorem sortP_rise (N : List Int) (h : N.Nodup) : (sortP N).Pairwise (· < ·) := by
  have h1 : (sortP N).Pairwise (fun x y => decide (x ≤ y) = true) := List.pairwise_mergeSort (fun a b c h1 h2 => decide_eq_true (by have := of_decide_eq_true h1; have := of_decide_eq_true h2; omega)) (fun a b => by by_cases h : a ≤ b <;> simp [h]; omega) N
  have h2 : (sortP N).Nodup := (List.Perm.nodup_iff (List.mergeSort_perm N _)).2 h
  refine (h1.and h2).imp ?_
  intro a b hab
  have := of_decide_eq_true hab.1
  have := hab.2
  omega
theorem sortP_ext {N N' : List Int} (h : N.Nodup) (h' : N'.Nodup) (hm : ∀ x, x ∈ N ↔ x ∈ N') : sortP N = sortP N' :=
  rise_ext _ _ (sortP_rise N h) (sortP_rise N' h') (fun x => by rw [mem_sortP, mem_sortP]; exact hm x)
theorem nodesP_rise (l : List S40) (sh : List Int) : (nodesP l sh).Pairwise (· < ·) := by
  unfold nodesP
  refine List.Pairwise.map _ (fun a b (h : a < b) => by omega) ?_
  exact List.Pairwise.filter _ List.pairwise_lt_range
theorem enough_congr (l : List S40) (sh : List Int) (en : S40 → Int) {N N' : List Int} (h : ∀ x, x ∈ N ↔ x ∈ N') : (pickS l (sortC sh)).all (enoughB en N) = (pickS l (sortC sh)).all (enoughB en N') := by
  congr 1
  funext s
  rw [enough_cnt, enough_cnt, cnt_congr (fun x _ => h x)]
theorem enough_mono {shs : List S40} {en : S40 → Int} {N N' : List Int} (h : ∀ x, x ∈ N → x ∈ N') (hq : shs.all (enoughB en N) = true) : shs.all (enoughB en N') = true := by
  rw [List.all_eq_true] at hq ⊢
  intro s hs
  have := hq s hs
  rw [enough_cnt] at this ⊢
  have h1 := of_decide_eq_true this
  have h2 := cnt_mono (ns := s.f1) (fun x _ hx => h x hx)
  exact decide_eq_true (by omega)
theorem enough_le {shs : List S40} {en en' : S40 → Int} {N : List Int} (h : ∀ s ∈ shs, en' s ≤ en s) (hq : shs.all (enoughB en N) = true) : shs.all (enoughB en' N) = true := by
  rw [List.all_eq_true] at hq ⊢
  intro s hs
  have := hq s hs
  rw [enough_cnt] at this ⊢
  have h1 := of_decide_eq_true this
  have h2 := h s hs
  exact decide_eq_true (by omega)
theorem pick_ne {l : List S40} (h : Good l) (sh : List Int) : ∀ s ∈ pickS l (sortC sh), 1 ≤ s.f1.length := fun s hs => by
  obtain ⟨i, hi, ⟨h0, h1⟩, rfl⟩ := (mem_pickS l _ _).1 hs
  have := (h.s h0 h1).ne
  exact List.length_pos_iff.2 this
theorem TalX.sorted {W : World} {g mb : Nat} {shs : List S40} {all N : List Int} (h : TalX W g mb shs all N) (hN : N.length < 1000000000) : Calls Try.prog 20 #[.pointer (some ⟨g, 0, none⟩)] W fun e w' => ∃ A c, e = .returned (.slice A (sortP N).length c) ∧ (sortP N).length ≤ c ∧ Kd.C (Kd.int .i64) w' A (sortP N).length (sortP N) ∧ Below W.heap.size W w' := by
  unfold sortP
  exact h.nodes hN
end Go.Proofs.Ytmljpidhhiineaa.P
