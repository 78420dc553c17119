/- The plain laws of tallies: no program in sight. -/
import Derived.Test.YtmljpidhhiineaaPTwo
import Derived.WalkArith
namespace Go.Proofs.Ytmljpidhhiineaa.P
open Go.RowKit Go.Lib Go.Proofs.YtmljpidhhiineaaW.PrintWords Go.Proofs.YtmljpidhhiineaaW.PrintLast
theorem mem_cut {d : Array Int} {x : Int} : ∀ m : Nat, x ∈ compactUpTo d m ↔ ∃ j, j < m ∧ d[j]! = x
  | 0 => by simp [compactUpTo]
  | m + 1 => by
    rw [compactUpTo_succ, List.mem_append, mem_cut m]
    constructor
    · rintro (⟨j, hj, e⟩ | h)
      · exact ⟨j, by omega, e⟩
      · by_cases hk : keeps d m = true
        · rw [if_pos hk] at h
          exact ⟨m, by omega, (List.mem_singleton.1 h).symm⟩
        · rw [if_neg hk] at h
          cases h
    · rintro ⟨j, hj, e⟩
      by_cases hjm : j < m
      · exact .inl ⟨j, hjm, e⟩
      · obtain rfl : j = m := by omega
        by_cases hk : keeps d j = true
        · right; rw [if_pos hk]; exact List.mem_singleton.2 e.symm
        · left
          simp only [keeps, decide_eq_true_eq, not_or, Decidable.not_not] at hk
          exact ⟨j - 1, by omega, by rw [← hk.2]; exact e⟩
theorem mem_compacted (xs : List Int) (x : Int) : x ∈ compacted xs ↔ x ∈ xs := by
  unfold compacted
  rw [mem_cut]
  constructor
  · rintro ⟨j, hj, rfl⟩
    rw [getElem!_pos xs.toArray j (by simpa using hj)]
    simp
  · intro h
    obtain ⟨j, hj, e⟩ := List.mem_iff_getElem.1 h
    exact ⟨j, hj, by rw [getElem!_pos xs.toArray j (by simpa using hj)]; simpa using e⟩
theorem mem_sortC (sh : List Int) (x : Int) : x ∈ sortC sh ↔ x ∈ sh := by
  unfold sortC
  rw [mem_compacted, List.mem_mergeSort]
theorem mem_pickS (l : List S40) (cs : List Int) (s : S40) : s ∈ pickS l cs ↔ ∃ i ∈ cs, (0 ≤ i ∧ i < l.length) ∧ Go.Proofs.Ytmljpidhhiineaa.P.rd_T40 l i = s := by
  unfold pickS
  simp only [List.mem_map, List.mem_filter, Bool.and_eq_true, decide_eq_true_eq]
  constructor
  · rintro ⟨i, ⟨h1, h2, h3⟩, rfl⟩; exact ⟨i, h1, ⟨h2, h3⟩, rfl⟩
  · rintro ⟨i, h1, ⟨h2, h3⟩, rfl⟩; exact ⟨i, ⟨h1, h2, h3⟩, rfl⟩
/-- the shards of a tally: those of its places. -/
theorem all_pick (l : List S40) (sh : List Int) (p : S40 → Bool) : (pickS l (sortC sh)).all p = true ↔ ∀ i ∈ sh, 0 ≤ i → i < l.length → p (Go.Proofs.Ytmljpidhhiineaa.P.rd_T40 l i) = true := by
  rw [List.all_eq_true]
  constructor
  · intro h i hi h0 h1
    exact h _ ((mem_pickS l _ _).2 ⟨i, (mem_sortC sh i).2 hi, ⟨h0, h1⟩, rfl⟩)
  · intro h s hs
    obtain ⟨i, hi, ⟨h0, h1⟩, rfl⟩ := (mem_pickS l _ _).1 hs
    exact h i ((mem_sortC sh i).1 hi) h0 h1
theorem mem_nodesP (l : List S40) (sh : List Int) (x : Int) : x ∈ nodesP l sh ↔ (1 ≤ x ∧ x ≤ 7) ∧ ∃ i ∈ sh, 0 ≤ i ∧ i < l.length ∧ x ∈ (Go.Proofs.Ytmljpidhhiineaa.P.rd_T40 l i).f1 := by
  unfold nodesP
  simp only [List.mem_map, List.mem_filter, List.mem_range, hasN, Bool.and_eq_true, decide_eq_true_eq, List.any_eq_true, shB, List.contains_iff_mem]
  constructor
  · rintro ⟨n, ⟨h1, h2, i, hi, ⟨h3, h4⟩, h5⟩, rfl⟩
    exact ⟨by omega, i, hi, h3, h4, h5⟩
  · rintro ⟨⟨h1, h2⟩, i, hi, h3, h4, h5⟩
    exact ⟨x.toNat, ⟨by omega, by omega, i, hi, ⟨h3, h4⟩, by rw [Int.toNat_of_nonneg (by omega)]; exact h5⟩, by omega⟩
theorem nodesP_le (l : List S40) (sh : List Int) : (nodesP l sh).length ≤ 8 := by
  unfold nodesP
  rw [List.length_map]
  exact Nat.le_trans (List.length_filter_le _ _) (by simp)
theorem wf_small {x : Int} (h0 : -1000 ≤ x) (h1 : x ≤ 1000) : wfI x := WalkArith.wf_i64 (by omega)
theorem nodup_le {ns : List Int} (hn : ns.Pairwise (· < ·)) (hr : ∀ n ∈ ns, 1 ≤ n ∧ n ≤ 7) : ns.length ≤ 8 := by
  have h : ∀ (ns : List Int) (a : Int), ns.Pairwise (· < ·) → (∀ n ∈ ns, a < n ∧ n ≤ 7) → a ≤ 7 → (ns.length : Int) ≤ 7 - a := by
    intro ns
    induction ns with
    | nil => intro a _ _ ha; simp; omega
    | cons x ns ih =>
      intro a hp hb ha
      have hx := hb x (List.mem_cons_self ..)
      have := ih x (List.pairwise_cons.1 hp).2 (fun n hn => ⟨(List.pairwise_cons.1 hp).1 n hn, (hb n (List.mem_cons_of_mem _ hn)).2⟩) hx.2
      simp only [List.length_cons]
      omega
  have := h ns 0 hn (fun n hm => ⟨by have := (hr n hm).1; omega, (hr n hm).2⟩) (by omega)
  omega
theorem Good.s {l : List S40} (h : Good l) {i : Int} (h0 : 0 ≤ i) (h1 : i < l.length) : GoodS (Go.Proofs.Ytmljpidhhiineaa.P.rd_T40 l i) := h.2 _ (rd_mem l i h0 h1)
theorem Good.flen {l : List S40} (h : Good l) {s : S40} (hs : s ∈ l) : s.f1.length ≤ 8 := nodup_le (h.2 s hs).sorted (h.2 s hs).range
theorem good2 {l : List S40} (h : Good l) (sh : List Int) : Good2 (pickS l (sortC sh)) (nodesP l sh) := by
  have hm : ∀ s ∈ pickS l (sortC sh), s ∈ l := fun s hs => by
    obtain ⟨i, hi, ⟨h0, h1⟩, rfl⟩ := (mem_pickS l _ _).1 hs
    exact rd_mem l i h0 h1
  refine ⟨fun s hs x hx => ?_, fun s hs => ?_, fun x hx => ?_, ?_⟩
  · have := (h.2 s (hm s hs)).range x hx
    exact wf_small (by omega) (by omega)
  · have := h.flen (hm s hs)
    omega
  · have := ((mem_nodesP l sh x).1 hx).1
    exact wf_small (by omega) (by omega)
  · have := nodesP_le l sh
    omega
/-- how many of a shard's nodes have answered. -/
theorem enough_cnt (en : S40 → Int) (N : List Int) (s : S40) : enoughB en N s = decide (en s ≤ (cntP N s.f1 : Int)) := rfl
theorem cnt_mono {N N' ns : List Int} (h : ∀ x ∈ ns, x ∈ N → x ∈ N') : cntP N ns ≤ cntP N' ns := by
  induction ns with
  | nil => simp [cntP]
  | cons a ns ih =>
    have ih := ih (fun x hx => h x (List.mem_cons_of_mem _ hx))
    have ha := h a (List.mem_cons_self ..)
    unfold cntP at *
    by_cases h1 : a ∈ N
    · have h2 := ha h1
      simp [h1, h2]; omega
    · by_cases h2 : a ∈ N' <;> simp [h1, h2] <;> omega
theorem cnt_congr {N N' ns : List Int} (h : ∀ x ∈ ns, x ∈ N ↔ x ∈ N') : cntP N ns = cntP N' ns :=
  Nat.le_antisymm (cnt_mono fun x hx => (h x hx).1) (cnt_mono fun x hx => (h x hx).2)
/-- two that are more than the half meet. -/
theorem cnt_meet {N N' ns : List Int} (h : ns.length < cntP N ns + cntP N' ns) : ∃ x ∈ ns, x ∈ N ∧ x ∈ N' := by
  induction ns with
  | nil => simp [cntP] at h
  | cons a ns ih =>
    by_cases h1 : a ∈ N
    · by_cases h2 : a ∈ N'
      · exact ⟨a, List.mem_cons_self .., h1, h2⟩
      · have : ns.length < cntP N ns + cntP N' ns := by
          unfold cntP at *
          simp [h1, h2] at h
          omega
        obtain ⟨x, hx, h3⟩ := ih this
        exact ⟨x, List.mem_cons_of_mem _ hx, h3⟩
    · have : ns.length < cntP N ns + cntP N' ns := by
        unfold cntP at *
        by_cases h2 : a ∈ N' <;> simp [h1, h2] at h <;> omega
      obtain ⟨x, hx, h3⟩ := ih this
      exact ⟨x, List.mem_cons_of_mem _ hx, h3⟩
theorem cnt_all {N ns : List Int} : ns.length ≤ cntP N ns ↔ ∀ x ∈ ns, x ∈ N := by
  unfold cntP
  constructor
  · intro h x hx
    have := (List.length_filter_eq_length_iff (p := fun x => decide (x ∈ N)) (l := ns)).1 (Nat.le_antisymm (List.length_filter_le _ _) h) x hx
    simpa using this
  · intro h
    rw [(List.length_filter_eq_length_iff).2 (fun x hx => by simpa using h x hx)]
    exact Nat.le_refl _
end Go.Proofs.Ytmljpidhhiineaa.P
