/- what the claim's row stands on, part 10. -/
import Derived.Test.YtaedlmeaconflaaGreatZm2
import Derived.Test.YtaedlmeaconflaaGreatZm5
import Derived.Test.YtaedlmeaconflaaGreatZm6
import Derived.Test.YtaedlmeaconflaaGreatZm4
import Derived.Test.YtaedlmeaconflaaGreatZm9
import Derived.Test.YtaedlmeaconflaaGreatZm3
import Derived.Test.YtaedlmeaconflaaGreatZm8
section
set_option linter.unusedVariables false
set_option linter.unusedSimpArgs false
namespace Go.Proofs.YtaedlmeaconflaaGreat.P
open Go.RowKit Go.Proofs.YtaedlmeaconflaaGreatW.PrintWords Go.Proofs.YtaedlmeaconflaaGreatW.PrintLast Go.Proofs.YtaedlmeaconflaaGreatW.PrintMore
attribute [local go_sem] max2_int min2_int max_two min_two max_three min_three max_four min_four   -- for this text's walks alone
set_option linter.unusedVariables false
set_option linter.unusedSimpArgs false
end Go.Proofs.YtaedlmeaconflaaGreat.P
end
section
set_option linter.unusedVariables false
set_option linter.unusedSimpArgs false
namespace Go.Proofs.YtaedlmeaconflaaGreat.P
open Go.RowKit Go.Sort Go.Shelf Go.Proofs.YtaedlmeaconflaaGreatW.PrintWords Go.Proofs.YtaedlmeaconflaaGreatW.PrintLast Go.Proofs.YtaedlmeaconflaaGreatW.PrintMore
theorem mem_mapD {F : List S41 → List S41} {d : List S26} {y : S26} : y ∈ mapD F d ↔ ∃ x ∈ d, y = ⟨x.f0, F x.f1⟩ := by
  unfold mapD; rw [List.mem_map]
  constructor
  · rintro ⟨x, h, e⟩; exact ⟨x, h, e.symm⟩
  · rintro ⟨x, h, e⟩; exact ⟨x, h, e.symm⟩
theorem Good.map {d : List S26} {n : Nat} (h : Good d n) (p : S41 → Bool) : Good (mapD (·.filter p) d) n := by
  refine ⟨⟨?_, fun y hy => ?_, fun y hy => ?_⟩, by unfold mapD; rw [List.length_map]; exact h.len, fun y hy s hs => ?_, ?_⟩
  · unfold mapD; rw [List.pairwise_map]; exact h.shards
  · obtain ⟨x, hx, rfl⟩ := mem_mapD.1 hy; exact h.low x hx
  · obtain ⟨x, hx, rfl⟩ := mem_mapD.1 hy; exact (h.asc x hx).filter p
  · obtain ⟨x, hx, rfl⟩ := mem_mapD.1 hy; exact h.is x hx s ((List.mem_filter.1 hs).1)
  · refine Nat.le_trans ?_ h.all
    clear h
    induction d with
    | nil => simp [mapD, allD]
    | cons x d ih =>
      have e : (allD (x :: d)).length = x.f1.length + (allD d).length := by unfold allD; rw [List.flatMap_cons, List.length_append]
      have e2 : (allD (mapD (·.filter p) (x :: d))).length = (x.f1.filter p).length + (allD (mapD (·.filter p) d)).length := by unfold allD mapD; rw [List.map_cons, List.flatMap_cons, List.length_append]
      have := List.length_filter_le p x.f1
      omega
theorem Good.one {d : List S26} {n : Nat} (h : Good d n) {x : S26} (hx : x ∈ d) : x.f1.length ≤ n := Nat.le_trans (len_allD hx) h.all
theorem below_f {d : List S26} {n : Nat} (h : Good d n) (hn : n ≤ 1000000) (a b : Int) : deps_Below.f d a b = some (mapD (·.filter (lessS ⟨a, b⟩)) d) := by
  unfold deps_Below.f
  have := h.len
  exact if_pos ⟨by omega, fun x hx => by have := h.one hx; omega, fun x hx => (riseB_iff _).2 (h.asc x hx)⟩
theorem dsame_f {d : List S26} {n : Nat} (h : Good d n) (hn : n ≤ 1000000) (e : List S26) : deps_Same.f d e = some (decide (d = e)) := by
  unfold deps_Same.f
  exact if_pos fun x hx => by have := h.one hx; omega
theorem Good.ev_all {d : List S26} {n : Nat} (h : Good d n) (hn : n ≤ 1000000) : Ev (fun k => deps_All.f k d) (setS (allD d)) := P.ev_all d (by have := h.len; omega) (by have := h.all; omega)
end Go.Proofs.YtaedlmeaconflaaGreat.P
end
section
set_option linter.unusedVariables false
set_option linter.unusedSimpArgs false
namespace Go.Proofs.YtaedlmeaconflaaGreat.P
open Go.RowKit Go.Sort Go.Shelf Go.Proofs.YtaedlmeaconflaaGreatW.PrintWords Go.Proofs.YtaedlmeaconflaaGreatW.PrintLast Go.Proofs.YtaedlmeaconflaaGreatW.PrintMore
theorem cmp64_f (a b : Int) : cmp_Compare_int64.f a b = some (cmpZ a b) := by
  unfold cmp_Compare_int64.f cmp_isNaN_int64.f cmpZ
  simp only [bne_self_eq_false, Option.bind_some]
  by_cases h1 : a < b
  · simp [h1]
  · by_cases h2 : b < a
    · simp [h1, h2]
    · simp [h1, h2]
theorem cmpI_f (a b : Int) : cmp_Compare_int.f a b = some (cmpZ a b) := by
  unfold cmp_Compare_int.f cmp_isNaN_int.f cmpZ
  simp only [bne_self_eq_false, Option.bind_some]
  by_cases h1 : a < b
  · simp [h1]
  · by_cases h2 : b < a
    · simp [h1, h2]
    · simp [h1, h2]
theorem ev_or (a b : Int) : Ev (fun k => cmp_Or_int.f k [a, b]) (if a = 0 then b else a) := by
  unfold cmp_Or_int.f
  refine Ev.succ ?_
  simp only [cmp_Or_int.l0]
  refine Ev.yes (by simp) (Ev.yes (by omega) (Ev.yes (by simp) ?_))
  refine Ev.cond (fun h => ?_) (fun h => ?_)
  · have h0 : a = 0 := h
    rw [if_pos h0]
    refine Ev.succ ?_
    simp only [cmp_Or_int.l0]
    refine Ev.yes (by simp [wrap64]) (Ev.yes (by simp [wrap64]) (Ev.yes (by simp [wrap64]) ?_))
    have e : rd [a, b] (wrap64 (0 + 1)) = b := by rw [show wrap64 (0 + 1) = 1 by unfold wrap64; omega]; rfl
    rw [e]
    refine Ev.cond (fun h1 => ?_) (fun h1 => Ev.some _)
    refine Ev.succ ?_
    simp only [cmp_Or_int.l0]
    exact Ev.no (by simp [wrap64]) ((Ev.some _).eq h1.symm)
  · have h0 : ¬ a = 0 := h
    rw [if_neg h0]
    exact Ev.some _
theorem ev_cmp (x y : S41) : Ev (fun k => stamp_Compare.f k x.f0 x.f1 y.f0 y.f1) (cmpS x y) := by
  unfold stamp_Compare.f
  exact Ev.bind1 (cmp64_f _ _) (Ev.bind1 (cmpI_f _ _) (Ev.bind (ev_or _ _) (Ev.some _)))
theorem scheck_f (s : S41) : stamp_Check.f s.f0 s.f1 = some (if isS s = true then 0 else 10) := by
  unfold stamp_Check.f stamp_isNode.f isS
  by_cases h1 : s.f1 ≥ 1
  · rw [if_pos h1]
    simp only [Option.bind_some]
    by_cases h2 : s.f1 ≤ 7
    · rw [if_pos (decide_eq_true h2)]
      by_cases h3 : s.f0 < 1
      · rw [if_pos h3, if_neg (by simp; omega)]
      · rw [if_neg h3]
        by_cases h4 : s.f0 > 1099511627776
        · rw [if_pos h4, if_neg (by simp; omega)]
        · rw [if_neg h4, if_pos (by simp; omega)]
    · rw [if_neg (by simp; omega), if_neg (by simp; omega)]
  · rw [if_neg h1]
    simp only [Option.bind_some]
    rw [if_neg (by decide), if_neg (by simp; omega)]
def ascFrom (l : List S41) (j : Nat) : Prop := ∀ t, j ≤ t → 0 < t → (h : t < l.length) → cmpS (l[t - 1]'(by omega)) l[t] < 0
theorem asc_adj (l : List S41) : Asc l ↔ ascFrom l 0 := by
  constructor
  · intro h t _ h0 ht
    exact List.pairwise_iff_getElem.1 h (t - 1) t (by omega) ht (by omega)
  · intro h
    refine List.pairwise_iff_getElem.2 fun i j hi hj hij => ?_
    induction j with
    | zero => omega
    | succ j ih =>
      have h1 := h (j + 1) (Nat.zero_le _) (by omega) hj
      simp only [Nat.add_sub_cancel] at h1
      rcases Nat.eq_or_lt_of_le (Nat.le_of_lt_succ hij) with e | e
      · subst e; exact h1
      · exact cmpS_tr (ih (by omega) e) h1
theorem ascFrom_step {l : List S41} {j : Nat} (hj : j < l.length) : ascFrom l j ↔ (0 < j → cmpS (l[j - 1]'(by omega)) l[j] < 0) ∧ ascFrom l (j + 1) :=
  ⟨fun h => ⟨fun h0 => h j (Nat.le_refl _) h0 hj, fun t h1 h2 h3 => h t (by omega) h2 h3⟩, fun ⟨h, k⟩ t h1 h2 h3 => by
    rcases Nat.eq_or_lt_of_le h1 with rfl | h4
    · exact h h2
    · exact k t h4 h2 h3⟩
theorem ev_d2 (d : List S26) (a : Int) (l : List S41) (hl : l.length ≤ 9223372036854775807) (n i : Int) (p : Prop) (hn : Ev (fun k => deps_Check.l1 k a d n (wrap64 (i + 1))) (r60 p)) :
    ∀ (m j : Nat), j + m = l.length → Ev (fun k => deps_Check.l2 k a d n i l (l.length : Int) (j : Int) a l) (r60 ((∀ s ∈ l.drop j, isS s = true) ∧ ascFrom l j ∧ p))
  | 0, j, h => by
    refine Ev.succ ?_
    simp only [deps_Check.l2]
    refine Ev.no (by omega) (hn.eq (r60_eq ?_))
    rw [List.drop_eq_nil_of_le (show l.length ≤ j by omega)]
    exact ⟨fun k => ⟨fun s hs => by simp at hs, fun t h1 _ h3 => by omega, k⟩, fun k => k.2.2⟩
  | m + 1, j, h => by
    have hj : j < l.length := by omega
    have ih := ev_d2 d a l hl n i p hn m (j + 1) (by omega)
    have hsp : (isS l[j] = true ∧ (0 < j → cmpS (l[j - 1]'(by omega)) l[j] < 0)) → (((∀ s ∈ l.drop (j + 1), isS s = true) ∧ ascFrom l (j + 1) ∧ p) ↔ ((∀ s ∈ l.drop j, isS s = true) ∧ ascFrom l j ∧ p)) := fun ⟨h1, h2⟩ => by
      rw [List.drop_eq_getElem_cons hj, ascFrom_step hj]
      simp only [List.mem_cons, forall_eq_or_imp]
      exact ⟨fun ⟨k1, k2, k3⟩ => ⟨⟨h1, k1⟩, ⟨h2, k2⟩, k3⟩, fun ⟨k1, k2, k3⟩ => ⟨k1.2, k2.2, k3⟩⟩
    refine Ev.succ ?_
    simp only [deps_Check.l2]
    rw [rdS_nat l hj, w64_succ (n := j) (by omega), scheck_f]
    refine Ev.yes (by omega) (Ev.yes (by omega) (Ev.yes (by omega) (Ev.bind1 rfl ?_)))
    by_cases h1 : isS l[j] = true
    · rw [if_pos h1]
      refine Ev.yes rfl ?_
      refine Ev.cond (fun h2 => ?_) (fun h2 => ?_)
      · have e : wrap64 ((j : Int) - 1) = ((j - 1 : Nat) : Int) := by rw [w64_of (by omega) (by omega)]; omega
        rw [e, rdS_nat l (show j - 1 < l.length by omega)]
        refine Ev.yes (by omega) (Ev.yes (by omega) (Ev.bind (ev_cmp _ _) ?_))
        refine Ev.cond (fun h3 => ?_) (fun h3 => ?_)
        · refine (Ev.some _).eq (r60_no fun k => ?_).symm
          have := k.2.1 j (Nat.le_refl _) (by omega) hj
          omega
        · exact ih.eq (r60_eq (hsp ⟨h1, fun _ => by omega⟩))
      · exact ih.eq (r60_eq (hsp ⟨h1, fun h0 => by omega⟩))
    · rw [if_neg h1]
      refine Ev.no (by decide) ((Ev.some _).eq (r60_no fun k => h1 ?_).symm)
      exact k.1 _ (by rw [List.drop_eq_getElem_cons hj]; exact List.mem_cons_self ..)
theorem ev_d1 (d : List S26) (hk : ∀ x ∈ d, x.f1.length ≤ 9223372036854775807) (hd : d.length ≤ 9223372036854775807) : ∀ (m i : Nat) (last : Int), i + m = d.length → (i = 0 ∧ last = -1 ∨ 0 < i ∧ 0 ≤ last ∧ ∃ y, d[i - 1]? = some y ∧ y.f0 = last) → Ev (fun k => deps_Check.l1 k last d (d.length : Int) (i : Int)) (r60 (tailOk d i))
  | 0, i, last, h, _ => by
    refine Ev.succ ?_
    simp only [deps_Check.l1]
    exact Ev.no (by omega) ((Ev.some _).eq (r60_yes (fun j h1 h2 => by omega)).symm)
  | m + 1, i, last, h, hla => by
    have hi : i < d.length := by omega
    have hg : d[i]? = some d[i] := List.getElem?_eq_getElem hi
    have hx : ∀ x, d[i]? = some x → x = d[i] := fun x e => by rw [hg] at e; exact (Option.some.inj e).symm
    have hbad : ¬ okAt d i → Ev (fun k => deps_Check.j3 k d (d.length : Int) (i : Int) true d[i].f0 d[i].f1) (r60 (tailOk d i)) := fun hb => by
      refine Ev.succ ?_
      simp only [deps_Check.j3]
      exact Ev.yes trivial ((Ev.some _).eq (r60_no (fun k => hb ((tailOk_step hi).1 k).1)).symm)
    refine Ev.succ ?_
    simp only [deps_Check.l1]
    rw [rdD_nat d hi]
    refine Ev.yes (by omega) (Ev.yes (by omega) (Ev.yes (by omega) ?_))
    refine Ev.cond (fun h1 => hbad ?_) (fun h1 => ?_)
    · rintro ⟨x, e, k0, _, k, _⟩
      rw [hx x e] at k0 k
      rcases hla with ⟨_, rfl⟩ | ⟨h0, _, y, hy, rfl⟩
      · omega
      · have := k y h0 hy; omega
    by_cases h2 : d[i].f0 ≥ 8
    · rw [decide_eq_true h2]
      refine hbad ?_
      rintro ⟨x, e, _, k, _⟩
      rw [hx x e] at k
      omega
    · rw [decide_eq_false h2]
      refine Ev.succ ?_
      simp only [deps_Check.j3]
      have hp : 0 ≤ d[i].f0 := by rcases hla with ⟨_, rfl⟩ | ⟨h0, h3, _⟩ <;> omega
      have hn := ev_d1 d hk hd m (i + 1) d[i].f0 (by omega) (.inr ⟨by omega, hp, d[i], by simp [hg], rfl⟩)
      rw [← w64_succ (n := i) (by omega)] at hn
      have h2' := ev_d2 d d[i].f0 d[i].f1 (hk _ (List.getElem_mem hi)) (d.length : Int) (i : Int) _ hn d[i].f1.length 0 (by omega)
      refine Ev.no (by decide) (h2'.eq (r60_eq ?_))
      rw [tailOk_step hi, ← asc_adj, List.drop_zero]
      constructor
      · rintro ⟨k1, k2, k3⟩
        refine ⟨⟨_, hg, hp, by omega, fun y h0 hy => ?_, k2, k1⟩, k3⟩
        rcases hla with ⟨h3, _⟩ | ⟨_, _, z, hz, rfl⟩
        · omega
        · rw [hz] at hy; injection hy with hy; rw [← hy]; omega
      · rintro ⟨⟨x, e, _, _, _, k2, k1⟩, k3⟩
        rw [hx x e] at k1 k2
        exact ⟨k1, k2, k3⟩
theorem ev_dsum (d : List S26) (hd : d.length ≤ 9223372036854775807) (r : Int) (hr : Ev (fun k => if (d.length : Int) > 8 then (deps_Check.j1 k d true) else (deps_Check.j1 k d (decide (wsum d > 512)))) r) : ∀ (m i : Nat), i + m = d.length → Ev (fun k => deps_Check.l0 k d (wsum (d.take i)) d (d.length : Int) (i : Int)) r
  | 0, i, h => by
    refine Ev.succ ?_
    simp only [deps_Check.l0]
    rw [List.take_of_length_le (show d.length ≤ i by omega)]
    exact Ev.no (by omega) hr
  | m + 1, i, h => by
    have hi : i < d.length := by omega
    refine Ev.succ ?_
    simp only [deps_Check.l0]
    refine Ev.yes (by omega) (Ev.yes (by omega) (Ev.yes (by omega) ?_))
    rw [rdD_nat d hi, w64_succ (by omega), ← foldl_take hi]
    exact ev_dsum d hd r hr m (i + 1) (by omega)
theorem ev_dcheck (d : List S26) (hk : ∀ x ∈ d, x.f1.length ≤ 9223372036854775807) (hd : d.length ≤ 9223372036854775807) : Ev (fun k => deps_Check.f k d) (chkD d) := by
  unfold deps_Check.f
  have hbig : (8 < d.length ∨ 512 < wsum d) → Ev (fun k => deps_Check.j1 k d true) (chkD d) := fun h => by
    refine Ev.succ ?_
    simp only [deps_Check.j1]
    exact Ev.yes trivial ((Ev.some _).eq (by unfold chkD; rw [if_pos h]))
  refine ev_dsum d hd _ ?_ d.length 0 (by omega)
  refine Ev.cond (fun h => hbig (.inl (by omega))) (fun h => ?_)
  by_cases h5 : wsum d > 512
  · rw [decide_eq_true h5]; exact hbig (.inr h5)
  · rw [decide_eq_false h5]
    refine Ev.succ ?_
    simp only [deps_Check.j1]
    refine Ev.no (by decide) ((ev_d1 d hk hd d.length 0 (-1) (by omega) (.inl ⟨rfl, rfl⟩)).eq ?_)
    unfold chkD
    rw [if_neg (by omega)]
def inI (x : Int) : Prop := -9223372036854775808 ≤ x ∧ x ≤ 9223372036854775807
def inS (s : S41) : Prop := inI s.f0 ∧ inI s.f1
structure InD (x : S26) : Prop where
  sh : inI x.f0
  len : x.f1.length ≤ 9223372036854775807
  ids : ∀ s ∈ x.f1, inS s
end Go.Proofs.YtaedlmeaconflaaGreat.P
end
section
set_option linter.unusedVariables false
set_option linter.unusedSimpArgs false
namespace Go.Proofs.YtaedlmeaconflaaGreat.P
open Go.RowKit Go.Sort Go.Shelf Go.Proofs.YtaedlmeaconflaaGreatW.PrintWords Go.Proofs.YtaedlmeaconflaaGreatW.PrintLast Go.Proofs.YtaedlmeaconflaaGreatW.PrintMore
def chkB (d : List S26) : Bool := decide (d.length ≤ 8 ∧ wsum d ≤ 512 ∧ (d.Pairwise fun x y => x.f0 < y.f0) ∧ ∀ x ∈ d, 0 ≤ x.f0 ∧ x.f0 < 8 ∧ Asc x.f1 ∧ ∀ s ∈ x.f1, isS s = true)
theorem chkB_iff (d : List S26) : chkB d = true ↔ chkD d = 0 := by
  unfold chkB
  rw [decide_eq_true_eq]
  constructor
  · rintro ⟨h1, h2, h3, h4⟩
    unfold chkD
    rw [if_neg (by omega)]
    refine r60_yes fun j _ hj => ?_
    obtain ⟨k1, k2, k3, k4⟩ := h4 d[j] (List.getElem_mem hj)
    refine ⟨d[j], List.getElem?_eq_getElem hj, k1, k2, fun y h0 hy => ?_, k3, k4⟩
    rw [List.getElem?_eq_getElem (show j - 1 < d.length by omega)] at hy
    rw [← Option.some.inj hy]
    exact List.pairwise_iff_getElem.1 h3 (j - 1) j (by omega) hj (by omega)
  · intro h
    obtain ⟨hg, hw⟩ := good_of h
    unfold chkD at h
    split at h
    · cases h
    · exact ⟨hg.len, by omega, hg.shards, fun x hx => ⟨(hg.low x hx).1, (hg.low x hx).2, hg.asc x hx, hg.is x hx⟩⟩
instance (b : List Int) : Decidable (bytesOk b) := inferInstanceAs (Decidable (∀ x ∈ b, 0 ≤ x ∧ x < 256))
end Go.Proofs.YtaedlmeaconflaaGreat.P
end
section
set_option linter.unusedVariables false
set_option linter.unusedSimpArgs false
namespace Go.Proofs.YtaedlmeaconflaaGreat.P
def idxP {α : Type} (p : α → Bool) (xs : List α) : Int := match xs.findIdx? p with | some i => (i : Int) | none => -1
theorem idxP_hit {α : Type} {p : α → Bool} {xs : List α} {k : Nat} (hk : k < xs.length) (h : ∀ j (hj : j < xs.length), j < k → p xs[j] = false) (ht : p xs[k] = true) : idxP p xs = k := by
  unfold idxP
  have : xs.findIdx? p = some k := by
    rw [List.findIdx?_eq_some_iff_getElem]
    exact ⟨hk, ht, fun j hj => by simpa using h j (by omega) hj⟩
  rw [this]
theorem idxP_none {α : Type} {p : α → Bool} {xs : List α} (h : ∀ j (hj : j < xs.length), p xs[j] = false) : idxP p xs = -1 := by
  unfold idxP
  have : xs.findIdx? p = none := by
    rw [List.findIdx?_eq_none_iff]
    intro x hx
    obtain ⟨j, hj, rfl⟩ := List.getElem_of_mem hx
    exact h j hj
  rw [this]
structure DelInv {α : Type} (p : α → Bool) (xs ys : List α) (i j : Nat) : Prop where
  len : ys.length = xs.length
  lt : i < j
  le : j ≤ xs.length
  low : ys.take i = (xs.take j).filter (fun x => !p x)
  high : ys.drop j = xs.drop j
theorem DelInv.start {α : Type} {p : α → Bool} {xs : List α} {k : Nat} (hk : k < xs.length) (h : ∀ j (hj : j < xs.length), j < k → p xs[j] = false) (ht : p xs[k] = true) : DelInv p xs xs k (k + 1) where
  len := rfl
  lt := Nat.lt_succ_self _
  le := hk
  low := by
    rw [List.take_succ_eq_append_getElem hk, List.filter_append, List.filter_cons_of_neg (by simp [ht]), List.filter_nil, List.append_nil, List.filter_eq_self.2]
    intro x hx
    obtain ⟨j, hj, rfl⟩ := List.getElem_of_mem hx
    rw [List.length_take] at hj
    rw [List.getElem_take]
    simp [h j (by omega) (by omega)]
  high := rfl
theorem DelInv.get {α : Type} {p : α → Bool} {xs ys : List α} {i j : Nat} (h : DelInv p xs ys i j) (hj : j < xs.length) : ys[j]'(by rw [h.len]; exact hj) = xs[j] := by
  have h1 : (ys.drop j)[0]? = (xs.drop j)[0]? := by rw [h.high]
  rw [List.getElem?_drop, List.getElem?_drop, Nat.add_zero, List.getElem?_eq_getElem (by rw [h.len]; exact hj), List.getElem?_eq_getElem hj] at h1
  exact Option.some.inj h1
theorem DelInv.skip {α : Type} {p : α → Bool} {xs ys : List α} {i j : Nat} (h : DelInv p xs ys i j) (hj : j < xs.length) (hp : p xs[j] = true) : DelInv p xs ys i (j + 1) where
  len := h.len
  lt := Nat.lt_succ_of_lt h.lt
  le := hj
  low := by rw [h.low, List.take_succ_eq_append_getElem hj, List.filter_append, List.filter_cons_of_neg (by simp [hp]), List.filter_nil, List.append_nil]
  high := by rw [← List.drop_drop, h.high, List.drop_drop]
theorem DelInv.keep {α : Type} {p : α → Bool} {xs ys : List α} {i j : Nat} (h : DelInv p xs ys i j) (hj : j < xs.length) (hp : p xs[j] = false) : DelInv p xs (ys.set i xs[j]) (i + 1) (j + 1) where
  len := by rw [List.length_set]; exact h.len
  lt := Nat.succ_lt_succ h.lt
  le := hj
  low := by
    have hi : i < (ys.set i xs[j]).length := by rw [List.length_set, h.len]; have := h.lt; omega
    rw [List.take_succ_eq_append_getElem hi, List.getElem_set_self, List.take_set_of_le (Nat.le_refl _), h.low, List.take_succ_eq_append_getElem hj, List.filter_append, List.filter_cons_of_pos (by simp [hp]), List.filter_nil]
  high := by
    rw [List.drop_set_of_lt (by have := h.lt; omega), ← List.drop_drop, h.high, List.drop_drop]
theorem DelInv.done {α : Type} {p : α → Bool} {xs ys : List α} {i : Nat} (h : DelInv p xs ys i xs.length) : ys.take i = xs.filter (fun x => !p x) := by
  rw [h.low, List.take_length]
theorem DelInv.size {α : Type} {p : α → Bool} {xs ys : List α} {i : Nat} (h : DelInv p xs ys i xs.length) : (xs.filter (fun x => !p x)).length = i := by
  rw [← h.done, List.length_take, h.len]; have := h.lt; omega
end Go.Proofs.YtaedlmeaconflaaGreat.P
end
section
set_option linter.unusedVariables false
set_option linter.unusedSimpArgs false
namespace Go.Proofs.YtaedlmeaconflaaGreat.P
open Go.RowKit Go.Shelf Go.Proofs.YtaedlmeaconflaaGreatW.PrintWords Go.Proofs.YtaedlmeaconflaaGreatW.PrintLast Go.Proofs.YtaedlmeaconflaaGreatW.PrintMore
set_option maxHeartbeats 1000000 in
theorem idxS_any (g : Nat) (fst lb : Array Value) (p : S41 → Bool) (eg : ∀ args w, (callFunc g args).run Tryz.prog w = .ok (.enter g args) w) (base blk cap : Nat) (xs : List (S41)) (w : World)
    (hown : RowS w base (.slice (some ⟨blk, 0, none⟩) xs.length cap) xs) (hm : xs.length ≤ cap ∧ cap ≤ 9223372036854775807)
    (hp : ∀ (W : World) (s : S41), s ∈ xs → Below w.heap.size w W → Calls Tryz.prog g (fst ++ #[.agg #[.int .i64 s.f0, .int .i64 s.f1]] ++ lb) W fun e w' => e = .returned (.bool (p s)) ∧ Below W.heap.size W w') :
    Calls Tryz.prog 102 #[.slice (some ⟨blk, 0, none⟩) xs.length cap, .func (.func g) fst lb] w fun e w' => e = .returned (.int .i64 (idxP p xs)) ∧ Below w.heap.size w w' := by
  obtain ⟨hm1, hm2⟩ := hm
  have HR := Lib.hid hown; clear hown
  have HP := Lib.hid hp; clear hp
  go_enter Tryz.func102, Tryz.ntmps102
  go_wp2
  go_loopw [5, 8] (fun _ i wr => ∃ k : Nat, i = .int .i64 k ∧ k ≤ xs.length ∧ Below w.heap.size w wr ∧ RowKit.Hid (∀ j (hj : j < xs.length), j < k → p xs[j] = false)) (fun _ i _ => xs.length - (intOf i).toNat)
  case atStart => exact ⟨0, rfl, Nat.zero_le _, Below.refl _ _, Lib.hid (fun j _ h => absurd h (Nat.not_lt_zero _))⟩
  case round =>
    obtain ⟨k, rfl, hk, hB, HN⟩ := hrel
    by_cases hlt : k < xs.length
    · obtain ⟨x0, x1, _, _⟩ := RowS.at_ (pw_own_below HR.out hB) k xs[k] (List.getElem?_eq_getElem hlt)
      have hc := HP.out wr xs[k] (List.getElem_mem hlt) hB
      generalize hu : xs[k] = u at *
      have HU := Lib.hid hu; clear hu
      cases hq : p u with
      | true =>
        rw [hq] at hc
        have HQ := Lib.hid hq; clear hq
        go_wp2_with (go_at_fn g; refine hc.mono ?_; rintro e w' ⟨rfl, hb⟩)
        go_ret
        refine ⟨?_, hB.trans (hb.mono hB.size)⟩
        rw [idxP_hit hlt HN.out (by rw [HU.out]; exact HQ.out)]
        rfl
      | false =>
        rw [hq] at hc
        have HQ := Lib.hid hq; clear hq
        go_wp2_with (go_at_fn g; refine hc.mono ?_; rintro e w' ⟨rfl, hb⟩)
        go_roundw
        case rel => exact ⟨k + 1, by go_num, by omega, hB.trans (hb.mono hB.size), Lib.hid (fun j hj h => by
          by_cases e : j = k
          · subst e; rw [HU.out]; exact HQ.out
          · exact HN.out j hj (by omega))⟩
        case measure => simp [intOf]; omega
    · obtain rfl : k = xs.length := by omega
      go_wp2
      go_ret
      refine ⟨?_, hB⟩
      rw [idxP_none (fun j hj => HN.out j hj (by omega))]
      rfl
set_option maxHeartbeats 4000000 in
set_option maxRecDepth 100000 in
theorem delS_any (g : Nat) (fst lb : Array Value) (p : S41 → Bool) (eg : ∀ args w, (callFunc g args).run Tryz.prog w = .ok (.enter g args) w) (base blk cap : Nat) (xs : List (S41)) (w : World)
    (hown : RowS w base (.slice (some ⟨blk, 0, none⟩) xs.length cap) xs)
    (hp : ∀ (W : World) (s : S41), s ∈ xs → Upd w W (· = blk) → Calls Tryz.prog g (fst ++ #[.agg #[.int .i64 s.f0, .int .i64 s.f1]] ++ lb) W fun e w' => e = .returned (.bool (p s)) ∧ Below W.heap.size W w') :
    Calls Tryz.prog 70 #[.slice (some ⟨blk, 0, none⟩) xs.length cap, .func (.func g) fst lb] w fun e w' =>
      e = .returned (.slice (some ⟨blk, 0, none⟩) (xs.filter fun x => !p x).length cap) ∧ RowS w' base (.slice (some ⟨blk, 0, none⟩) (xs.filter fun x => !p x).length cap) (xs.filter fun x => !p x) ∧ Upd w w' (· = blk) := by
  have hcap : xs.length ≤ cap ∧ cap ≤ 9223372036854775807 := by
    rcases hown.2 with ⟨h, _⟩ | ⟨g', cap', cur, h, _, _, h1, h2, _⟩
    · cases h
    · injection h with _ _ h
      subst h
      exact ⟨h1, by simpa [maxLen] using h2⟩
  have hidx := idxS_any g fst lb p eg base blk cap xs w hown hcap (fun W x hx hb => hp W x hx (Upd.of_below hb _))
  obtain ⟨hcap1, hcap2⟩ := hcap
  have HO := Lib.hid hown
  have HP := Lib.hid hp; clear hp
  by_cases hall : ∀ j (hj : j < xs.length), p xs[j] = false
  · rw [idxP_none hall] at hidx
    have hf : (xs.filter fun x => !p x) = xs := List.filter_eq_self.2 (fun x hx => by
      obtain ⟨j, hj, rfl⟩ := List.getElem_of_mem hx
      simp [hall j hj])
    rw [hf]
    clear hf hall hown
    go_enter Tryz.func70, Tryz.ntmps70
    go_wp2_with (go_at_call 102; refine hidx.mono ?_; rintro e w' ⟨rfl, hb⟩)
    go_ret
    exact ⟨rfl, pw_own_below HO.out hb, Upd.of_below hb _⟩
  · obtain ⟨k, hk, ht, hlow⟩ : ∃ k, ∃ hk : k < xs.length, p xs[k] = true ∧ ∀ j (hj : j < xs.length), j < k → p xs[j] = false := by
      cases hf : xs.findIdx? p with
      | none =>
        rw [List.findIdx?_eq_none_iff] at hf
        exact absurd (fun j hj => hf _ (List.getElem_mem hj)) hall
      | some k =>
        rw [List.findIdx?_eq_some_iff_getElem] at hf
        obtain ⟨hk, ht, h⟩ := hf
        exact ⟨k, hk, ht, fun j _ hj => by simpa using h j hj⟩
    rw [idxP_hit hk hlow ht] at hidx
    have HI := Lib.hid (DelInv.start hk hlow ht)
    clear hall hlow ht hown
    have hne : ((k : Int) == -1) = false := beq_eq_false_iff_ne.2 (by omega)
    go_enter Tryz.func70, Tryz.ntmps70
    go_wp2_with (go_at_call 102; refine hidx.mono ?_; rintro e w' ⟨rfl, hb⟩)
    go_loopw [5, 6, 7] (fun si sj _ wr => ∃ (i j : Nat) (ys : List (S41)), si = .int .i64 i ∧ sj = .int .i64 j ∧ i < j ∧ j ≤ xs.length ∧ RowKit.Hid (DelInv p xs ys i j) ∧ RowKit.Hid (RowS wr base (.slice (some ⟨blk, 0, none⟩) xs.length cap) ys ∧ Upd w wr (· = blk))) (fun _ j _ _ => xs.length - (intOf j).toNat)
    case atStart => exact ⟨k, k + 1, xs, rfl, by go_num, by omega, by omega, HI, Lib.hid ⟨pw_own_below HO.out hb, Upd.of_below hb _⟩⟩
    case round =>
      obtain ⟨i, j, ys, rfl, rfl, hij, hj, HD, HS⟩ := hrel
      have hyl := HD.out.len
      by_cases hlt : j < xs.length
      · have hget := HD.out.get hlt
        obtain ⟨x0, x1, _, _⟩ := RowS.at_ HS.out.1 j xs[j] (by rw [List.getElem?_eq_getElem (by omega), hget])
        obtain ⟨z', hz'⟩ : ∃ z', ys[i]? = some z' := ⟨_, List.getElem?_eq_getElem (by omega)⟩
        obtain ⟨c0, c1, q0, q1⟩ := RowS.at_ HS.out.1 i z' hz'
        have hblk : blk < wr.heap.size := (World.ownsRow.lt HS.out.1 blk rfl).2
        have hc := fun W (h : Below wr.heap.size wr W) => HP.out W xs[j] (List.getElem_mem hlt) (HS.out.2.then_below h)
        have hx : RowKit.Hid (∀ q, p xs[j] = q → DelInv p xs (if q then ys else ys.set i xs[j]) (if q then i else i + 1) (j + 1)) := Lib.hid (fun q hq => by
          cases q with
          | true => exact HD.out.skip hlt hq
          | false => exact HD.out.keep hlt hq)
        clear hget hyl hz'
        generalize xs[j] = s at *
        obtain ⟨q, hq⟩ : ∃ q, p s = q := ⟨_, rfl⟩
        rw [hq] at hc
        have HC := Lib.hid hc; clear hc
        have HQ := Lib.hid hq; clear hq
        cases q with
        | true =>
          have HSK := Lib.hid (hx.out true HQ.out)
          go_wp2_with (go_at_fn g; refine (HC.out _ ((Below.refl _ _).alloc (Nat.le_refl _) _)).mono ?_; rintro e w2 ⟨rfl, hb2⟩)
          go_roundw
          case rel =>
            have hbw : Below wr.heap.size wr w2 := ((Below.refl _ _).alloc (Nat.le_refl _) _).trans (hb2.mono (by simp))
            exact ⟨i, j + 1, ys, rfl, by go_num, by omega, by omega, HSK, Lib.hid ⟨pw_own_below HS.out.1 hbw, HS.out.2.then_below hbw⟩⟩
          case measure => simp [intOf]; omega
        | false =>
          have HSK := Lib.hid (hx.out false HQ.out)
          have hcells := fun w2 (hb2 : Below (wr.alloc (.cells #[.int .i64 s.f0, .int .i64 s.f1] 41)).heap.size (wr.alloc (.cells #[.int .i64 s.f0, .int .i64 s.f1] 41)) w2) => (show Below wr.heap.size wr w2 ∧ w2.cell? ⟨wr.heap.size, 0, none⟩ = some (.int .i64 s.f0) ∧ w2.cell? ⟨wr.heap.size, 1, none⟩ = some (.int .i64 s.f1) from by
            have hn := Blk.new wr 41 #[.int .i64 s.f0, .int .i64 s.f1]
            exact ⟨((Below.refl _ _).alloc (Nat.le_refl _) _).trans (hb2.mono (by simp)), (hn.below hb2 (by simp)).cell 0, (hn.below hb2 (by simp)).cell 1⟩)
          have HCE := Lib.hid hcells
          clear hcells
          go_wp2_with (go_at_fn g; refine (HC.out _ ((Below.refl _ _).alloc (Nat.le_refl _) _)).mono ?_; rintro e w2 ⟨rfl, hb2⟩; obtain ⟨hbw, n0, n1⟩ := HCE.out w2 hb2; have c0' := pw_cell_below hbw c0; have c1' := pw_cell_below hbw c1; have q0' := (hbw.frozen (p := ⟨blk, i * 2, none⟩) hblk).trans q0; have q1' := (hbw.frozen (p := ⟨blk, i * 2 + 1, none⟩) hblk).trans q1)
          go_roundw
          case rel => exact ⟨i + 1, j + 1, ys.set i s, by go_num, by go_num, by omega, by omega, HSK, Lib.hid ⟨RowS.store (pw_own_below HS.out.1 hbw) i s, ((HS.out.2.then_below hbw).setCell (.inl rfl) _).setCell (.inl rfl) _⟩⟩
          case measure => simp [intOf]; omega
      · obtain rfl : j = xs.length := by omega
        have hsz := HD.out.size
        have hdn := Lib.hid HD.out.done
        obtain ⟨vs, hcl⟩ : ∃ vs, ∀ ty, (Builtin.clear_ #[24] ty #[.slice (some ⟨blk, i * 2, none⟩) (xs.length - i) (cap - i)]).run Tryz.prog wr = .ok (.tuple #[]) (wr.setCells blk (i * 2) vs) := ⟨_, fun ty =>
          run_clear2 wr _ _ ty _ (.int .i64 0) (.int .i64 0) Tryz.underlying24 Tryz.zeroValue41 rfl rfl rfl blk (i * 2) _ _ (by omega) (fun t ht => by
            have h := World.ownsRow.cellAt (n := xs.length) (by have h := HS.out.1; unfold RowS at h; rw [hyl] at h; exact h) (i * 2 + t) (by omega)
            rw [h, List.getElem?_eq_getElem (by rw [enc2_len, List.length_map]; omega)]; rfl) (fun t ht => World.ownsRow.frozenAt (n := xs.length) (by have h := HS.out.1; unfold RowS at h; rw [hyl] at h; exact h) _)⟩
        have HSZ := Lib.hid hsz
        clear hsz
        go_wp2
        go_ret
        obtain ⟨zs, hz, ht⟩ := own_setCells vs (i * 2) wr _ (by have h := HS.out.1; unfold RowS at h; rw [hyl] at h; exact h)
        have h3 := own_take hz (m := i) (by omega)
        rw [ht, enc2_take, ← List.map_take, hdn.out] at h3
        rw [HSZ.out]
        refine ⟨rfl, ?_, HS.out.2.setCells (.inl rfl) vs (i * 2)⟩
        unfold RowS
        rw [HSZ.out]
        exact h3
theorem delS_nil (g : Nat) (fst lb : Array Value) (eg : ∀ args w, (callFunc g args).run Tryz.prog w = .ok (.enter g args) w) (w : World) :
    Calls Tryz.prog 70 #[.slice none 0 0, .func (.func g) fst lb] w fun e w' => e = .returned (.slice none 0 0) ∧ Below w.heap.size w w' := by
  have hidx : Calls Tryz.prog 102 #[.slice none 0 0, .func (.func g) fst lb] w fun e w' => e = .returned (.int .i64 (-1)) ∧ Below w.heap.size w w' := by
    go_enter Tryz.func102, Tryz.ntmps102
    go_wp2
    refine wp_loop_rounds 1 ?_
    rw [rounds_succ]
    go_wp2
    go_ret
    exact ⟨rfl, Below.refl _ _⟩
  go_enter Tryz.func70, Tryz.ntmps70
  go_wp2_with (go_at_call 102; refine hidx.mono ?_; rintro e w' ⟨rfl, hb⟩)
  go_ret
  exact ⟨rfl, hb⟩
theorem delS_own (g : Nat) (fst lb : Array Value) (p : S41 → Bool) (eg : ∀ args w, (callFunc g args).run Tryz.prog w = .ok (.enter g args) w) (base : Nat) (v : Value) (xs : List (S41)) (w w0 : World)
    (hown : RowS w base v xs) (hb : Below base w0 w) (hbs : base ≤ w.heap.size)
    (hp : ∀ (W : World) (s : S41), s ∈ xs → Below base w0 W → Calls Tryz.prog g (fst ++ #[.agg #[.int .i64 s.f0, .int .i64 s.f1]] ++ lb) W fun e w' => e = .returned (.bool (p s)) ∧ Below W.heap.size W w') :
    Calls Tryz.prog 70 #[v, .func (.func g) fst lb] w fun e w' => ∃ v', e = .returned v' ∧ RowS w' base v' (xs.filter fun x => !p x) ∧ Below base w0 w' ∧ Upd w w' (fun k => v.ownBlock = some k) ∧ v'.ownBlock = v.ownBlock := by
  have hg := hown
  rcases hg.2 with ⟨rfl, h0⟩ | ⟨blk, cap, cur, rfl, hbb, hgb, _⟩
  · obtain rfl : xs = [] := List.eq_nil_of_length_eq_zero h0
    exact (delS_nil g fst lb eg w).mono fun e w' ⟨he, h⟩ => ⟨_, he, own_nil _ _ _ _, hb.trans (h.mono hbs), Upd.of_below h _, rfl⟩
  · have hU : ∀ W, Upd w W (· = blk) → Below base w0 W := fun W h => hb.trans (h.below hbs (fun k hk e => by omega))
    exact (delS_any g fst lb p eg base blk cap xs w hown (fun W x hx h => hp W x hx (hU W h))).mono fun e w' ⟨he, ho, h⟩ => ⟨_, he, ho, hU w' h, h.mono fun k _ e => by simp [Value.ownBlock, e], rfl⟩
end Go.Proofs.YtaedlmeaconflaaGreat.P
end
section
set_option linter.unusedVariables false
set_option linter.unusedSimpArgs false
namespace Go.Proofs.YtaedlmeaconflaaGreat.P
open Go.RowKit Go.Shelf Go.Proofs.YtaedlmeaconflaaGreatW.PrintWords Go.Proofs.YtaedlmeaconflaaGreatW.PrintLast Go.Proofs.YtaedlmeaconflaaGreatW.PrintMore
abbrev pD (s : Int × Option Addr × Nat × Nat) : Value × Value := (.int .i64 s.1, .slice s.2.1 s.2.2.1 s.2.2.2)
def RowD (w : World) (base : Nat) (v : Value) (xs : List (Int × Option Addr × Nat × Nat)) : Prop := w.ownsRow base 26 2 v xs.length (enc2 (xs.map pD))
theorem RowD.at_ {w : World} {base g n cap : Nat} {xs : List (Int × Option Addr × Nat × Nat)} (h : RowD w base (.slice (some ⟨g, 0, none⟩) n cap) xs) (i : Nat) (s : Int × Option Addr × Nat × Nat) (hx : xs[i]? = some s) :
    w.cell? ⟨g, i * 2, none⟩ = some (.int .i64 s.1) ∧ w.cell? ⟨g, i * 2 + 1, none⟩ = some (.slice s.2.1 s.2.2.1 s.2.2.2) ∧ w.frozen? ⟨g, i * 2, none⟩ = false ∧ w.frozen? ⟨g, i * 2 + 1, none⟩ = false := by
  obtain rfl : n = xs.length := by
    obtain ⟨_, _, e⟩ := own_slice h
    injection e
  have hl := (List.getElem?_eq_some_iff.1 hx).1
  have hE := enc2_at (xs.map pD) i
  rw [List.getElem?_map, hx] at hE
  exact ⟨(World.ownsRow.cellAt h (i * 2) (by omega)).trans hE.1, (World.ownsRow.cellAt h (i * 2 + 1) (by omega)).trans hE.2, World.ownsRow.frozenAt h _, World.ownsRow.frozenAt h _⟩
theorem RowD.store {w : World} {base g n cap : Nat} {xs : List (Int × Option Addr × Nat × Nat)} (h : RowD w base (.slice (some ⟨g, 0, none⟩) n cap) xs) (i : Nat) (s : Int × Option Addr × Nat × Nat) :
    RowD ((w.setCell ⟨g, i * 2, none⟩ (.int .i64 s.1)).setCell ⟨g, i * 2 + 1, none⟩ (.slice s.2.1 s.2.2.1 s.2.2.2)) base (.slice (some ⟨g, 0, none⟩) n cap) (xs.set i s) := by
  obtain rfl : n = xs.length := by
    obtain ⟨_, _, e⟩ := own_slice h
    injection e
  have h1 := (World.ownsRow.stored h (i * 2) (.int .i64 s.1)).1
  have h2 := (World.ownsRow.stored h1 (i * 2 + 1) (.slice s.2.1 s.2.2.1 s.2.2.2)).1
  rw [enc2_set] at h2
  unfold RowD
  rw [List.length_set, List.map_set]
  exact h2
end Go.Proofs.YtaedlmeaconflaaGreat.P
end
section
set_option linter.unusedVariables false
set_option linter.unusedSimpArgs false
namespace Go.Proofs.YtaedlmeaconflaaGreat.P
open Go.RowKit Go.Sort Go.Shelf Go.Proofs.YtaedlmeaconflaaGreatW.PrintWords Go.Proofs.YtaedlmeaconflaaGreatW.PrintLast Go.Proofs.YtaedlmeaconflaaGreatW.PrintMore
theorem ev_idxS (l : List S41) (a b : Int) (hm : l.length ≤ 9223372036854775807) : ∀ (m i : Nat), i + m = l.length → Ev (fun k => (api_Stamp_103.l0 k l (l.length : Int) (i : Int) a b).bind fun t => some (decide (t ≥ 0))) (decide ((⟨a, b⟩ : S41) ∈ l.drop i))
  | 0, i, h => by
    refine Ev.succ ?_
    simp only [api_Stamp_103.l0]
    rw [List.drop_eq_nil_of_le (show l.length ≤ i by omega)]
    simp only [if_neg (show ¬ ((i : Int) < (l.length : Int)) by omega), Option.bind_some]
    exact (Ev.some _).eq (by simp)
  | m + 1, i, h => by
    have hi : i < l.length := by omega
    refine Ev.succ ?_
    simp only [api_Stamp_103.l0]
    rw [rdS_nat l hi, w64_succ (by omega), List.drop_eq_getElem_cons hi]
    simp only [if_pos (show (i : Int) < (l.length : Int) by omega), if_pos (show (0 : Int) ≤ (i : Int) by omega)]
    have hb : (a == l[i].f0 && (b == l[i].f1)) = true ↔ (⟨a, b⟩ : S41) = l[i] := by
      rw [S_ext]; simp
    by_cases h1 : (a == l[i].f0 && (b == l[i].f1)) = true
    · simp only [if_pos h1, Option.bind_some]
      refine (Ev.some _).eq ?_
      rw [decide_eq_decide, hb.1 h1]
      exact ⟨fun _ => List.mem_cons_self .., fun _ => by omega⟩
    · simp only [if_neg h1]
      refine (ev_idxS l a b hm m (i + 1) (by omega)).eq ?_
      rw [decide_eq_decide, List.mem_cons]
      exact ⟨.inr, fun k => k.resolve_left (fun e => h1 (hb.2 e))⟩
theorem scontains_any (A : Option Addr) (c : Nat) (l : List S41) (x : S41) (w : World) (hr : Kd.C k41 w A l.length l) (hc : l.length ≤ c) :
    Calls Tryz.prog 72 #[.slice A l.length c, .agg #[.int .i64 x.f0, .int .i64 x.f1]] w fun e w' => e = .returned (.bool (decide (x ∈ l))) ∧ Below w.heap.size w w' := by
  have h : Ev (fun k => api_Stamp_72.f k l x.f0 x.f1) (decide (x ∈ l)) := (ev_idxS l x.f0 x.f1 (Kd.C_max hr) l.length 0 (by omega)).eq (by simp)
  obtain ⟨k, hk⟩ := h.get
  exact api_Stamp_72.calls k A c l x.f0 x.f1 _ w hr hc hk
set_option maxHeartbeats 1000000 in
theorem wo11_any (x : S41) (be : Nat) (A : Option Addr) (c : Nat) (ids : List S41) (w : World) (hb : w.cell? ⟨be, 0, none⟩ = some (.slice A ids.length c)) (hr : Kd.C k41 w A ids.length ids) (hc : ids.length ≤ c) :
    Calls Tryz.prog 71 #[.agg #[.int .i64 x.f0, .int .i64 x.f1], .pointer (some ⟨be, 0, none⟩)] w fun e w' => e = .returned (.bool (decide (x ∈ ids))) ∧ Below w.heap.size w w' := by
  obtain ⟨w1, hw1⟩ : ∃ w1, w.alloc (.cells #[.int .i64 x.f0, .int .i64 x.f1] 41) = w1 := ⟨_, rfl⟩
  have hB1 : Below w.heap.size w w1 := hw1 ▸ (Below.refl _ _).alloc (Nat.le_refl _) _
  have hT : Blk w1 w.heap.size 41 #[.int .i64 x.f0, .int .i64 x.f1] := hw1 ▸ Blk.new w 41 _
  have c0 : w1.cell? ⟨w.heap.size, 0, none⟩ = some (.int .i64 x.f0) := hT.cell 0
  have c1 : w1.cell? ⟨w.heap.size, 1, none⟩ = some (.int .i64 x.f1) := hT.cell 1
  have c2 := pw_cell_below hB1 hb
  have HC := Lib.hid (scontains_any A c ids x w1 (Kd.C_below hr hB1) hc)
  obtain ⟨r, hr2⟩ : ∃ r, decide (x ∈ ids) = r := ⟨_, rfl⟩
  rw [hr2] at HC ⊢
  have HB := Lib.hid hB1
  clear hT hr hb hB1 hr2
  go_enter Tryz.func71, Tryz.ntmps71
  go_wp2_with fail
  refine HC.out.mono ?_
  rintro e wn ⟨rfl, hbn⟩
  go_wp2
  go_ret
  exact ⟨rfl, HB.out.trans (hbn.mono HB.out.size)⟩
set_option maxHeartbeats 1000000 in
theorem wo1_any (l : List S41) (v : Value) (B be : Nat) (A : Option Addr) (c : Nat) (ids : List S41) (w : World) (ho : RowS w B v l) (hB : B ≤ w.heap.size) (hbe : be < B) (hb : w.cell? ⟨be, 0, none⟩ = some (.slice A ids.length c)) (hr : ∀ W, Below B w W → Kd.C k41 W A ids.length ids) (hc : ids.length ≤ c) :
    Calls Tryz.prog 69 #[v, .pointer (some ⟨be, 0, none⟩)] w fun e w' => ∃ v', e = .returned v' ∧ RowS w' B v' (l.filter fun x => !decide (x ∈ ids)) ∧ Below B w w' := by
  have eg : ∀ args w, (callFunc 71 args).run Tryz.prog w = .ok (.enter 71 args) w := enters_of Tryz.func71 (by kernel_rfl) rfl
  have hd := delS_own 71 #[] #[.pointer (some ⟨be, 0, none⟩)] (fun x => decide (x ∈ ids)) eg B v l w w ho (Below.refl _ _) hB (fun W x _ hW => wo11_any x be A c ids W ((hW.cell (p := ⟨be, 0, none⟩) hbe).trans hb) (hr W hW) hc)
  have HD := Lib.hid hd
  obtain ⟨Al, cl, rfl⟩ := own_slice ho
  clear hd ho hr hb
  go_enter Tryz.func69, Tryz.ntmps69
  go_wp2_with fail
  refine HD.out.mono ?_
  rintro e w2 ⟨v2, rfl, ho2, hb2, _, _⟩
  have HO := Lib.hid (And.intro ho2 hb2)
  obtain ⟨A5, c5, rfl⟩ := own_slice ho2
  clear ho2 hb2
  go_wp2
  go_ret
  exact ⟨_, rfl, HO.out.1, HO.out.2⟩
set_option maxHeartbeats 1000000 in
theorem without_any (A : Option Addr) (c : Nat) (ds : List S26) (A2 : Option Addr) (c2 : Nat) (ids : List S41) (w : World) (hr : Kd.C k26 w A ds.length ds) (hi : Kd.C k41 w A2 ids.length ids) (hc : ids.length ≤ c2) (hl : ds.length * 32 ≤ 140737488355328) (hb : ∀ x ∈ ds, x.f1.length * 16 ≤ 140737488355328) :
    Calls Tryz.prog 26 #[.slice A ds.length c, .slice A2 ids.length c2] w fun e w' => ∃ v, e = .returned v ∧ Kd.S k26 26 w' w.heap.size (fun _ => True) v (mapD (fun l => l.filter fun x => !decide (x ∈ ids)) ds) ∧ Below w.heap.size w w' := by
  have eg : ∀ args w, (callFunc 69 args).run Tryz.prog w = .ok (.enter 69 args) w := enters_of Tryz.func69 (by kernel_rfl) rfl
  obtain ⟨w1, hw1⟩ : ∃ w1, w.alloc (.cells #[.slice A2 ids.length c2] 24) = w1 := ⟨_, rfl⟩
  have hB1 : Below w.heap.size w w1 := hw1 ▸ (Below.refl _ _).alloc (Nat.le_refl _) _
  have hT : Blk w1 w.heap.size 24 #[.slice A2 ids.length c2] := hw1 ▸ Blk.new w 24 _
  have hsz : w.heap.size < w1.heap.size := hT.lt
  have hi1 := Kd.C_below hi hB1
  have he := each_any 69 #[] #[.pointer (some ⟨w.heap.size, 0, none⟩)] (fun l => l.filter fun x => !decide (x ∈ ids)) eg A c ds w1 (Kd.C_below hr hB1) hl hb (fun W B v x _ hW hB hBW ho =>
    wo1_any x.f1 v B w.heap.size A2 c2 ids W ho hBW (by omega) ((hT.below hW hsz).cell 0) (fun W2 h2 => Kd.C_below hi1 (hW.trans (h2.mono hB))) hc)
  have HE := Lib.hid he
  have HB1 := Lib.hid hB1
  clear he hr hT hB1 hb hl hi hi1
  go_enter Tryz.func26, Tryz.ntmps26
  go_wp2_with fail
  refine HE.out.mono ?_
  rintro e w2 ⟨v2, rfl, ho2, hb2⟩
  have HO := Lib.hid (And.intro ho2 hb2)
  obtain ⟨A5, c5, rfl⟩ := Kd.S_slice ho2
  clear ho2 hb2
  go_wp2
  go_ret
  exact ⟨_, rfl, Kd.S_lower HO.out.1 HB1.out.size, HB1.out.trans (HO.out.2.mono HB1.out.size)⟩
def deps_Without.f (d : List S26) (ids : List S41) : Option (List S26) := if d.length * 32 ≤ 140737488355328 ∧ (∀ x ∈ d, x.f1.length * 16 ≤ 140737488355328) then some (mapD (fun l => l.filter fun x => !decide (x ∈ ids)) d) else none
theorem deps_Without.calls (A0 : Option Addr) (c0 : Nat) (l0 : List S26) (A1 : Option Addr) (c1 : Nat) (l1 : List S41) (r : List S26) (w : World) (hr0 : Kd.C k26 w A0 l0.length l0) (_hc0 : l0.length ≤ c0) (hr1 : Kd.C k41 w A1 l1.length l1) (hc1 : l1.length ≤ c1) (h : deps_Without.f l0 l1 = some r) :
    Calls Tryz.prog 26 #[.slice A0 l0.length c0, .slice A1 l1.length c1] w fun e w' => ∃ v0_ : Value, e = .returned (v0_) ∧ Kd.S k26 26 w' w.heap.size (fun _ => True) v0_ r ∧ Below w.heap.size w w' := by
  unfold deps_Without.f at h
  split at h
  · rename_i hc
    injection h with h
    subst h
    exact without_any A0 c0 l0 A1 c1 l1 w hr0 hr1 hc1 hc.1 hc.2
  · cases h
end Go.Proofs.YtaedlmeaconflaaGreat.P
end
section
set_option linter.unusedVariables false
set_option linter.unusedSimpArgs false
namespace Go.Proofs.YtaedlmeaconflaaGreat.P
open Go.RowKit Go.Sort Go.Shelf Go.Proofs.YtaedlmeaconflaaGreatW.PrintWords Go.Proofs.YtaedlmeaconflaaGreatW.PrintLast Go.Proofs.YtaedlmeaconflaaGreatW.PrintMore
abbrev ZD := S26 × (Int × Option Addr × Nat × Nat)
def NZ (w : World) (base : Nat) (ok : Nat → Prop) (v : Value) (zs : List ZD) : Prop :=
  (∀ k, v.ownBlock = some k → ok k) ∧ RowD w base v (zs.map (·.2)) ∧ ∀ z ∈ zs, z.2.1 = z.1.f0 ∧ Kd.FK k26 w (fun k => ok k ∧ some k ≠ v.ownBlock) z.1 [.int .i64 z.2.1, .slice z.2.2.1 z.2.2.2.1 z.2.2.2.2]
theorem chunks_enc2 (ps : List (Value × Value)) : Kd.chunks 2 ps.length (enc2 ps) = ps.map fun p => [p.1, p.2] := by
  apply List.ext_getElem?
  intro j
  by_cases hj : j < ps.length
  · rw [Kd.chunks_at hj, List.getElem?_map, List.getElem?_eq_getElem hj]
    have h := enc2_at ps j
    rw [List.getElem?_eq_getElem hj] at h
    have hl := enc2_len ps
    have h1 : j * 2 < (enc2 ps).length := by omega
    have h2 : j * 2 + 1 < (enc2 ps).length := by omega
    rw [List.getElem?_eq_getElem h1, List.getElem?_eq_getElem h2] at h
    rw [List.drop_eq_getElem_cons h1, List.drop_eq_getElem_cons h2, Option.some.inj h.1, Option.some.inj h.2]
    rfl
  · rw [List.getElem?_eq_none (by rw [Kd.chunks_length]; omega), List.getElem?_eq_none (by rw [List.length_map]; omega)]
theorem NZ.N {w : World} {base : Nat} {ok : Nat → Prop} {v : Value} {zs : List ZD} (h : NZ w base ok v zs) : Kd.N k26 26 w base ok v (zs.map (·.1)) := by
  obtain ⟨h0, ho, hf⟩ := h
  refine ⟨h0, zs.map fun z => [.int .i64 z.2.1, .slice z.2.2.1 z.2.2.2.1 z.2.2.2.2], by simp, ⟨fun k hk => hk.symm, enc2 ((zs.map (·.2)).map pD), by show World.ownsRow w base 26 2 v _ _; simpa [RowD] using ho, ?_⟩, fun j x c hx hc => ?_⟩
  · refine ⟨by show (enc2 _).length = _ * 2; rw [enc2_len]; simp, fun j p hj => ?_⟩
    rw [List.getElem?_map] at hj
    cases hz : zs[j]? with
    | none => rw [hz] at hj; cases hj
    | some z =>
      rw [hz] at hj
      have hj := Option.some.inj hj
      have hlt := (List.getElem?_eq_some_iff.1 hz).1
      have hc := Kd.chunks_at (sz := 2) (inner := enc2 ((zs.map (·.2)).map pD)) (n := ((zs.map (·.2)).map pD).length) (j := j) (by simpa using hlt)
      rw [chunks_enc2, List.getElem?_map, List.getElem?_map, List.getElem?_map, hz] at hc
      have hc := Option.some.inj hc
      have hc' : ((enc2 ((zs.map (·.2)).map pD)).drop (j * 2)).take 2 = [(pD z.2).1, (pD z.2).2] := hc.symm
      refine ⟨hc'.trans hj, ?_, fun u hu => ?_⟩
      · show (((enc2 ((zs.map (·.2)).map pD)).drop (j * 2)).take 2).length = 2
        rw [hc']; rfl
      · have hu : u ∈ ((enc2 ((zs.map (·.2)).map pD)).drop (j * 2)).take 2 := hu
        rw [hc'] at hu
        simp at hu
        rcases hu with rfl | rfl <;> rfl
  · rw [List.getElem?_map] at hx hc
    cases hz : zs[j]? with
    | none => rw [hz] at hx; cases hx
    | some z =>
      rw [hz] at hx hc
      rw [← Option.some.inj hx, ← Option.some.inj hc]
      exact (hf z (List.mem_of_getElem? hz)).2
theorem exists_list {α : Type} {β : Type} (R : α → Nat → β → Prop) : ∀ (xs : List α) (i : Nat), (∀ j x, xs[j]? = some x → ∃ y, R x (i + j) y) → ∃ ys : List β, ys.length = xs.length ∧ ∀ j x y, xs[j]? = some x → ys[j]? = some y → R x (i + j) y
  | [], _, _ => ⟨[], rfl, fun j x y h => by simp at h⟩
  | x :: xs, i, h => by
    obtain ⟨y, hy⟩ := h 0 x rfl
    obtain ⟨ys, hl, hr⟩ := exists_list R xs (i + 1) (fun j z hz => by have := h (j + 1) z (by simpa using hz); rwa [show i + 1 + j = i + (j + 1) by omega])
    refine ⟨y :: ys, by simp [hl], fun j a b ha hb => ?_⟩
    rcases j with _ | j
    · simp at ha hb; rw [← ha, ← hb]; exact hy
    · have := hr j a b (by simpa using ha) (by simpa using hb)
      rwa [show i + 1 + j = i + (j + 1) by omega] at this
theorem NZ.of {w : World} {base : Nat} {ok : Nat → Prop} {v : Value} {xs : List S26} (h : Kd.N k26 26 w base ok v xs) : ∃ zs : List ZD, zs.map (·.1) = xs ∧ NZ w base ok v zs := by
  obtain ⟨h0, rows, hl, ⟨_, inner, ho, hr⟩, hf⟩ := h
  obtain ⟨ps, hpl, hp⟩ := exists_list (fun (x : S26) j (p : Int × Option Addr × Nat × Nat) => rows[j]? = some [.int .i64 p.1, .slice p.2.1 p.2.2.1 p.2.2.2] ∧ p.1 = x.f0) xs 0 (fun j x hx => by
    have hj := (List.getElem?_eq_some_iff.1 hx).1
    have hc := List.getElem?_eq_getElem (l := rows) (i := j) (by omega)
    obtain ⟨A, c, e, _⟩ := k26_open (Kd.FK_now (hf j x _ hx hc))
    exact ⟨(x.f0, A, x.f1.length, c), by rw [Nat.zero_add, hc, e], rfl⟩)
  simp only [Nat.zero_add] at hp
  have hfst : (xs.zip ps).map (·.1) = xs := by rw [List.map_fst_zip]; omega
  have hsnd : (xs.zip ps).map (·.2) = ps := by rw [List.map_snd_zip]; omega
  have hrows : rows = ps.map fun p => [.int .i64 p.1, .slice p.2.1 p.2.2.1 p.2.2.2] := by
    apply List.ext_getElem?
    intro j
    by_cases hj : j < xs.length
    · rw [(hp j _ _ (List.getElem?_eq_getElem hj) (List.getElem?_eq_getElem (show j < ps.length by omega))).1, List.getElem?_map, List.getElem?_eq_getElem (show j < ps.length by omega)]
      rfl
    · rw [List.getElem?_eq_none (by omega), List.getElem?_eq_none (by rw [List.length_map]; omega)]
  have hin : inner = enc2 (ps.map pD) := by
    have h1 : inner.length = rows.length * 2 := hr.1
    apply List.ext_getElem?
    intro t
    by_cases ht : t < inner.length
    · have hj : t / 2 < ps.length := by omega
      obtain ⟨hq, _, _⟩ := hr.2 (t / 2) rows[t / 2] (List.getElem?_eq_getElem (by omega))
      have hq : (inner.drop (t / 2 * 2)).take 2 = rows[t / 2] := hq
      have hrw : rows[t / 2]'(by omega) = [.int .i64 ps[t / 2].1, .slice ps[t / 2].2.1 ps[t / 2].2.2.1 ps[t / 2].2.2.2] := by
        have : rows[t / 2]? = (ps.map fun p => [Value.int .i64 p.1, .slice p.2.1 p.2.2.1 p.2.2.2])[t / 2]? := by rw [← hrows]
        rw [List.getElem?_eq_getElem (by omega), List.getElem?_map, List.getElem?_eq_getElem hj] at this
        exact Option.some.inj this
      rw [hrw] at hq
      have he := enc2_at (ps.map pD) (t / 2)
      rw [List.getElem?_map, List.getElem?_eq_getElem hj] at he
      have g : ∀ u, u < 2 → inner[t / 2 * 2 + u]? = ([.int .i64 ps[t / 2].1, .slice ps[t / 2].2.1 ps[t / 2].2.2.1 ps[t / 2].2.2.2] : List Value)[u]? := fun u hu => by
        rw [← hq, List.getElem?_take, if_pos hu, List.getElem?_drop]
      rcases Nat.mod_two_eq_zero_or_one t with h2 | h2
      · have e2 : t / 2 * 2 = t := by omega
        have := g 0 (by omega)
        rw [Nat.add_zero, e2] at this
        rw [e2] at he
        rw [this, he.1]; rfl
      · have e2 : t / 2 * 2 + 1 = t := by omega
        have := g 1 (by omega)
        rw [e2] at this he
        rw [this, he.2]; rfl
    · rw [List.getElem?_eq_none (by omega), List.getElem?_eq_none (by rw [enc2_len, List.length_map]; omega)]
  refine ⟨xs.zip ps, hfst, h0, ?_, fun z hz => ?_⟩
  · rw [hsnd]
    unfold RowD
    rw [← hin]
    have : rows.length = ps.length := by omega
    rw [← this]
    exact ho
  · obtain ⟨j, hj, rfl⟩ := List.mem_iff_getElem.1 hz
    rw [List.length_zip] at hj
    have hx : xs[j]? = some xs[j] := List.getElem?_eq_getElem (by omega)
    have hy : ps[j]? = some ps[j] := List.getElem?_eq_getElem (by omega)
    obtain ⟨h1, h2⟩ := hp j _ _ hx hy
    rw [List.getElem_zip]
    exact ⟨h2, hf j _ _ hx h1⟩
end Go.Proofs.YtaedlmeaconflaaGreat.P
end
section
set_option linter.unusedVariables false
set_option linter.unusedSimpArgs false
namespace Go.Proofs.YtaedlmeaconflaaGreat.P
open Go.RowKit Go.Sort Go.Shelf Go.Proofs.YtaedlmeaconflaaGreatW.PrintWords Go.Proofs.YtaedlmeaconflaaGreatW.PrintLast Go.Proofs.YtaedlmeaconflaaGreatW.PrintMore
theorem good_chk {d : List S26} (h : Good d 512) : chkD d = 0 := by
  rw [← chkB_iff]
  unfold chkB
  rw [decide_eq_true_eq]
  have h1 := h.all
  have h2 := h.len
  have hw : wsum d = ((allD d).length : Int) := by
    have := wsum_eq d 0 (by omega) (by omega)
    unfold wsum
    omega
  exact ⟨h.len, by omega, h.shards, fun x hx => ⟨(h.low x hx).1, (h.low x hx).2, h.asc x hx, h.is x hx⟩⟩
theorem without_f {d : List S26} {n : Nat} (h : Good d n) (hn : n ≤ 1000000) (ids : List S41) : deps_Without.f d ids = some (mapD (fun l => l.filter fun x => !decide (x ∈ ids)) d) := by
  unfold deps_Without.f
  have := h.len
  exact if_pos ⟨by omega, fun x hx => by have := h.one hx; omega⟩
end Go.Proofs.YtaedlmeaconflaaGreat.P
end
section
set_option linter.unusedVariables false
set_option linter.unusedSimpArgs false
namespace Go.Proofs.YtaedlmeaconflaaGreat.P
open Go.RowKit Go.Sort Go.Shelf Go.Proofs.YtaedlmeaconflaaGreatW.PrintWords Go.Proofs.YtaedlmeaconflaaGreatW.PrintLast Go.Proofs.YtaedlmeaconflaaGreatW.PrintMore
def Lows (ds : List S26) : Prop := ∀ d ∈ ds, 0 ≤ d.f0 ∧ d.f0 ≤ 1000
def hasS (ds : List S26) (n : Int) : Prop := ∃ d ∈ ds, d.f0 = n
def hasI (ds : List S26) (n : Int) (s : S41) : Prop := ∃ d ∈ ds, d.f0 = n ∧ s ∈ d.f1
theorem mergeD_eq {ds es : List S26} (h1 : Lows ds) (h2 : Lows es) (hs : ∀ n, hasS ds n ↔ hasS es n) (hi : ∀ n s, hasI ds n s ↔ hasI es n s) : mergeD ds = mergeD es := by
  refine rise_extD (mergeD_rise ds) (mergeD_rise es) fun e => ?_
  rw [mergeD_mem ds h1, mergeD_mem es h2, setS_ext (ys := idsOf es e.f0) fun s => by rw [mem_idsOf, mem_idsOf]; exact hi e.f0 s]
  exact and_congr_left fun _ => hs e.f0
theorem hasS_merge {ds : List S26} (h : Lows ds) (n : Int) : hasS (mergeD ds) n ↔ hasS ds n := by
  constructor
  · rintro ⟨e, he, rfl⟩; exact ((mergeD_mem ds h e).1 he).1
  · intro k
    exact ⟨⟨n, setS (idsOf ds n)⟩, (mergeD_mem ds h _).2 ⟨k, rfl⟩, rfl⟩
theorem hasI_merge {ds : List S26} (h : Lows ds) (n : Int) (s : S41) : hasI (mergeD ds) n s ↔ hasI ds n s := by
  constructor
  · rintro ⟨e, he, rfl, hs⟩
    rw [((mergeD_mem ds h e).1 he).2, setS_mem, mem_idsOf] at hs
    exact hs
  · rintro ⟨d, hd, rfl, hs⟩
    exact ⟨⟨d.f0, setS (idsOf ds d.f0)⟩, (mergeD_mem ds h _).2 ⟨⟨d, hd, rfl⟩, rfl⟩, rfl, by rw [setS_mem, mem_idsOf]; exact ⟨d, hd, rfl, hs⟩⟩
theorem hasS_app (a b : List S26) (n : Int) : hasS (a ++ b) n ↔ hasS a n ∨ hasS b n := by
  unfold hasS; simp only [List.mem_append, or_and_right, exists_or]
theorem hasI_app (a b : List S26) (n : Int) (s : S41) : hasI (a ++ b) n s ↔ hasI a n s ∨ hasI b n s := by
  unfold hasI; simp only [List.mem_append, or_and_right, exists_or]
theorem hasS_map (F : List S41 → List S41) (d : List S26) (n : Int) : hasS (mapD F d) n ↔ hasS d n := by
  constructor
  · rintro ⟨y, hy, rfl⟩
    obtain ⟨x, hx, rfl⟩ := mem_mapD.1 hy
    exact ⟨x, hx, rfl⟩
  · rintro ⟨x, hx, rfl⟩; exact ⟨_, mem_mapD.2 ⟨x, hx, rfl⟩, rfl⟩
theorem hasI_filt {p : S41 → Bool} {d : List S26} {n : Int} {s : S41} (h : hasI (mapD (·.filter p) d) n s) : hasI d n s := by
  obtain ⟨y, hy, rfl, hs⟩ := h
  obtain ⟨x, hx, rfl⟩ := mem_mapD.1 hy
  exact ⟨x, hx, rfl, (List.mem_filter.1 hs).1⟩
theorem lows_merge {ds : List S26} (h : Lows ds) : Lows (mergeD ds) := fun e he => by
  obtain ⟨⟨d, hd, e0⟩, _⟩ := (mergeD_mem ds h e).1 he
  rw [← e0]; exact h d hd
theorem lows_app {a b : List S26} (ha : Lows a) (hb : Lows b) : Lows (a ++ b) := fun d hd => (List.mem_append.1 hd).elim (ha d) (hb d)
theorem lows_map {F : List S41 → List S41} {d : List S26} (h : Lows d) : Lows (mapD F d) := fun y hy => by
  obtain ⟨x, hx, rfl⟩ := mem_mapD.1 hy; exact h x hx
theorem Good.lows {d : List S26} {n : Nat} (h : Good d n) : Lows d := fun x hx => by have := h.low x hx; omega
theorem sum_one (f : Int → Nat) (x : Int) : ∀ K : List Int, K.Nodup → ((K.map fun y => if x = y then f y else 0).sum ≤ f x)
  | [], _ => by simp
  | y :: K, h => by
    have h' := List.nodup_cons.1 h
    have ih := sum_one f x K h'.2
    rw [List.map_cons, List.sum_cons]
    by_cases e : x = y
    · subst e
      have hz : (K.map fun y => if x = y then f y else 0).sum = 0 := by
        have : (K.map fun y => if x = y then f y else 0) = K.map fun _ => 0 := List.map_congr_left fun y hy => if_neg fun (e : x = y) => h'.1 (by rw [e]; exact hy)
        rw [this]
        clear ih h h' this
        induction K with
        | nil => rfl
        | cons a l ih => rw [List.map_cons, List.sum_cons, ih]
      rw [if_pos rfl, hz]; omega
    · rw [if_neg e]; omega
theorem sum_add (f g : Int → Nat) : ∀ K : List Int, (K.map fun y => f y + g y).sum = (K.map f).sum + (K.map g).sum
  | [] => rfl
  | y :: K => by simp only [List.map_cons, List.sum_cons, sum_add f g K]; omega
theorem sum_ids (K : List Int) (hK : K.Nodup) : ∀ ds : List S26, (K.map fun y => (idsOf ds y).length).sum ≤ (allD ds).length
  | [] => by
    have : ∀ K : List Int, (K.map fun y => (idsOf [] y).length).sum = 0 := fun K => by
      induction K with
      | nil => rfl
      | cons a l ih => rw [List.map_cons, List.sum_cons, ih]; rfl
    rw [this]; omega
  | d :: ds => by
    have ih := sum_ids K hK ds
    have e : (fun y => (idsOf (d :: ds) y).length) = fun y => (if d.f0 = y then d.f1.length else 0) + (idsOf ds y).length := by
      funext y
      unfold idsOf
      by_cases h : d.f0 = y
      · simp [h]
      · simp [h]
    have e2 : (allD (d :: ds)).length = d.f1.length + (allD ds).length := by unfold allD; rw [List.flatMap_cons, List.length_append]
    have h1 := sum_one (fun _ => d.f1.length) d.f0 K hK
    rw [e, sum_add, e2]
    omega
theorem merge_all (ds : List S26) : (allD (mergeD ds)).length ≤ (allD ds).length := by
  refine Nat.le_trans ?_ (sum_ids (keysD ds) ((keysD_rise ds).imp fun h => by omega) ds)
  unfold mergeD allD
  rw [List.length_flatMap, List.map_map]
  generalize keysD ds = K
  induction K with
  | nil => simp
  | cons a l ih =>
    simp only [List.map_cons, List.sum_cons, Function.comp] at ih ⊢
    have := setS_len (idsOf ds a)
    omega
theorem good_merge {ds : List S26} {n : Nat} (hl : ∀ d ∈ ds, 0 ≤ d.f0 ∧ d.f0 < 8) (hs : ∀ d ∈ ds, ∀ s ∈ d.f1, isS s = true) (hn : (allD ds).length ≤ n) : Good (mergeD ds) n := by
  have hlo : Lows ds := fun d hd => by have := hl d hd; omega
  have hm := mergeD_mem ds hlo
  have hlow : ∀ e ∈ mergeD ds, 0 ≤ e.f0 ∧ e.f0 < 8 := fun e he => by
    obtain ⟨⟨d, hd, e0⟩, _⟩ := (hm e).1 he
    rw [← e0]; exact hl d hd
  refine ⟨⟨mergeD_rise ds, hlow, fun e he => by rw [((hm e).1 he).2]; exact setS_asc _⟩, ?_, fun e he s hsm => ?_, Nat.le_trans (merge_all ds) hn⟩
  · have := rise_len ((mergeD ds).map (·.f0)) 0 8 (by omega) (by rw [List.pairwise_map]; exact mergeD_rise ds) (fun x hx => by
      obtain ⟨e, he, rfl⟩ := List.mem_map.1 hx
      exact hlow e he)
    rw [List.length_map] at this
    omega
  · rw [((hm e).1 he).2, setS_mem, mem_idsOf] at hsm
    obtain ⟨d, hd, _, hsd⟩ := hsm
    exact hs d hd s hsd
structure Three (a b c x : List S26) : Prop where
  ga : Good a 100
  gb : Good b 100
  gc : Good c 100
  eqx : mergeD [a, b, c].flatten = x
section
variable {a b c x : List S26}
theorem Three.low (h : Three a b c x) : Lows [a, b, c].flatten := by
  have h1 := h.ga.lows; have h2 := h.gb.lows; have h3 := h.gc.lows
  intro d hd
  simp only [List.flatten_cons, List.flatten_nil, List.append_nil, List.mem_append] at hd
  rcases hd with hd | hd | hd
  · exact h1 d hd
  · exact h2 d hd
  · exact h3 d hd
theorem Three.good (h : Three a b c x) : Good x 300 := by
  rw [← h.eqx]
  have h1 := h.ga; have h2 := h.gb; have h3 := h.gc
  refine good_merge (fun d hd => ?_) (fun d hd => ?_) ?_
  · simp only [List.flatten_cons, List.flatten_nil, List.append_nil, List.mem_append] at hd
    rcases hd with hd | hd | hd
    · exact h1.low d hd
    · exact h2.low d hd
    · exact h3.low d hd
  · simp only [List.flatten_cons, List.flatten_nil, List.append_nil, List.mem_append] at hd
    rcases hd with hd | hd | hd
    · exact h1.is d hd
    · exact h2.is d hd
    · exact h3.is d hd
  · have k1 := h1.all; have k2 := h2.all; have k3 := h3.all
    unfold allD at *
    simp only [List.flatten_cons, List.flatten_nil, List.append_nil, List.flatMap_append, List.length_append]
    omega
theorem Three.eq (h : Three a b c x) {es : List S26} (hl : Lows es) (hs : ∀ n, hasS es n ↔ hasS a n ∨ hasS b n ∨ hasS c n) (hi : ∀ n s, hasI es n s ↔ hasI a n s ∨ hasI b n s ∨ hasI c n s) : mergeD es = x := by
  rw [← h.eqx]
  refine mergeD_eq hl h.low (fun n => ?_) (fun n s => ?_)
  · rw [hs]; simp only [List.flatten_cons, List.flatten_nil, List.append_nil, hasS_app]
  · rw [hi]; simp only [List.flatten_cons, List.flatten_nil, List.append_nil, hasI_app]
theorem Three.hasS (h : Three a b c x) (n : Int) : hasS x n ↔ P.hasS a n ∨ P.hasS b n ∨ P.hasS c n := by
  rw [← h.eqx, hasS_merge h.low]; simp only [List.flatten_cons, List.flatten_nil, List.append_nil, hasS_app]
theorem Three.hasI (h : Three a b c x) (n : Int) (s : S41) : hasI x n s ↔ P.hasI a n s ∨ P.hasI b n s ∨ P.hasI c n s := by
  rw [← h.eqx, hasI_merge h.low]; simp only [List.flatten_cons, List.flatten_nil, List.append_nil, hasI_app]
theorem Three.turned (h : Three a b c x) : mergeD [c, mergeD [b, a].flatten].flatten = x := by
  have hba : Lows (b ++ a) := lows_app h.gb.lows h.ga.lows
  simp only [List.flatten_cons, List.flatten_nil, List.append_nil]
  refine h.eq (lows_app h.gc.lows (lows_merge hba)) (fun n => ?_) (fun n s => ?_)
  · rw [hasS_app, hasS_merge hba, hasS_app, or_comm, or_comm (a := P.hasS b n), or_assoc]
  · rw [hasI_app, hasI_merge hba, hasI_app, or_comm, or_comm (a := P.hasI b n s), or_assoc]
theorem Three.part (h : Three a b c x) (p : S41 → Bool) : mergeD [x, mapD (·.filter p) x, a].flatten = x := by
  have hx := h.good.lows
  simp only [List.flatten_cons, List.flatten_nil, List.append_nil]
  refine h.eq (lows_app hx (lows_app (lows_map hx) h.ga.lows)) (fun n => ?_) (fun n s => ?_)
  · rw [hasS_app, hasS_app, hasS_map, h.hasS]
    constructor
    · rintro (k | k | k)
      · exact k
      · exact k
      · exact .inl k
    · exact .inl
  · rw [hasI_app, hasI_app]
    constructor
    · rintro (k | k | k)
      · exact (h.hasI n s).1 k
      · exact (h.hasI n s).1 (hasI_filt k)
      · exact .inl k
    · exact fun k => .inl ((h.hasI n s).2 k)
theorem Three.back (h : Three a b c x) (p : S41 → Bool) : mergeD [mapD (·.filter p) x, x].flatten = x := by
  have hx := h.good.lows
  simp only [List.flatten_cons, List.flatten_nil, List.append_nil]
  refine h.eq (lows_app (lows_map hx) hx) (fun n => ?_) (fun n s => ?_)
  · rw [hasS_app, hasS_map, h.hasS, or_self]
  · rw [hasI_app, h.hasI]
    constructor
    · rintro (k | k)
      · exact (h.hasI n s).1 (hasI_filt k)
      · exact k
    · exact .inr
theorem Three.all (h : Three a b c x) {s : S41} (hs : s ∈ setS (allD x)) : s ∈ setS (allD a) ∨ s ∈ setS (allD b) ∨ s ∈ setS (allD c) := by
  rw [setS_mem, mem_allD] at hs
  obtain ⟨e, he, hs⟩ := hs
  have := (h.hasI e.f0 s).1 ⟨e, he, rfl, hs⟩
  rw [setS_mem, setS_mem, setS_mem, mem_allD, mem_allD, mem_allD]
  rcases this with ⟨d, hd, _, k⟩ | ⟨d, hd, _, k⟩ | ⟨d, hd, _, k⟩
  · exact .inl ⟨d, hd, k⟩
  · exact .inr (.inl ⟨d, hd, k⟩)
  · exact .inr (.inr ⟨d, hd, k⟩)
end
end Go.Proofs.YtaedlmeaconflaaGreat.P
end
