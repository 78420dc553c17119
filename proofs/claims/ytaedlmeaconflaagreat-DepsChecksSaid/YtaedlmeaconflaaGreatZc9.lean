/- what the claim's row stands on, part 9. -/
import Derived.Test.YtaedlmeaconflaaGreatZc2
import Derived.Test.YtaedlmeaconflaaGreatZc4
import Derived.Test.YtaedlmeaconflaaGreatZc5
import Derived.Test.YtaedlmeaconflaaGreatZc3
import Derived.Test.YtaedlmeaconflaaGreatZc8
import Derived.Test.YtaedlmeaconflaaGreatZc7
section
set_option linter.unusedVariables false
set_option linter.unusedSimpArgs false
namespace Go.Proofs.YtaedlmeaconflaaGreat.P
open Go.RowKit Go.Proofs.YtaedlmeaconflaaGreatW.PrintWords Go.Proofs.YtaedlmeaconflaaGreatW.PrintLast Go.Proofs.YtaedlmeaconflaaGreatW.PrintMore
attribute [local go_sem] max2_int min2_int max_two min_two max_three min_three max_four min_four   -- for this text's walks alone
set_option linter.unusedVariables false
set_option linter.unusedSimpArgs false
end Go.Proofs.YtaedlmeaconflaaGreat.P
end
section
set_option linter.unusedVariables false
set_option linter.unusedSimpArgs false
namespace Go.Proofs.YtaedlmeaconflaaGreat.P
open Go.RowKit Go.Sort Go.Shelf Go.Proofs.YtaedlmeaconflaaGreatW.PrintWords Go.Proofs.YtaedlmeaconflaaGreatW.PrintLast Go.Proofs.YtaedlmeaconflaaGreatW.PrintMore
theorem ev_live : Ev (fun _ => (folkmootlaw06_live.f).bind fun t => some t) true := Ev.bind1 rfl (Ev.some _)
theorem mem_mapD {F : List S41 → List S41} {d : List S26} {y : S26} : y ∈ mapD F d ↔ ∃ x ∈ d, y = ⟨x.f0, F x.f1⟩ := by
  unfold mapD; rw [List.mem_map]
  constructor
  · rintro ⟨x, h, e⟩; exact ⟨x, h, e.symm⟩
  · rintro ⟨x, h, e⟩; exact ⟨x, h, e.symm⟩
theorem Good.map {d : List S26} {n : Nat} (h : Good d n) (p : S41 → Bool) : Good (mapD (·.filter p) d) n := by
  refine ⟨⟨?_, fun y hy => ?_, fun y hy => ?_⟩, by unfold mapD; rw [List.length_map]; exact h.len, fun y hy s hs => ?_, ?_⟩
  · unfold mapD; rw [List.pairwise_map]; exact h.shards
  · obtain ⟨x, hx, rfl⟩ := mem_mapD.1 hy; exact h.low x hx
  · obtain ⟨x, hx, rfl⟩ := mem_mapD.1 hy; exact (h.asc x hx).filter p
  · obtain ⟨x, hx, rfl⟩ := mem_mapD.1 hy; exact h.is x hx s ((List.mem_filter.1 hs).1)
  · refine Nat.le_trans ?_ h.all
    clear h
    induction d with
    | nil => simp [mapD, allD]
    | cons x d ih =>
      have e : (allD (x :: d)).length = x.f1.length + (allD d).length := by unfold allD; rw [List.flatMap_cons, List.length_append]
      have e2 : (allD (mapD (·.filter p) (x :: d))).length = (x.f1.filter p).length + (allD (mapD (·.filter p) d)).length := by unfold allD mapD; rw [List.map_cons, List.flatMap_cons, List.length_append]
      have := List.length_filter_le p x.f1
      omega
theorem Good.one {d : List S26} {n : Nat} (h : Good d n) {x : S26} (hx : x ∈ d) : x.f1.length ≤ n := Nat.le_trans (len_allD hx) h.all
theorem Good.ev_all {d : List S26} {n : Nat} (h : Good d n) (hn : n ≤ 1000000) : Ev (fun k => deps_All.f k d) (setS (allD d)) := P.ev_all d (by have := h.len; omega) (by have := h.all; omega)
end Go.Proofs.YtaedlmeaconflaaGreat.P
end
section
set_option linter.unusedVariables false
set_option linter.unusedSimpArgs false
namespace Go.Proofs.YtaedlmeaconflaaGreat.P
open Go.RowKit Go.Sort Go.Shelf Go.Proofs.YtaedlmeaconflaaGreatW.PrintWords Go.Proofs.YtaedlmeaconflaaGreatW.PrintLast Go.Proofs.YtaedlmeaconflaaGreatW.PrintMore
theorem cmp64_f (a b : Int) : cmp_Compare_int64.f a b = some (cmpZ a b) := by
  unfold cmp_Compare_int64.f cmp_isNaN_int64.f cmpZ
  simp only [bne_self_eq_false, Option.bind_some]
  by_cases h1 : a < b
  · simp [h1]
  · by_cases h2 : b < a
    · simp [h1, h2]
    · simp [h1, h2]
theorem cmpI_f (a b : Int) : cmp_Compare_int.f a b = some (cmpZ a b) := by
  unfold cmp_Compare_int.f cmp_isNaN_int.f cmpZ
  simp only [bne_self_eq_false, Option.bind_some]
  by_cases h1 : a < b
  · simp [h1]
  · by_cases h2 : b < a
    · simp [h1, h2]
    · simp [h1, h2]
theorem ev_or (a b : Int) : Ev (fun k => cmp_Or_int.f k [a, b]) (if a = 0 then b else a) := by
  unfold cmp_Or_int.f
  refine Ev.succ ?_;simp only [cmp_Or_int.l0];refine Ev.yes (by simp) (Ev.yes (by omega) (Ev.yes (by simp) ?_));refine Ev.cond (fun h => ?_) (fun h => ?_)
  · have h0 : a = 0 := h
    rw [if_pos h0]
    refine Ev.succ ?_;simp only [cmp_Or_int.l0];refine Ev.yes (by simp [wrap64]) (Ev.yes (by simp [wrap64]) (Ev.yes (by simp [wrap64]) ?_))
    have e : rd [a, b] (wrap64 (0 + 1)) = b := by rw [show wrap64 (0 + 1) = 1 by unfold wrap64; omega]; rfl
    rw [e]
    refine Ev.cond (fun h1 => ?_) (fun h1 => Ev.some _);refine Ev.succ ?_;simp only [cmp_Or_int.l0]
    exact Ev.no (by simp [wrap64]) ((Ev.some _).eq h1.symm)
  · have h0 : ¬ a = 0 := h
    rw [if_neg h0]
    exact Ev.some _
theorem ev_cmp (x y : S41) : Ev (fun k => stamp_Compare.f k x.f0 x.f1 y.f0 y.f1) (cmpS x y) := by
  unfold stamp_Compare.f
  exact Ev.bind1 (cmp64_f _ _) (Ev.bind1 (cmpI_f _ _) (Ev.bind (ev_or _ _) (Ev.some _)))
theorem scheck_f (s : S41) : stamp_Check.f s.f0 s.f1 = some (if isS s = true then 0 else 10) := by
  unfold stamp_Check.f stamp_isNode.f isS
  by_cases h1 : s.f1 ≥ 1
  · rw [if_pos h1]
    simp only [Option.bind_some]
    by_cases h2 : s.f1 ≤ 7
    · rw [if_pos (decide_eq_true h2)]
      by_cases h3 : s.f0 < 1
      · rw [if_pos h3, if_neg (by simp; omega)]
      · rw [if_neg h3]
        by_cases h4 : s.f0 > 1099511627776
        · rw [if_pos h4, if_neg (by simp; omega)]
        · rw [if_neg h4, if_pos (by simp; omega)]
    · rw [if_neg (by simp; omega), if_neg (by simp; omega)]
  · rw [if_neg h1]
    simp only [Option.bind_some]
    rw [if_neg (by decide), if_neg (by simp; omega)]
def ascFrom (l : List S41) (j : Nat) : Prop := ∀ t, j ≤ t → 0 < t → (h : t < l.length) → cmpS (l[t - 1]'(by omega)) l[t] < 0
theorem asc_adj (l : List S41) : Asc l ↔ ascFrom l 0 := by
  constructor
  · intro h t _ h0 ht
    exact List.pairwise_iff_getElem.1 h (t - 1) t (by omega) ht (by omega)
  · intro h
    refine List.pairwise_iff_getElem.2 fun i j hi hj hij => ?_
    induction j with
    | zero => omega
    | succ j ih =>
      have h1 := h (j + 1) (Nat.zero_le _) (by omega) hj
      simp only [Nat.add_sub_cancel] at h1
      rcases Nat.eq_or_lt_of_le (Nat.le_of_lt_succ hij) with e | e
      · subst e; exact h1
      · exact cmpS_tr (ih (by omega) e) h1
theorem ascFrom_step {l : List S41} {j : Nat} (hj : j < l.length) : ascFrom l j ↔ (0 < j → cmpS (l[j - 1]'(by omega)) l[j] < 0) ∧ ascFrom l (j + 1) :=
  ⟨fun h => ⟨fun h0 => h j (Nat.le_refl _) h0 hj, fun t h1 h2 h3 => h t (by omega) h2 h3⟩, fun ⟨h, k⟩ t h1 h2 h3 => by
    rcases Nat.eq_or_lt_of_le h1 with rfl | h4
    · exact h h2
    · exact k t h4 h2 h3⟩
theorem ev_d2 (d : List S26) (a : Int) (l : List S41) (hl : l.length ≤ 9223372036854775807) (n i : Int) (p : Prop) (hn : Ev (fun k => deps_Check.l1 k a d n (wrap64 (i + 1))) (r60 p)) :
    ∀ (m j : Nat), j + m = l.length → Ev (fun k => deps_Check.l2 k a d n i l (l.length : Int) (j : Int) a l) (r60 ((∀ s ∈ l.drop j, isS s = true) ∧ ascFrom l j ∧ p))
  | 0, j, h => by
    refine Ev.succ ?_;simp only [deps_Check.l2];refine Ev.no (by omega) (hn.eq (r60_eq ?_))
    rw [List.drop_eq_nil_of_le (show l.length ≤ j by omega)]
    exact ⟨fun k => ⟨fun s hs => by simp at hs, fun t h1 _ h3 => by omega, k⟩, fun k => k.2.2⟩
  | m + 1, j, h => by
    have hj : j < l.length := by omega
    have ih := ev_d2 d a l hl n i p hn m (j + 1) (by omega)
    have hsp : (isS l[j] = true ∧ (0 < j → cmpS (l[j - 1]'(by omega)) l[j] < 0)) → (((∀ s ∈ l.drop (j + 1), isS s = true) ∧ ascFrom l (j + 1) ∧ p) ↔ ((∀ s ∈ l.drop j, isS s = true) ∧ ascFrom l j ∧ p)) := fun ⟨h1, h2⟩ => by
      rw [List.drop_eq_getElem_cons hj, ascFrom_step hj]
      simp only [List.mem_cons, forall_eq_or_imp]
      exact ⟨fun ⟨k1, k2, k3⟩ => ⟨⟨h1, k1⟩, ⟨h2, k2⟩, k3⟩, fun ⟨k1, k2, k3⟩ => ⟨k1.2, k2.2, k3⟩⟩
    refine Ev.succ ?_;simp only [deps_Check.l2]
    rw [rdS_nat l hj, w64_succ (n := j) (by omega), scheck_f]
    refine Ev.yes (by omega) (Ev.yes (by omega) (Ev.yes (by omega) (Ev.bind1 rfl ?_)))
    by_cases h1 : isS l[j] = true
    · rw [if_pos h1]
      refine Ev.yes rfl ?_;refine Ev.cond (fun h2 => ?_) (fun h2 => ?_)
      · have e : wrap64 ((j : Int) - 1) = ((j - 1 : Nat) : Int) := by rw [w64_of (by omega) (by omega)]; omega
        rw [e, rdS_nat l (show j - 1 < l.length by omega)]
        refine Ev.yes (by omega) (Ev.yes (by omega) (Ev.bind (ev_cmp _ _) ?_));refine Ev.cond (fun h3 => ?_) (fun h3 => ?_)
        · refine (Ev.some _).eq (r60_no fun k => ?_).symm
          have := k.2.1 j (Nat.le_refl _) (by omega) hj
          omega
        · exact ih.eq (r60_eq (hsp ⟨h1, fun _ => by omega⟩))
      · exact ih.eq (r60_eq (hsp ⟨h1, fun h0 => by omega⟩))
    · rw [if_neg h1]
      refine Ev.no (by decide) ((Ev.some _).eq (r60_no fun k => h1 ?_).symm)
      exact k.1 _ (by rw [List.drop_eq_getElem_cons hj]; exact List.mem_cons_self ..)
theorem ev_d1 (d : List S26) (hk : ∀ x ∈ d, x.f1.length ≤ 9223372036854775807) (hd : d.length ≤ 9223372036854775807) : ∀ (m i : Nat) (last : Int), i + m = d.length → (i = 0 ∧ last = -1 ∨ 0 < i ∧ 0 ≤ last ∧ ∃ y, d[i - 1]? = some y ∧ y.f0 = last) → Ev (fun k => deps_Check.l1 k last d (d.length : Int) (i : Int)) (r60 (tailOk d i))
  | 0, i, last, h, _ => by
    refine Ev.succ ?_;simp only [deps_Check.l1]
    exact Ev.no (by omega) ((Ev.some _).eq (r60_yes (fun j h1 h2 => by omega)).symm)
  | m + 1, i, last, h, hla => by
    have hi : i < d.length := by omega
    have hg : d[i]? = some d[i] := List.getElem?_eq_getElem hi
    have hx : ∀ x, d[i]? = some x → x = d[i] := fun x e => by rw [hg] at e; exact (Option.some.inj e).symm
    have hbad : ¬ okAt d i → Ev (fun k => deps_Check.j3 k d (d.length : Int) (i : Int) true d[i].f0 d[i].f1) (r60 (tailOk d i)) := fun hb => by
      refine Ev.succ ?_;simp only [deps_Check.j3]
      exact Ev.yes trivial ((Ev.some _).eq (r60_no (fun k => hb ((tailOk_step hi).1 k).1)).symm)
    refine Ev.succ ?_;simp only [deps_Check.l1]
    rw [rdD_nat d hi]
    refine Ev.yes (by omega) (Ev.yes (by omega) (Ev.yes (by omega) ?_));refine Ev.cond (fun h1 => hbad ?_) (fun h1 => ?_)
    · rintro ⟨x, e, k0, _, k, _⟩
      rw [hx x e] at k0 k
      rcases hla with ⟨_, rfl⟩ | ⟨h0, _, y, hy, rfl⟩
      · omega
      · have := k y h0 hy; omega
    by_cases h2 : d[i].f0 ≥ 8
    · rw [decide_eq_true h2]
      refine hbad ?_
      rintro ⟨x, e, _, k, _⟩
      rw [hx x e] at k
      omega
    · rw [decide_eq_false h2]
      refine Ev.succ ?_;simp only [deps_Check.j3]
      have hp : 0 ≤ d[i].f0 := by rcases hla with ⟨_, rfl⟩ | ⟨h0, h3, _⟩ <;> omega
      have hn := ev_d1 d hk hd m (i + 1) d[i].f0 (by omega) (.inr ⟨by omega, hp, d[i], by simp [hg], rfl⟩)
      rw [← w64_succ (n := i) (by omega)] at hn
      have h2' := ev_d2 d d[i].f0 d[i].f1 (hk _ (List.getElem_mem hi)) (d.length : Int) (i : Int) _ hn d[i].f1.length 0 (by omega)
      refine Ev.no (by decide) (h2'.eq (r60_eq ?_))
      rw [tailOk_step hi, ← asc_adj, List.drop_zero]
      constructor
      · rintro ⟨k1, k2, k3⟩
        refine ⟨⟨_, hg, hp, by omega, fun y h0 hy => ?_, k2, k1⟩, k3⟩
        rcases hla with ⟨h3, _⟩ | ⟨_, _, z, hz, rfl⟩
        · omega
        · rw [hz] at hy; injection hy with hy; rw [← hy]; omega
      · rintro ⟨⟨x, e, _, _, _, k2, k1⟩, k3⟩
        rw [hx x e] at k1 k2
        exact ⟨k1, k2, k3⟩
theorem ev_dsum (d : List S26) (hd : d.length ≤ 9223372036854775807) (r : Int) (hr : Ev (fun k => if (d.length : Int) > 8 then (deps_Check.j1 k d true) else (deps_Check.j1 k d (decide (wsum d > 512)))) r) : ∀ (m i : Nat), i + m = d.length → Ev (fun k => deps_Check.l0 k d (wsum (d.take i)) d (d.length : Int) (i : Int)) r
  | 0, i, h => by
    refine Ev.succ ?_;simp only [deps_Check.l0]
    rw [List.take_of_length_le (show d.length ≤ i by omega)]
    exact Ev.no (by omega) hr
  | m + 1, i, h => by
    have hi : i < d.length := by omega
    refine Ev.succ ?_;simp only [deps_Check.l0];refine Ev.yes (by omega) (Ev.yes (by omega) (Ev.yes (by omega) ?_))
    rw [rdD_nat d hi, w64_succ (by omega), ← foldl_take hi]
    exact ev_dsum d hd r hr m (i + 1) (by omega)
theorem ev_dcheck (d : List S26) (hk : ∀ x ∈ d, x.f1.length ≤ 9223372036854775807) (hd : d.length ≤ 9223372036854775807) : Ev (fun k => deps_Check.f k d) (chkD d) := by
  unfold deps_Check.f
  have hbig : (8 < d.length ∨ 512 < wsum d) → Ev (fun k => deps_Check.j1 k d true) (chkD d) := fun h => by
    refine Ev.succ ?_;simp only [deps_Check.j1]
    exact Ev.yes trivial ((Ev.some _).eq (by unfold chkD; rw [if_pos h]))
  refine ev_dsum d hd _ ?_ d.length 0 (by omega);refine Ev.cond (fun h => hbig (.inl (by omega))) (fun h => ?_)
  by_cases h5 : wsum d > 512
  · rw [decide_eq_true h5]; exact hbig (.inr h5)
  · rw [decide_eq_false h5]
    refine Ev.succ ?_;simp only [deps_Check.j1];refine Ev.no (by decide) ((ev_d1 d hk hd d.length 0 (-1) (by omega) (.inl ⟨rfl, rfl⟩)).eq ?_)
    unfold chkD
    rw [if_neg (by omega)]
def inI (x : Int) : Prop := -9223372036854775808 ≤ x ∧ x ≤ 9223372036854775807
theorem numOf_laid (x : Int) (r : List Int) : numOf (laidI x ++ r) 8 = u64 x := by
  unfold numOf
  rw [List.take_append_of_le_length (by rw [laidI_len]; omega), List.take_of_length_le (by rw [laidI_len]; omega)]
  unfold laidI
  rw [leNum_leBytes]
  have := u64_lt x
  exact Nat.mod_eq_of_lt (by omega)
theorem drop_laid (x : Int) (r : List Int) : (laidI x ++ r).drop 8 = r := by
  rw [List.drop_append_of_le_length (by rw [laidI_len]; omega), List.drop_eq_nil_of_le (by rw [laidI_len]; omega), List.nil_append]
theorem sInt_laid {x : Int} (hx : inI x) (r : List Int) : sInt (laidI x ++ r, false) = (x, (r, false)) := by
  rw [sInt_ok (by rw [List.length_append, laidI_len]; omega), numOf_laid, drop_laid, i64_u64 hx.1 hx.2]
def inS (s : S41) : Prop := inI s.f0 ∧ inI s.f1
theorem readS_laid {s : S41} (h : inS s) (r : List Int) : readS (laidS s ++ r) = s := by
  unfold readS laidS
  rw [List.append_assoc, numOf_laid, drop_laid, numOf_laid, i64_u64 h.1.1 h.1.2, i64_u64 h.2.1 h.2.2]
theorem laidSs_cons (s : S41) (l : List S41) : laidSs (s :: l) = laidS s ++ laidSs l := by unfold laidSs; simp
theorem readSs_laid : ∀ (l : List S41) (r : List Int), (∀ s ∈ l, inS s) → readSs l.length (laidSs l ++ r) = l
  | [], r, _ => rfl
  | s :: l, r, h => by
    have ih := readSs_laid l r (fun x hx => h x (List.mem_cons_of_mem _ hx))
    unfold readSs at ih ⊢
    rw [List.length_cons, List.range_succ_eq_map, List.map_cons, List.map_map]
    refine List.cons_eq_cons.2 ⟨?_, ?_⟩
    · rw [Nat.mul_zero, List.drop_zero, laidSs_cons, List.append_assoc, readS_laid (h s (List.mem_cons_self ..))]
    · conv => rhs; rw [← ih]
      refine List.map_congr_left fun k _ => ?_
      simp only [Function.comp]
      rw [laidSs_cons, List.append_assoc, show 16 * (k + 1) = 16 + 16 * k by omega, ← List.drop_drop, List.drop_append_of_le_length (by rw [laidS_len]; omega), (show (laidS s).drop 16 = [] from List.drop_eq_nil_of_le (by rw [laidS_len]; omega)), List.nil_append]
theorem sStamps_laid (l : List S41) (r : List Int) (hl : l.length ≤ 9223372036854775807) (h : ∀ s ∈ l, inS s) : sStamps (laidStamps l ++ r, false) = (l, (r, false)) := by
  have hn : i64 (numOf (laidI (l.length : Int) ++ (laidSs l ++ r)) 8) = (l.length : Int) := by
    rw [numOf_laid, i64_u64 (by omega) (by omega)]
  unfold sStamps laidStamps
  rw [List.append_assoc]
  simp only [hn, Int.toNat_natCast, drop_laid, readSs_laid l r h]
  rw [if_neg]
  · refine Prod.ext rfl (Prod.ext ?_ rfl)
    show List.drop (8 + 16 * l.length) (laidI (l.length : Int) ++ (laidSs l ++ r)) = r
    rw [← List.drop_drop, drop_laid, List.drop_append_of_le_length (by rw [laidSs_len]; omega), List.drop_eq_nil_of_le (by rw [laidSs_len]; omega), List.nil_append]
  · rintro (k | k)
    · cases k
    · unfold stOk at k
      rw [hn, List.length_append, List.length_append, laidI_len, laidSs_len] at k
      have := of_decide_eq_false k
      omega
structure InD (x : S26) : Prop where
  sh : inI x.f0
  len : x.f1.length ≤ 9223372036854775807
  ids : ∀ s ∈ x.f1, inS s
theorem laidDs_cons (x : S26) (d : List S26) : laidDs (x :: d) = laidD x ++ laidDs d := by unfold laidDs; simp
theorem pLoop_laid : ∀ (d : List S26) (k : Nat) (r : List Int), d.length < k → (∀ x ∈ d, InD x) → pLoop k (d.length : Int) (laidDs d ++ r, false) = (d, (r, false))
  | [], k + 1, r, _, _ => by unfold pLoop laidDs; rw [if_neg (by simp)]; rfl
  | x :: d, 0, r, h, _ => by simp at h
  | x :: d, k + 1, r, h, hd => by
    have hx := hd x (List.mem_cons_self ..)
    have ih := pLoop_laid d k r (by simp at h; omega) (fun y hy => hd y (List.mem_cons_of_mem _ hy))
    have e1 : sInt (laidDs (x :: d) ++ r, false) = (x.f0, (laidStamps x.f1 ++ (laidDs d ++ r), false)) := by
      rw [laidDs_cons]; unfold laidD; rw [List.append_assoc, List.append_assoc]; exact sInt_laid hx.sh _
    have e2 := sStamps_laid x.f1 (laidDs d ++ r) hx.len hx.ids
    unfold pLoop
    rw [if_pos (by simp), e1, e2]
    simp only
    rw [show ((x :: d).length : Int) - 1 = (d.length : Int) by simp, ih]
theorem pAll_laid (d : List S26) (r : List Int) (h8 : d.length ≤ 8) (hd : ∀ x ∈ d, InD x) : pAll (laidDeps d ++ r) = (d, (r, false)) := by
  unfold pAll laidDeps
  rw [List.append_assoc, sInt_laid ⟨by omega, by omega⟩]
  exact pLoop_laid d 9 r (by omega) hd
theorem Good.inD {d : List S26} {n : Nat} (h : Good d n) (hn : n ≤ 1000000) : ∀ x ∈ d, InD x := fun x hx => by
  have h1 := h.low x hx
  have h2 := Nat.le_trans (len_allD hx) h.all
  exact ⟨⟨by omega, by omega⟩, by omega, fun s hs => by
    have := of_decide_eq_true (h.is x hx s hs)
    exact ⟨⟨by omega, by omega⟩, ⟨by omega, by omega⟩⟩⟩
end Go.Proofs.YtaedlmeaconflaaGreat.P
end
section
set_option linter.unusedVariables false
set_option linter.unusedSimpArgs false
namespace Go.Proofs.YtaedlmeaconflaaGreat.P
open Go.RowKit Go.Sort Go.Shelf Go.Proofs.YtaedlmeaconflaaGreatW.PrintWords Go.Proofs.YtaedlmeaconflaaGreatW.PrintLast Go.Proofs.YtaedlmeaconflaaGreatW.PrintMore
def chkB (d : List S26) : Bool := decide (d.length ≤ 8 ∧ wsum d ≤ 512 ∧ (d.Pairwise fun x y => x.f0 < y.f0) ∧ ∀ x ∈ d, 0 ≤ x.f0 ∧ x.f0 < 8 ∧ Asc x.f1 ∧ ∀ s ∈ x.f1, isS s = true)
theorem chkB_iff (d : List S26) : chkB d = true ↔ chkD d = 0 := by
  unfold chkB
  rw [decide_eq_true_eq]
  constructor
  · rintro ⟨h1, h2, h3, h4⟩
    unfold chkD
    rw [if_neg (by omega)]
    refine r60_yes fun j _ hj => ?_
    obtain ⟨k1, k2, k3, k4⟩ := h4 d[j] (List.getElem_mem hj)
    refine ⟨d[j], List.getElem?_eq_getElem hj, k1, k2, fun y h0 hy => ?_, k3, k4⟩
    rw [List.getElem?_eq_getElem (show j - 1 < d.length by omega)] at hy
    rw [← Option.some.inj hy]
    exact List.pairwise_iff_getElem.1 h3 (j - 1) j (by omega) hj (by omega)
  · intro h
    obtain ⟨hg, hw⟩ := good_of h
    unfold chkD at h
    split at h
    · cases h
    · exact ⟨hg.len, by omega, hg.shards, fun x hx => ⟨(hg.low x hx).1, (hg.low x hx).2, hg.asc x hx, hg.is x hx⟩⟩
def parseOk (b : List Int) : Bool := okDone (pAll b).2 && chkB (pAll b).1 && decide (laidDeps (pAll b).1 = b)
theorem parseOk_iff (b : List Int) : parseOk b = true ↔ okDone (pAll b).2 = true ∧ chkD (pAll b).1 = 0 ∧ laidDeps (pAll b).1 = b := by
  unfold parseOk
  rw [Bool.and_eq_true, Bool.and_eq_true, chkB_iff, decide_eq_true_eq, and_assoc]
instance (b : List Int) : Decidable (bytesOk b) := inferInstanceAs (Decidable (∀ x ∈ b, 0 ≤ x ∧ x < 256))
def deps_Parse.f (b : List Int) : Option (List S26 × Int) := if bytesOk b ∧ b.length ≤ 100000000 then some (if parseOk b = true then ((pAll b).1, 0) else ([], 60)) else none
theorem sStamps_len (s : Sight) : 16 * (sStamps s).1.length ≤ s.1.length := by
  unfold sStamps
  split
  · simp
  · rename_i h
    rw [readSs_len]
    have : stOk s.1 = true := by
      cases hs : stOk s.1 with
      | true => rfl
      | false => exact absurd (.inr hs) h
    unfold stOk at this
    have := of_decide_eq_true this
    omega
theorem pLoop_small : ∀ (k : Nat) (n : Int) (s : Sight) (m : Nat), s.1.length ≤ m → ∀ x ∈ (pLoop k n s).1, 16 * x.f1.length ≤ m
  | 0, n, s, m, _ => by simp [pLoop]
  | k + 1, n, s, m, h => by
    unfold pLoop
    split
    · intro x hx
      have h1 := sInt_le s
      have h2 := sStamps_le (sInt s).2
      rcases List.mem_cons.1 hx with rfl | hx
      · have := sStamps_len (sInt s).2
        simp only; omega
      · exact pLoop_small k (n - 1) (sStamps (sInt s).2).2 m (by omega) x hx
    · simp
theorem laidDs_le : ∀ (d : List S26) (m : Nat), (∀ x ∈ d, 16 * x.f1.length ≤ m) → (laidDs d).length ≤ d.length * (16 + m)
  | [], m, _ => by simp [laidDs]
  | x :: d, m, h => by
    have := laidDs_le d m (fun y hy => h y (List.mem_cons_of_mem _ hy))
    have := h x (List.mem_cons_self ..)
    have e : (d.length + 1) * (16 + m) = d.length * (16 + m) + (16 + m) := Nat.succ_mul _ _
    rw [laidDs_cons, List.length_append, laidD_len, List.length_cons, e]
    omega
theorem deps_Parse.calls (A0 : Option Addr) (c0 : Nat) (l0 : List Int) (r0 : List S26) (r1 : Int) (w : World) (hr0 : Kd.C (Kd.int .u8) w A0 l0.length l0) (hc0 : l0.length ≤ c0) (h : deps_Parse.f l0 = some (r0, r1)) :
    Calls Tryz.prog 9 #[.slice A0 l0.length c0] w fun e w' => ∃ v0_ : Value, e = .returned (.tuple #[v0_, .int .i64 r1]) ∧ Kd.S k26 26 w' w.heap.size (fun _ => True) v0_ r0 ∧ Below w.heap.size w w' := by
  unfold deps_Parse.f at h
  split at h
  · rename_i hc
    have hs := pLoop_small 9 (sInt (l0, false)).1 (sInt (l0, false)).2 100000000 (Nat.le_trans (sInt_le (l0, false)) hc.2)
    have hl : (pAll l0).1.length ≤ 9 := pLoop_bytes 9 _ _ (sInt_bytes (s := (l0, false)) hc.1)
    have h9 : (laidDs (pAll l0).1).length ≤ 1099511627776 := by
      have h1 := laidDs_le (pAll l0).1 100000000 hs
      have : (pAll l0).1.length * (16 + 100000000) ≤ 9 * (16 + 100000000) := Nat.mul_le_mul_right _ hl
      omega
    obtain ⟨k, hk⟩ := (ev_dcheck (pAll l0).1 (fun x hx => by have := hs x hx; omega) (by omega)).get
    have hp := parse_any A0 c0 l0 w hr0 hc0 hc.1 (by omega) k _ hk h9
    have hi := parseOk_iff l0
    by_cases ho : parseOk l0 = true
    · rw [if_pos (hi.1 ho), if_pos (hi.1 ho)] at hp
      rw [if_pos ho] at h
      obtain ⟨rfl, rfl⟩ := Prod.mk.inj (Option.some.inj h)
      exact hp
    · rw [if_neg (fun k => ho (hi.2 k)), if_neg (fun k => ho (hi.2 k))] at hp
      rw [if_neg ho] at h
      obtain ⟨rfl, rfl⟩ := Prod.mk.inj (Option.some.inj h)
      exact hp
  · cases h
theorem laidI_bytes (x : Int) : bytesOk (laidI x) := leBytes_byte _ _
theorem parse_laid {d : List S26} (hc : chkD d = 0) : parseOk (laidDeps d) = true := by
  obtain ⟨hg, _⟩ := good_of hc
  have := pAll_laid d [] hg.len (hg.inD (by omega))
  rw [List.append_nil] at this
  rw [parseOk_iff, this]
  exact ⟨rfl, hc, rfl⟩
end Go.Proofs.YtaedlmeaconflaaGreat.P
end
section
set_option linter.unusedVariables false
set_option linter.unusedSimpArgs false
namespace Go.Proofs.YtaedlmeaconflaaGreat.P
structure DelInv {α : Type} (p : α → Bool) (xs ys : List α) (i j : Nat) : Prop where
  len : ys.length = xs.length
  lt : i < j
  le : j ≤ xs.length
  low : ys.take i = (xs.take j).filter (fun x => !p x)
  high : ys.drop j = xs.drop j
theorem DelInv.start {α : Type} {p : α → Bool} {xs : List α} {k : Nat} (hk : k < xs.length) (h : ∀ j (hj : j < xs.length), j < k → p xs[j] = false) (ht : p xs[k] = true) : DelInv p xs xs k (k + 1) where
  len := rfl
  lt := Nat.lt_succ_self _
  le := hk
  low := by
    rw [List.take_succ_eq_append_getElem hk, List.filter_append, List.filter_cons_of_neg (by simp [ht]), List.filter_nil, List.append_nil, List.filter_eq_self.2]
    intro x hx
    obtain ⟨j, hj, rfl⟩ := List.getElem_of_mem hx
    rw [List.length_take] at hj
    rw [List.getElem_take]
    simp [h j (by omega) (by omega)]
  high := rfl
theorem DelInv.get {α : Type} {p : α → Bool} {xs ys : List α} {i j : Nat} (h : DelInv p xs ys i j) (hj : j < xs.length) : ys[j]'(by rw [h.len]; exact hj) = xs[j] := by
  have h1 : (ys.drop j)[0]? = (xs.drop j)[0]? := by rw [h.high]
  rw [List.getElem?_drop, List.getElem?_drop, Nat.add_zero, List.getElem?_eq_getElem (by rw [h.len]; exact hj), List.getElem?_eq_getElem hj] at h1
  exact Option.some.inj h1
theorem DelInv.skip {α : Type} {p : α → Bool} {xs ys : List α} {i j : Nat} (h : DelInv p xs ys i j) (hj : j < xs.length) (hp : p xs[j] = true) : DelInv p xs ys i (j + 1) where
  len := h.len
  lt := Nat.lt_succ_of_lt h.lt
  le := hj
  low := by rw [h.low, List.take_succ_eq_append_getElem hj, List.filter_append, List.filter_cons_of_neg (by simp [hp]), List.filter_nil, List.append_nil]
  high := by rw [← List.drop_drop, h.high, List.drop_drop]
theorem DelInv.keep {α : Type} {p : α → Bool} {xs ys : List α} {i j : Nat} (h : DelInv p xs ys i j) (hj : j < xs.length) (hp : p xs[j] = false) : DelInv p xs (ys.set i xs[j]) (i + 1) (j + 1) where
  len := by rw [List.length_set]; exact h.len
  lt := Nat.succ_lt_succ h.lt
  le := hj
  low := by
    have hi : i < (ys.set i xs[j]).length := by rw [List.length_set, h.len]; have := h.lt; omega
    rw [List.take_succ_eq_append_getElem hi, List.getElem_set_self, List.take_set_of_le (Nat.le_refl _), h.low, List.take_succ_eq_append_getElem hj, List.filter_append, List.filter_cons_of_pos (by simp [hp]), List.filter_nil]
  high := by
    rw [List.drop_set_of_lt (by have := h.lt; omega), ← List.drop_drop, h.high, List.drop_drop]
theorem DelInv.done {α : Type} {p : α → Bool} {xs ys : List α} {i : Nat} (h : DelInv p xs ys i xs.length) : ys.take i = xs.filter (fun x => !p x) := by
  rw [h.low, List.take_length]
theorem DelInv.size {α : Type} {p : α → Bool} {xs ys : List α} {i : Nat} (h : DelInv p xs ys i xs.length) : (xs.filter (fun x => !p x)).length = i := by
  rw [← h.done, List.length_take, h.len]; have := h.lt; omega
end Go.Proofs.YtaedlmeaconflaaGreat.P
end
section
set_option linter.unusedVariables false
set_option linter.unusedSimpArgs false

end
section
set_option linter.unusedVariables false
set_option linter.unusedSimpArgs false
namespace Go.Proofs.YtaedlmeaconflaaGreat.P
open Go.RowKit Go.Shelf Go.Proofs.YtaedlmeaconflaaGreatW.PrintWords Go.Proofs.YtaedlmeaconflaaGreatW.PrintLast Go.Proofs.YtaedlmeaconflaaGreatW.PrintMore
abbrev pD (s : Int × Option Addr × Nat × Nat) : Value × Value := (.int .i64 s.1, .slice s.2.1 s.2.2.1 s.2.2.2)
def RowD (w : World) (base : Nat) (v : Value) (xs : List (Int × Option Addr × Nat × Nat)) : Prop := w.ownsRow base 26 2 v xs.length (enc2 (xs.map pD))
theorem RowD.at_ {w : World} {base g n cap : Nat} {xs : List (Int × Option Addr × Nat × Nat)} (h : RowD w base (.slice (some ⟨g, 0, none⟩) n cap) xs) (i : Nat) (s : Int × Option Addr × Nat × Nat) (hx : xs[i]? = some s) :
    w.cell? ⟨g, i * 2, none⟩ = some (.int .i64 s.1) ∧ w.cell? ⟨g, i * 2 + 1, none⟩ = some (.slice s.2.1 s.2.2.1 s.2.2.2) ∧ w.frozen? ⟨g, i * 2, none⟩ = false ∧ w.frozen? ⟨g, i * 2 + 1, none⟩ = false := by
  obtain rfl : n = xs.length := by
    obtain ⟨_, _, e⟩ := own_slice h
    injection e
  have hl := (List.getElem?_eq_some_iff.1 hx).1
  have hE := enc2_at (xs.map pD) i
  rw [List.getElem?_map, hx] at hE
  exact ⟨(World.ownsRow.cellAt h (i * 2) (by omega)).trans hE.1, (World.ownsRow.cellAt h (i * 2 + 1) (by omega)).trans hE.2, World.ownsRow.frozenAt h _, World.ownsRow.frozenAt h _⟩
theorem RowD.store {w : World} {base g n cap : Nat} {xs : List (Int × Option Addr × Nat × Nat)} (h : RowD w base (.slice (some ⟨g, 0, none⟩) n cap) xs) (i : Nat) (s : Int × Option Addr × Nat × Nat) :
    RowD ((w.setCell ⟨g, i * 2, none⟩ (.int .i64 s.1)).setCell ⟨g, i * 2 + 1, none⟩ (.slice s.2.1 s.2.2.1 s.2.2.2)) base (.slice (some ⟨g, 0, none⟩) n cap) (xs.set i s) := by
  obtain rfl : n = xs.length := by
    obtain ⟨_, _, e⟩ := own_slice h
    injection e
  have h1 := (World.ownsRow.stored h (i * 2) (.int .i64 s.1)).1
  have h2 := (World.ownsRow.stored h1 (i * 2 + 1) (.slice s.2.1 s.2.2.1 s.2.2.2)).1
  rw [enc2_set] at h2
  unfold RowD
  rw [List.length_set, List.map_set]
  exact h2
end Go.Proofs.YtaedlmeaconflaaGreat.P
end
section
set_option linter.unusedVariables false
set_option linter.unusedSimpArgs false

end
section
set_option linter.unusedVariables false
set_option linter.unusedSimpArgs false
namespace Go.Proofs.YtaedlmeaconflaaGreat.P
open Go.RowKit Go.Sort Go.Shelf Go.Proofs.YtaedlmeaconflaaGreatW.PrintWords Go.Proofs.YtaedlmeaconflaaGreatW.PrintLast Go.Proofs.YtaedlmeaconflaaGreatW.PrintMore
abbrev ZD := S26 × (Int × Option Addr × Nat × Nat)
def NZ (w : World) (base : Nat) (ok : Nat → Prop) (v : Value) (zs : List ZD) : Prop :=
  (∀ k, v.ownBlock = some k → ok k) ∧ RowD w base v (zs.map (·.2)) ∧ ∀ z ∈ zs, z.2.1 = z.1.f0 ∧ Kd.FK k26 w (fun k => ok k ∧ some k ≠ v.ownBlock) z.1 [.int .i64 z.2.1, .slice z.2.2.1 z.2.2.2.1 z.2.2.2.2]
theorem chunks_enc2 (ps : List (Value × Value)) : Kd.chunks 2 ps.length (enc2 ps) = ps.map fun p => [p.1, p.2] := by
  apply List.ext_getElem?
  intro j
  by_cases hj : j < ps.length
  · rw [Kd.chunks_at hj, List.getElem?_map, List.getElem?_eq_getElem hj]
    have h := enc2_at ps j
    rw [List.getElem?_eq_getElem hj] at h
    have hl := enc2_len ps
    have h1 : j * 2 < (enc2 ps).length := by omega
    have h2 : j * 2 + 1 < (enc2 ps).length := by omega
    rw [List.getElem?_eq_getElem h1, List.getElem?_eq_getElem h2] at h
    rw [List.drop_eq_getElem_cons h1, List.drop_eq_getElem_cons h2, Option.some.inj h.1, Option.some.inj h.2]
    rfl
  · rw [List.getElem?_eq_none (by rw [Kd.chunks_length]; omega), List.getElem?_eq_none (by rw [List.length_map]; omega)]
theorem NZ.N {w : World} {base : Nat} {ok : Nat → Prop} {v : Value} {zs : List ZD} (h : NZ w base ok v zs) : Kd.N k26 26 w base ok v (zs.map (·.1)) := by
  obtain ⟨h0, ho, hf⟩ := h
  refine ⟨h0, zs.map fun z => [.int .i64 z.2.1, .slice z.2.2.1 z.2.2.2.1 z.2.2.2.2], by simp, ⟨fun k hk => hk.symm, enc2 ((zs.map (·.2)).map pD), by show World.ownsRow w base 26 2 v _ _; simpa [RowD] using ho, ?_⟩, fun j x c hx hc => ?_⟩
  · refine ⟨by show (enc2 _).length = _ * 2; rw [enc2_len]; simp, fun j p hj => ?_⟩
    rw [List.getElem?_map] at hj
    cases hz : zs[j]? with
    | none => rw [hz] at hj; cases hj
    | some z =>
      rw [hz] at hj
      have hj := Option.some.inj hj
      have hlt := (List.getElem?_eq_some_iff.1 hz).1
      have hc := Kd.chunks_at (sz := 2) (inner := enc2 ((zs.map (·.2)).map pD)) (n := ((zs.map (·.2)).map pD).length) (j := j) (by simpa using hlt)
      rw [chunks_enc2, List.getElem?_map, List.getElem?_map, List.getElem?_map, hz] at hc
      have hc := Option.some.inj hc
      have hc' : ((enc2 ((zs.map (·.2)).map pD)).drop (j * 2)).take 2 = [(pD z.2).1, (pD z.2).2] := hc.symm
      refine ⟨hc'.trans hj, ?_, fun u hu => ?_⟩
      · show (((enc2 ((zs.map (·.2)).map pD)).drop (j * 2)).take 2).length = 2
        rw [hc']; rfl
      · have hu : u ∈ ((enc2 ((zs.map (·.2)).map pD)).drop (j * 2)).take 2 := hu
        rw [hc'] at hu
        simp at hu
        rcases hu with rfl | rfl <;> rfl
  · rw [List.getElem?_map] at hx hc
    cases hz : zs[j]? with
    | none => rw [hz] at hx; cases hx
    | some z =>
      rw [hz] at hx hc
      rw [← Option.some.inj hx, ← Option.some.inj hc]
      exact (hf z (List.mem_of_getElem? hz)).2
theorem exists_list {α : Type} {β : Type} (R : α → Nat → β → Prop) : ∀ (xs : List α) (i : Nat), (∀ j x, xs[j]? = some x → ∃ y, R x (i + j) y) → ∃ ys : List β, ys.length = xs.length ∧ ∀ j x y, xs[j]? = some x → ys[j]? = some y → R x (i + j) y
  | [], _, _ => ⟨[], rfl, fun j x y h => by simp at h⟩
  | x :: xs, i, h => by
    obtain ⟨y, hy⟩ := h 0 x rfl
    obtain ⟨ys, hl, hr⟩ := exists_list R xs (i + 1) (fun j z hz => by have := h (j + 1) z (by simpa using hz); rwa [show i + 1 + j = i + (j + 1) by omega])
    refine ⟨y :: ys, by simp [hl], fun j a b ha hb => ?_⟩
    rcases j with _ | j
    · simp at ha hb; rw [← ha, ← hb]; exact hy
    · have := hr j a b (by simpa using ha) (by simpa using hb)
      rwa [show i + 1 + j = i + (j + 1) by omega] at this
theorem NZ.of {w : World} {base : Nat} {ok : Nat → Prop} {v : Value} {xs : List S26} (h : Kd.N k26 26 w base ok v xs) : ∃ zs : List ZD, zs.map (·.1) = xs ∧ NZ w base ok v zs := by
  obtain ⟨h0, rows, hl, ⟨_, inner, ho, hr⟩, hf⟩ := h
  obtain ⟨ps, hpl, hp⟩ := exists_list (fun (x : S26) j (p : Int × Option Addr × Nat × Nat) => rows[j]? = some [.int .i64 p.1, .slice p.2.1 p.2.2.1 p.2.2.2] ∧ p.1 = x.f0) xs 0 (fun j x hx => by
    have hj := (List.getElem?_eq_some_iff.1 hx).1
    have hc := List.getElem?_eq_getElem (l := rows) (i := j) (by omega)
    obtain ⟨A, c, e, _⟩ := k26_open (Kd.FK_now (hf j x _ hx hc))
    exact ⟨(x.f0, A, x.f1.length, c), by rw [Nat.zero_add, hc, e], rfl⟩)
  simp only [Nat.zero_add] at hp
  have hfst : (xs.zip ps).map (·.1) = xs := by rw [List.map_fst_zip]; omega
  have hsnd : (xs.zip ps).map (·.2) = ps := by rw [List.map_snd_zip]; omega
  have hrows : rows = ps.map fun p => [.int .i64 p.1, .slice p.2.1 p.2.2.1 p.2.2.2] := by
    apply List.ext_getElem?
    intro j
    by_cases hj : j < xs.length
    · rw [(hp j _ _ (List.getElem?_eq_getElem hj) (List.getElem?_eq_getElem (show j < ps.length by omega))).1, List.getElem?_map, List.getElem?_eq_getElem (show j < ps.length by omega)]
      rfl
    · rw [List.getElem?_eq_none (by omega), List.getElem?_eq_none (by rw [List.length_map]; omega)]
  have hin : inner = enc2 (ps.map pD) := by
    have h1 : inner.length = rows.length * 2 := hr.1
    apply List.ext_getElem?
    intro t
    by_cases ht : t < inner.length
    · have hj : t / 2 < ps.length := by omega
      obtain ⟨hq, _, _⟩ := hr.2 (t / 2) rows[t / 2] (List.getElem?_eq_getElem (by omega))
      have hq : (inner.drop (t / 2 * 2)).take 2 = rows[t / 2] := hq
      have hrw : rows[t / 2]'(by omega) = [.int .i64 ps[t / 2].1, .slice ps[t / 2].2.1 ps[t / 2].2.2.1 ps[t / 2].2.2.2] := by
        have : rows[t / 2]? = (ps.map fun p => [Value.int .i64 p.1, .slice p.2.1 p.2.2.1 p.2.2.2])[t / 2]? := by rw [← hrows]
        rw [List.getElem?_eq_getElem (by omega), List.getElem?_map, List.getElem?_eq_getElem hj] at this
        exact Option.some.inj this
      rw [hrw] at hq
      have he := enc2_at (ps.map pD) (t / 2)
      rw [List.getElem?_map, List.getElem?_eq_getElem hj] at he
      have g : ∀ u, u < 2 → inner[t / 2 * 2 + u]? = ([.int .i64 ps[t / 2].1, .slice ps[t / 2].2.1 ps[t / 2].2.2.1 ps[t / 2].2.2.2] : List Value)[u]? := fun u hu => by
        rw [← hq, List.getElem?_take, if_pos hu, List.getElem?_drop]
      rcases Nat.mod_two_eq_zero_or_one t with h2 | h2
      · have e2 : t / 2 * 2 = t := by omega
        have := g 0 (by omega)
        rw [Nat.add_zero, e2] at this
        rw [e2] at he
        rw [this, he.1]; rfl
      · have e2 : t / 2 * 2 + 1 = t := by omega
        have := g 1 (by omega)
        rw [e2] at this he
        rw [this, he.2]; rfl
    · rw [List.getElem?_eq_none (by omega), List.getElem?_eq_none (by rw [enc2_len, List.length_map]; omega)]
  refine ⟨xs.zip ps, hfst, h0, ?_, fun z hz => ?_⟩
  · rw [hsnd]
    unfold RowD
    rw [← hin]
    have : rows.length = ps.length := by omega
    rw [← this]
    exact ho
  · obtain ⟨j, hj, rfl⟩ := List.mem_iff_getElem.1 hz
    rw [List.length_zip] at hj
    have hx : xs[j]? = some xs[j] := List.getElem?_eq_getElem (by omega)
    have hy : ps[j]? = some ps[j] := List.getElem?_eq_getElem (by omega)
    obtain ⟨h1, h2⟩ := hp j _ _ hx hy
    rw [List.getElem_zip]
    exact ⟨h2, hf j _ _ hx h1⟩
end Go.Proofs.YtaedlmeaconflaaGreat.P
end
section
set_option linter.unusedVariables false
set_option linter.unusedSimpArgs false

end
section
set_option linter.unusedVariables false
set_option linter.unusedSimpArgs false
namespace Go.Proofs.YtaedlmeaconflaaGreat.P
open Go.RowKit Go.Proofs.YtaedlmeaconflaaGreatW.PrintWords Go.Proofs.YtaedlmeaconflaaGreatW.PrintLast Go.Proofs.YtaedlmeaconflaaGreatW.PrintMore
structure REyeIs (w : World) (g ab : Nat) (B : List Int) (i : Nat) (bl : Bool) : Prop where
  ne : ab ≠ g ∨ B = []
  old : ab < w.heap.size
  le : i ≤ B.length
  ex : ∃ A c, Blk w g 111 #[.slice A B.length c, .int .i64 (i : Int), .bool bl] ∧ B.length ≤ c ∧ c ≤ 9223372036854775807 ∧ Kd.F (Kd.int .u8) w (· = ab) A B.length B
section
variable {w w' : World} {g ab i : Nat} {B : List Int} {bl : Bool}
theorem REyeIs.upd {S : Nat → Prop} (h : REyeIs w g ab B i bl) (hu : Upd w w' S) (hg : ¬ S g) (ha : ¬ S ab) : REyeIs w' g ab B i bl := by
  obtain ⟨A, c, hB, hc, hm, hF⟩ := h.ex
  exact ⟨h.ne, Nat.lt_of_lt_of_le h.old hu.size, h.le, A, c, hB.upd hu hg, hc, hm, Kd.F_step hF (fun k hk hlt => hu.block k hlt (hk ▸ ha))⟩
theorem REyeIs.below (h : REyeIs w g ab B i bl) (hb : Below w.heap.size w w') : REyeIs w' g ab B i bl := h.upd (Upd.of_below hb (fun _ => False)) (fun h => h) (fun h => h)
theorem REyeIs.lt (h : REyeIs w g ab B i bl) : g < w.heap.size := by obtain ⟨A, c, hB, _⟩ := h.ex; exact hB.lt
theorem REyeIs.turn {A : Option Addr} {c j : Nat} {bl' : Bool} (h : REyeIs w g ab B i bl) (hu : Upd w w' (· = g)) (hB : Blk w' g 111 #[.slice A B.length c, .int .i64 (j : Int), .bool bl']) (hj : j ≤ B.length) (hc : B.length ≤ c) (hm : c ≤ 9223372036854775807) (hF : Kd.F (Kd.int .u8) w (· = ab) A B.length B) : REyeIs w' g ab B j bl' := by
  refine ⟨h.ne, Nat.lt_of_lt_of_le h.old hu.size, hj, A, c, hB, hc, hm, ?_⟩
  rcases h.ne with hne | hnil
  · exact Kd.F_step hF (fun k hk hlt => hu.block k hlt (fun e => hne (hk ▸ e)))
  · rw [hnil]; exact F_zero A
set_option maxHeartbeats 1000000 in
set_option maxRecDepth 100000 in
theorem rftake_bad (h : REyeIs w g ab B i bl) (n : Int) (hn : bl = true ∨ ((B.length - i : Nat) : Int) < n) : Calls Tryz.prog 107 #[ptr g, .int .i64 n] w fun e w' => e = .returned (.tuple #[.slice none 0 0, .bool false]) ∧ REyeIs w' g ab B i true ∧ Upd w w' (· = g) := by
  obtain ⟨A, c, hB, hc, hm, hF⟩ := h.ex
  have hle := h.le
  have hmx := (reads_F hF).2.1
  have hc0 : w.cell? ⟨g, 0, none⟩ = some (.slice A B.length c) := hB.cell 0
  have hc1 : w.cell? ⟨g, 1, none⟩ = some (.int .i64 i) := hB.cell 1
  have hc2 : w.cell? ⟨g, 2, none⟩ = some (.bool bl) := hB.cell 2
  have hz2 := hB.frozen 2
  have hu : Upd w (w.drew.setCell ⟨g, 2, none⟩ (.bool true)) (· = g) := ((Upd.refl w (· = g)).drew).setCell (p := ⟨g, 2, none⟩) (.inl rfl) _
  have hE := REyeIs.turn (bl' := true) h hu (hB.drew.set_ 2 (.bool true)) hle hc hm hF
  have HE := Lib.hid (And.intro hE hu)
  clear h hB hF hu hE hc hm
  go_enter Tryz.func107, Tryz.ntmps107
  go_upto_region 1 with fail
  cases bl with
  | true =>
    refine wp_region_held (S := (fun W => W.cell? ⟨g, 2, none⟩ = some (.bool true))) (by kernel_rfl) ?_;simp only [List.size_toArray, List.length_cons, List.length_nil, Nat.zero_add, Nat.reduceAdd]
    have hHeld : ((fun W => W.cell? ⟨g, 2, none⟩ = some (.bool true))) w.drew := hc2
    refine wpAnyH_take (i := 0) (v := ?_) rfl (by kernel_rfl) (by kernel_rfl) (by kernel_rfl) (fun _ _ _ h => h) (Or.inl ⟨by rfl, ?_⟩) (by assumption) ?_;rotate_left
    · (intro w hSw; (try dsimp only at hSw); go_split_ands; go_simp; try with_reducible rfl)
    try simp only [List.getElem_toArray, List.getElem_cons_succ, List.getElem_cons_zero, Act.put, List.setIfInBounds_toArray, List.set_cons_zero, List.set_cons_succ]
    refine wpAnyH_take (i := 1) (v := ?_) rfl (by kernel_rfl) (by kernel_rfl) (by kernel_rfl) (fun _ _ _ h => h) (Or.inl ⟨by rfl, ?_⟩) (by assumption) ?_;rotate_left
    · (intro w hSw; (try dsimp only at hSw); go_split_ands; go_simp; try with_reducible rfl)
    try simp only [List.getElem_toArray, List.getElem_cons_succ, List.getElem_cons_zero, Act.put, List.setIfInBounds_toArray, List.set_cons_zero, List.set_cons_succ]
    refine wpAnyH_take (i := 2) (v := ?_) rfl (by kernel_rfl) (by kernel_rfl) (by kernel_rfl) (fun _ _ _ h => h) (Or.inl ⟨by rfl, ?_⟩) (by assumption) ?_;rotate_left
    · (intro w hSw; (try dsimp only at hSw); go_split_ands; go_simp; try with_reducible rfl)
    try simp only [List.getElem_toArray, List.getElem_cons_succ, List.getElem_cons_zero, Act.put, List.setIfInBounds_toArray, List.set_cons_zero, List.set_cons_succ]
    refine wpAnyH_take (i := 3) (v := ?_) rfl (by kernel_rfl) (by kernel_rfl) (by kernel_rfl) (fun _ _ _ h => h) (Or.inl ⟨by rfl, ?_⟩) (by assumption) ?_;rotate_left
    · (intro w hSw; (try dsimp only at hSw); go_split_ands; go_simp; try with_reducible rfl)
    try simp only [List.getElem_toArray, List.getElem_cons_succ, List.getElem_cons_zero, Act.put, List.setIfInBounds_toArray, List.set_cons_zero, List.set_cons_succ]
    refine wpAnyH_take (i := 4) (v := ?_) rfl (by kernel_rfl) (by kernel_rfl) (by kernel_rfl) (fun _ _ _ h => h) (Or.inl ⟨by rfl, ?_⟩) (by assumption) ?_;rotate_left
    · (intro w hSw; (try dsimp only at hSw); go_split_ands; go_simp; try with_reducible rfl)
    try simp only [List.getElem_toArray, List.getElem_cons_succ, List.getElem_cons_zero, Act.put, List.setIfInBounds_toArray, List.set_cons_zero, List.set_cons_succ]
    refine wpAnyH_take (i := 5) (v := undef) rfl (by kernel_rfl) (by kernel_rfl) (by kernel_rfl) (fun _ _ _ h => h) (Or.inr ⟨by rfl, rfl⟩) (by assumption) ?_
    try simp only [List.getElem_toArray, List.getElem_cons_succ, List.getElem_cons_zero, Act.put, List.setIfInBounds_toArray, List.set_cons_zero, List.set_cons_succ]
    refine wpAnyH_take (i := 6) (v := undef) rfl (by kernel_rfl) (by kernel_rfl) (by kernel_rfl) (fun _ _ _ h => h) (Or.inr ⟨by rfl, rfl⟩) (by assumption) ?_
    try simp only [List.getElem_toArray, List.getElem_cons_succ, List.getElem_cons_zero, Act.put, List.setIfInBounds_toArray, List.set_cons_zero, List.set_cons_succ]
    refine wpAnyH_take (i := 7) (v := undef) rfl (by kernel_rfl) (by kernel_rfl) (by kernel_rfl) (fun _ _ _ h => h) (Or.inr ⟨by rfl, rfl⟩) (by assumption) ?_
    try simp only [List.getElem_toArray, List.getElem_cons_succ, List.getElem_cons_zero, Act.put, List.setIfInBounds_toArray, List.set_cons_zero, List.set_cons_succ]
    refine wpAnyH_take (i := 8) (v := undef) rfl (by kernel_rfl) (by kernel_rfl) (by kernel_rfl) (fun _ _ _ h => h) (Or.inr ⟨by rfl, rfl⟩) (by assumption) ?_
    try simp only [List.getElem_toArray, List.getElem_cons_succ, List.getElem_cons_zero, Act.put, List.setIfInBounds_toArray, List.set_cons_zero, List.set_cons_succ]
    refine wpAnyH_take (i := 9) (v := undef) rfl (by kernel_rfl) (by kernel_rfl) (by kernel_rfl) (fun _ _ _ h => h) (Or.inr ⟨by rfl, rfl⟩) (by assumption) ?_
    try simp only [List.getElem_toArray, List.getElem_cons_succ, List.getElem_cons_zero, Act.put, List.setIfInBounds_toArray, List.set_cons_zero, List.set_cons_succ]
    refine wpAnyH_take (i := 10) (v := undef) rfl (by kernel_rfl) (by kernel_rfl) (by kernel_rfl) (fun _ _ _ h => h) (Or.inr ⟨by rfl, rfl⟩) (by assumption) ?_
    try simp only [List.getElem_toArray, List.getElem_cons_succ, List.getElem_cons_zero, Act.put, List.setIfInBounds_toArray, List.set_cons_zero, List.set_cons_succ]
    refine wpAnyH_take (i := 11) (v := undef) rfl (by kernel_rfl) (by kernel_rfl) (by kernel_rfl) (fun _ _ _ h => h) (Or.inr ⟨by rfl, rfl⟩) (by assumption) ?_
    try simp only [List.getElem_toArray, List.getElem_cons_succ, List.getElem_cons_zero, Act.put, List.setIfInBounds_toArray, List.set_cons_zero, List.set_cons_succ]
    refine wpAnyH_take (i := 12) (v := undef) rfl (by kernel_rfl) (by kernel_rfl) (by kernel_rfl) (fun _ _ _ h => h) (Or.inr ⟨by rfl, rfl⟩) (by assumption) ?_
    try simp only [List.getElem_toArray, List.getElem_cons_succ, List.getElem_cons_zero, Act.put, List.setIfInBounds_toArray, List.set_cons_zero, List.set_cons_succ]
    refine wpAnyH_take (i := 13) (v := undef) rfl (by kernel_rfl) (by kernel_rfl) (by kernel_rfl) (fun _ _ _ h => h) (Or.inr ⟨by rfl, rfl⟩) (by assumption) ?_
    try simp only [List.getElem_toArray, List.getElem_cons_succ, List.getElem_cons_zero, Act.put, List.setIfInBounds_toArray, List.set_cons_zero, List.set_cons_succ]
    refine wpAnyH_take (i := 14) (v := undef) rfl (by kernel_rfl) (by kernel_rfl) (by kernel_rfl) (fun _ _ _ h => h) (Or.inr ⟨by rfl, rfl⟩) (by assumption) ?_
    try simp only [List.getElem_toArray, List.getElem_cons_succ, List.getElem_cons_zero, Act.put, List.setIfInBounds_toArray, List.set_cons_zero, List.set_cons_succ]
    refine wpAnyH_take (i := 15) (v := undef) rfl (by kernel_rfl) (by kernel_rfl) (by kernel_rfl) (fun _ _ _ h => h) (Or.inr ⟨by rfl, rfl⟩) (by assumption) ?_
    try simp only [List.getElem_toArray, List.getElem_cons_succ, List.getElem_cons_zero, Act.put, List.setIfInBounds_toArray, List.set_cons_zero, List.set_cons_succ]
    refine wpAnyH_take (i := 16) (v := undef) rfl (by kernel_rfl) (by kernel_rfl) (by kernel_rfl) (fun _ _ _ h => h) (Or.inr ⟨by rfl, rfl⟩) (by assumption) ?_
    try simp only [List.getElem_toArray, List.getElem_cons_succ, List.getElem_cons_zero, Act.put, List.setIfInBounds_toArray, List.set_cons_zero, List.set_cons_succ]
    refine wpAnyH_take (i := 17) (v := ?_) rfl (by kernel_rfl) (by kernel_rfl) (by kernel_rfl) (fun _ _ _ h => h) (Or.inl ⟨by rfl, ?_⟩) (by assumption) ?_;rotate_left
    · (intro w hSw; (try dsimp only at hSw); go_split_ands; go_simp; try with_reducible rfl)
    try simp only [List.getElem_toArray, List.getElem_cons_succ, List.getElem_cons_zero, Act.put, List.setIfInBounds_toArray, List.set_cons_zero, List.set_cons_succ]
    refine wpAnyH_done (by kernel_rfl) ?_ _
    go_wp2
    go_ret2
    exact ⟨rfl, HE.out⟩
  | false =>
    have hlt : ((B.length - i : Nat) : Int) < n := by rcases hn with h | h; cases h; exact h
    have e1 : IntKind.i64.wrap ((B.length : Int) - i) = ((B.length - i : Nat) : Int) := by rw [Go.IntWalk.i64_in _ (by omega)]; omega
    generalize B.length - i = m at *
    have d1 : decide ((m : Int) < n) = true := decide_eq_true hlt
    refine wp_region_held (S := (fun W => W.cell? ⟨g, 2, none⟩ = some (.bool false) ∧ W.cell? ⟨g, 0, none⟩ = some (.slice A B.length c) ∧ W.cell? ⟨g, 1, none⟩ = some (.int .i64 i))) (by kernel_rfl) ?_;simp only [List.size_toArray, List.length_cons, List.length_nil, Nat.zero_add, Nat.reduceAdd]
    have hHeld : ((fun W => W.cell? ⟨g, 2, none⟩ = some (.bool false) ∧ W.cell? ⟨g, 0, none⟩ = some (.slice A B.length c) ∧ W.cell? ⟨g, 1, none⟩ = some (.int .i64 i))) w.drew := ⟨hc2, hc0, hc1⟩
    refine wpAnyH_take (i := 0) (v := ?_) rfl (by kernel_rfl) (by kernel_rfl) (by kernel_rfl) (fun _ _ _ h => h) (Or.inl ⟨by rfl, ?_⟩) (by assumption) ?_;rotate_left
    · (intro w hSw; (try dsimp only at hSw); go_split_ands; go_simp; try with_reducible rfl)
    try simp only [List.getElem_toArray, List.getElem_cons_succ, List.getElem_cons_zero, Act.put, List.setIfInBounds_toArray, List.set_cons_zero, List.set_cons_succ]
    refine wpAnyH_take (i := 1) (v := ?_) rfl (by kernel_rfl) (by kernel_rfl) (by kernel_rfl) (fun _ _ _ h => h) (Or.inl ⟨by rfl, ?_⟩) (by assumption) ?_;rotate_left
    · (intro w hSw; (try dsimp only at hSw); go_split_ands; go_simp; try with_reducible rfl)
    try simp only [List.getElem_toArray, List.getElem_cons_succ, List.getElem_cons_zero, Act.put, List.setIfInBounds_toArray, List.set_cons_zero, List.set_cons_succ]
    refine wpAnyH_take (i := 2) (v := ?_) rfl (by kernel_rfl) (by kernel_rfl) (by kernel_rfl) (fun _ _ _ h => h) (Or.inl ⟨by rfl, ?_⟩) (by assumption) ?_;rotate_left
    · (intro w hSw; (try dsimp only at hSw); go_split_ands; go_simp; try with_reducible rfl)
    try simp only [List.getElem_toArray, List.getElem_cons_succ, List.getElem_cons_zero, Act.put, List.setIfInBounds_toArray, List.set_cons_zero, List.set_cons_succ]
    refine wpAnyH_take (i := 3) (v := ?_) rfl (by kernel_rfl) (by kernel_rfl) (by kernel_rfl) (fun _ _ _ h => h) (Or.inl ⟨by rfl, ?_⟩) (by assumption) ?_;rotate_left
    · (intro w hSw; (try dsimp only at hSw); go_split_ands; go_simp; try with_reducible rfl)
    try simp only [List.getElem_toArray, List.getElem_cons_succ, List.getElem_cons_zero, Act.put, List.setIfInBounds_toArray, List.set_cons_zero, List.set_cons_succ]
    refine wpAnyH_take (i := 4) (v := ?_) rfl (by kernel_rfl) (by kernel_rfl) (by kernel_rfl) (fun _ _ _ h => h) (Or.inl ⟨by rfl, ?_⟩) (by assumption) ?_;rotate_left
    · (intro w hSw; (try dsimp only at hSw); go_split_ands; go_simp; try with_reducible rfl)
    try simp only [List.getElem_toArray, List.getElem_cons_succ, List.getElem_cons_zero, Act.put, List.setIfInBounds_toArray, List.set_cons_zero, List.set_cons_succ]
    refine wpAnyH_take (i := 5) (v := ?_) rfl (by kernel_rfl) (by kernel_rfl) (by kernel_rfl) (fun _ _ _ h => h) (Or.inl ⟨by rfl, ?_⟩) (by assumption) ?_;rotate_left
    · (intro w hSw; (try dsimp only at hSw); go_split_ands; go_simp; try with_reducible rfl)
    try simp only [List.getElem_toArray, List.getElem_cons_succ, List.getElem_cons_zero, Act.put, List.setIfInBounds_toArray, List.set_cons_zero, List.set_cons_succ]
    refine wpAnyH_take (i := 6) (v := ?_) rfl (by kernel_rfl) (by kernel_rfl) (by kernel_rfl) (fun _ _ _ h => h) (Or.inl ⟨by rfl, ?_⟩) (by assumption) ?_;rotate_left
    · (intro w hSw; (try dsimp only at hSw); go_split_ands; go_simp; try with_reducible rfl)
    try simp only [List.getElem_toArray, List.getElem_cons_succ, List.getElem_cons_zero, Act.put, List.setIfInBounds_toArray, List.set_cons_zero, List.set_cons_succ]
    refine wpAnyH_take (i := 7) (v := ?_) rfl (by kernel_rfl) (by kernel_rfl) (by kernel_rfl) (fun _ _ _ h => h) (Or.inl ⟨by rfl, ?_⟩) (by assumption) ?_;rotate_left
    · (intro w hSw; (try dsimp only at hSw); go_split_ands; go_simp; try with_reducible rfl)
    try simp only [List.getElem_toArray, List.getElem_cons_succ, List.getElem_cons_zero, Act.put, List.setIfInBounds_toArray, List.set_cons_zero, List.set_cons_succ]
    refine wpAnyH_take (i := 8) (v := ?_) rfl (by kernel_rfl) (by kernel_rfl) (by kernel_rfl) (fun _ _ _ h => h) (Or.inl ⟨by rfl, ?_⟩) (by assumption) ?_;rotate_left
    · (intro w hSw; (try dsimp only at hSw); go_split_ands; go_simp; try with_reducible rfl)
    try simp only [List.getElem_toArray, List.getElem_cons_succ, List.getElem_cons_zero, Act.put, List.setIfInBounds_toArray, List.set_cons_zero, List.set_cons_succ]
    refine wpAnyH_take (i := 9) (v := ?_) rfl (by kernel_rfl) (by kernel_rfl) (by kernel_rfl) (fun _ _ _ h => h) (Or.inl ⟨by rfl, ?_⟩) (by assumption) ?_;rotate_left
    · (intro w hSw; (try dsimp only at hSw); go_split_ands; go_simp; try with_reducible rfl)
    try simp only [List.getElem_toArray, List.getElem_cons_succ, List.getElem_cons_zero, Act.put, List.setIfInBounds_toArray, List.set_cons_zero, List.set_cons_succ]
    refine wpAnyH_take (i := 10) (v := ?_) rfl (by kernel_rfl) (by kernel_rfl) (by kernel_rfl) (fun _ _ _ h => h) (Or.inl ⟨by rfl, ?_⟩) (by assumption) ?_;rotate_left
    · (intro w hSw; (try dsimp only at hSw); go_split_ands; go_simp; try with_reducible rfl)
    try simp only [List.getElem_toArray, List.getElem_cons_succ, List.getElem_cons_zero, Act.put, List.setIfInBounds_toArray, List.set_cons_zero, List.set_cons_succ]
    refine wpAnyH_take (i := 11) (v := ?_) rfl (by kernel_rfl) (by kernel_rfl) (by kernel_rfl) (fun _ _ _ h => h) (Or.inl ⟨by rfl, ?_⟩) (by assumption) ?_;rotate_left
    · (intro w hSw; (try dsimp only at hSw); go_split_ands; go_simp; try with_reducible rfl)
    try simp only [List.getElem_toArray, List.getElem_cons_succ, List.getElem_cons_zero, Act.put, List.setIfInBounds_toArray, List.set_cons_zero, List.set_cons_succ]
    refine wpAnyH_take (i := 12) (v := ?_) rfl (by kernel_rfl) (by kernel_rfl) (by kernel_rfl) (fun _ _ _ h => h) (Or.inl ⟨by rfl, ?_⟩) (by assumption) ?_;rotate_left
    · (intro w hSw; (try dsimp only at hSw); go_split_ands; go_simp; try with_reducible rfl)
    try simp only [List.getElem_toArray, List.getElem_cons_succ, List.getElem_cons_zero, Act.put, List.setIfInBounds_toArray, List.set_cons_zero, List.set_cons_succ]
    refine wpAnyH_take (i := 13) (v := ?_) rfl (by kernel_rfl) (by kernel_rfl) (by kernel_rfl) (fun _ _ _ h => h) (Or.inl ⟨by rfl, ?_⟩) (by assumption) ?_;rotate_left
    · (intro w hSw; (try dsimp only at hSw); go_split_ands; go_simp; try with_reducible rfl)
    try simp only [List.getElem_toArray, List.getElem_cons_succ, List.getElem_cons_zero, Act.put, List.setIfInBounds_toArray, List.set_cons_zero, List.set_cons_succ]
    refine wpAnyH_take (i := 14) (v := ?_) rfl (by kernel_rfl) (by kernel_rfl) (by kernel_rfl) (fun _ _ _ h => h) (Or.inl ⟨by rfl, ?_⟩) (by assumption) ?_;rotate_left
    · (intro w hSw; (try dsimp only at hSw); go_split_ands; go_simp; try with_reducible rfl)
    try simp only [List.getElem_toArray, List.getElem_cons_succ, List.getElem_cons_zero, Act.put, List.setIfInBounds_toArray, List.set_cons_zero, List.set_cons_succ]
    refine wpAnyH_take (i := 15) (v := ?_) rfl (by kernel_rfl) (by kernel_rfl) (by kernel_rfl) (fun _ _ _ h => h) (Or.inl ⟨by rfl, ?_⟩) (by assumption) ?_;rotate_left
    · (intro w hSw; (try dsimp only at hSw); go_split_ands; go_simp; try with_reducible rfl)
    try simp only [List.getElem_toArray, List.getElem_cons_succ, List.getElem_cons_zero, Act.put, List.setIfInBounds_toArray, List.set_cons_zero, List.set_cons_succ]
    refine wpAnyH_take (i := 16) (v := ?_) rfl (by kernel_rfl) (by kernel_rfl) (by kernel_rfl) (fun _ _ _ h => h) (Or.inl ⟨by rfl, ?_⟩) (by assumption) ?_;rotate_left
    · (intro w hSw; (try dsimp only at hSw); go_split_ands; go_simp; try with_reducible rfl)
    try simp only [List.getElem_toArray, List.getElem_cons_succ, List.getElem_cons_zero, Act.put, List.setIfInBounds_toArray, List.set_cons_zero, List.set_cons_succ]
    refine wpAnyH_take (i := 17) (v := ?_) rfl (by kernel_rfl) (by kernel_rfl) (by kernel_rfl) (fun _ _ _ h => h) (Or.inl ⟨by rfl, ?_⟩) (by assumption) ?_;rotate_left
    · (intro w hSw; (try dsimp only at hSw); go_split_ands; go_simp; try with_reducible rfl)
    try simp only [List.getElem_toArray, List.getElem_cons_succ, List.getElem_cons_zero, Act.put, List.setIfInBounds_toArray, List.set_cons_zero, List.set_cons_succ]
    refine wpAnyH_done (by kernel_rfl) ?_ _;clear e1
    go_wp2
    go_ret2
    exact ⟨rfl, HE.out⟩
set_option maxHeartbeats 1000000 in
set_option maxRecDepth 100000 in
theorem rftake_ok (h : REyeIs w g ab B i false) (n : Nat) (hn : n ≤ B.length - i) : Calls Tryz.prog 107 #[ptr g, .int .i64 (n : Int)] w fun e w' => ∃ A1 c1, e = .returned (.tuple #[.slice A1 n c1, .bool true]) ∧ n ≤ c1 ∧ Kd.F (Kd.int .u8) w' (· = ab) A1 n ((B.drop i).take n) ∧ REyeIs w' g ab B (i + n) false ∧ Upd w w' (· = g) := by
  obtain ⟨A, c, hB, hc, hm, hF⟩ := h.ex
  have hle := h.le
  have hc0 : w.cell? ⟨g, 0, none⟩ = some (.slice A B.length c) := hB.cell 0
  have hc1 : w.cell? ⟨g, 1, none⟩ = some (.int .i64 i) := hB.cell 1
  have hc2 : w.cell? ⟨g, 2, none⟩ = some (.bool false) := hB.cell 2
  have hz1 := hB.frozen 1
  have hmx := (reads_F hF).2.1
  obtain ⟨w1, hw1⟩ : ∃ w1, w.drew.setCell ⟨g, 1, none⟩ (.int .i64 ((i : Int) + n)) = w1 := ⟨_, rfl⟩
  have hu : Upd w w1 (· = g) := hw1 ▸ ((Upd.refl w (· = g)).drew).setCell (p := ⟨g, 1, none⟩) (.inl rfl) _
  have hB1 : Blk w1 g 111 #[.slice A B.length c, .int .i64 ((i : Int) + n), .bool false] := hw1 ▸ hB.drew.set_ 1 (.int .i64 ((i : Int) + n))
  have hE := REyeIs.turn (j := i + n) (bl' := false) h hu (by rw [Int.natCast_add]; exact hB1) (by omega) hc hm hF
  have hF1 : Kd.F (Kd.int .u8) w1 (· = ab) A B.length B := by
    rcases h.ne with hne | hnil
    · exact Kd.F_step hF (fun k hk hlt => hu.block k hlt (fun e => hne (hk ▸ e)))
    · rw [hnil]; exact F_zero A
  obtain ⟨A2, hA2⟩ : ∃ A2, (if c = i then A else Option.map (fun x => x.add i) A) = A2 := ⟨_, rfl⟩
  have HF1 := Lib.hid (F_reads (A' := A2) (n' := n) (ys' := (B.drop i).take n) hF1 (fun W h => by
    have h1 := (h.drop_ i hle hc).take_ n hn
    rw [hA2] at h1
    exact h1))
  have HE := Lib.hid (And.intro hE hu)
  have hc0' : w1.cell? ⟨g, 0, none⟩ = some (.slice A B.length c) := hB1.cell 0
  have hc1' : w1.cell? ⟨g, 1, none⟩ = some (.int .i64 ((i : Int) + n)) := hB1.cell 1
  have e1 : IntKind.i64.wrap ((B.length : Int) - i) = ((B.length - i : Nat) : Int) := by rw [Go.IntWalk.i64_in _ (by omega)]; omega
  have e2 : IntKind.i64.wrap (i : Int) = i := Go.IntWalk.i64_in _ (by omega)
  have e3 : wrap64 ((i : Int) + n) = (i : Int) + n := by unfold wrap64; omega
  have f1 : (0 : Int) ≤ (i : Int) + n := by omega
  have f2 : (i : Int) + n ≤ c := by omega
  have f3 : (i : Int) ≤ (i : Int) + n := by omega
  have f4 : ((i : Int) + n).toNat - i = n := by omega
  have E2 := Lib.hid (And.intro e2 (And.intro f1 (And.intro f2 (And.intro f3 (And.intro hA2 f4))))); have E3 := Lib.hid e3; have HCC := Lib.hid (show n ≤ c - i by omega)
  clear h hB hF hu hE hB1 hF1 e2 e3 hm f1 f2 f3 hA2 f4
  generalize hme : B.length - i = m at *
  have HME := Lib.hid hme; clear hme
  have d1 : decide ((m : Int) < (n : Int)) = false := decide_eq_false (by omega)
  go_enter Tryz.func107, Tryz.ntmps107
  go_upto_region 1 with fail
  refine wp_region_held (S := (fun W => W.cell? ⟨g, 2, none⟩ = some (.bool false) ∧ W.cell? ⟨g, 0, none⟩ = some (.slice A B.length c) ∧ W.cell? ⟨g, 1, none⟩ = some (.int .i64 i))) (by kernel_rfl) ?_;simp only [List.size_toArray, List.length_cons, List.length_nil, Nat.zero_add, Nat.reduceAdd]
  have hHeld : ((fun W => W.cell? ⟨g, 2, none⟩ = some (.bool false) ∧ W.cell? ⟨g, 0, none⟩ = some (.slice A B.length c) ∧ W.cell? ⟨g, 1, none⟩ = some (.int .i64 i))) w.drew := ⟨hc2, hc0, hc1⟩
  refine wpAnyH_take (i := 0) (v := ?_) rfl (by kernel_rfl) (by kernel_rfl) (by kernel_rfl) (fun _ _ _ h => h) (Or.inl ⟨by rfl, ?_⟩) (by assumption) ?_;rotate_left
  · (intro w hSw; (try dsimp only at hSw); go_split_ands; go_simp; try with_reducible rfl)
  try simp only [List.getElem_toArray, List.getElem_cons_succ, List.getElem_cons_zero, Act.put, List.setIfInBounds_toArray, List.set_cons_zero, List.set_cons_succ]
  refine wpAnyH_take (i := 1) (v := ?_) rfl (by kernel_rfl) (by kernel_rfl) (by kernel_rfl) (fun _ _ _ h => h) (Or.inl ⟨by rfl, ?_⟩) (by assumption) ?_;rotate_left
  · (intro w hSw; (try dsimp only at hSw); go_split_ands; go_simp; try with_reducible rfl)
  try simp only [List.getElem_toArray, List.getElem_cons_succ, List.getElem_cons_zero, Act.put, List.setIfInBounds_toArray, List.set_cons_zero, List.set_cons_succ]
  refine wpAnyH_take (i := 2) (v := ?_) rfl (by kernel_rfl) (by kernel_rfl) (by kernel_rfl) (fun _ _ _ h => h) (Or.inl ⟨by rfl, ?_⟩) (by assumption) ?_;rotate_left
  · (intro w hSw; (try dsimp only at hSw); go_split_ands; go_simp; try with_reducible rfl)
  try simp only [List.getElem_toArray, List.getElem_cons_succ, List.getElem_cons_zero, Act.put, List.setIfInBounds_toArray, List.set_cons_zero, List.set_cons_succ]
  refine wpAnyH_take (i := 3) (v := ?_) rfl (by kernel_rfl) (by kernel_rfl) (by kernel_rfl) (fun _ _ _ h => h) (Or.inl ⟨by rfl, ?_⟩) (by assumption) ?_;rotate_left
  · (intro w hSw; (try dsimp only at hSw); go_split_ands; go_simp; try with_reducible rfl)
  try simp only [List.getElem_toArray, List.getElem_cons_succ, List.getElem_cons_zero, Act.put, List.setIfInBounds_toArray, List.set_cons_zero, List.set_cons_succ]
  refine wpAnyH_take (i := 4) (v := ?_) rfl (by kernel_rfl) (by kernel_rfl) (by kernel_rfl) (fun _ _ _ h => h) (Or.inl ⟨by rfl, ?_⟩) (by assumption) ?_;rotate_left
  · (intro w hSw; (try dsimp only at hSw); go_split_ands; go_simp; try with_reducible rfl)
  try simp only [List.getElem_toArray, List.getElem_cons_succ, List.getElem_cons_zero, Act.put, List.setIfInBounds_toArray, List.set_cons_zero, List.set_cons_succ]
  refine wpAnyH_take (i := 5) (v := ?_) rfl (by kernel_rfl) (by kernel_rfl) (by kernel_rfl) (fun _ _ _ h => h) (Or.inl ⟨by rfl, ?_⟩) (by assumption) ?_;rotate_left
  · (intro w hSw; (try dsimp only at hSw); go_split_ands; go_simp; try with_reducible rfl)
  try simp only [List.getElem_toArray, List.getElem_cons_succ, List.getElem_cons_zero, Act.put, List.setIfInBounds_toArray, List.set_cons_zero, List.set_cons_succ]
  refine wpAnyH_take (i := 6) (v := ?_) rfl (by kernel_rfl) (by kernel_rfl) (by kernel_rfl) (fun _ _ _ h => h) (Or.inl ⟨by rfl, ?_⟩) (by assumption) ?_;rotate_left
  · (intro w hSw; (try dsimp only at hSw); go_split_ands; go_simp; try with_reducible rfl)
  try simp only [List.getElem_toArray, List.getElem_cons_succ, List.getElem_cons_zero, Act.put, List.setIfInBounds_toArray, List.set_cons_zero, List.set_cons_succ]
  refine wpAnyH_take (i := 7) (v := ?_) rfl (by kernel_rfl) (by kernel_rfl) (by kernel_rfl) (fun _ _ _ h => h) (Or.inl ⟨by rfl, ?_⟩) (by assumption) ?_;rotate_left
  · (intro w hSw; (try dsimp only at hSw); go_split_ands; go_simp; try with_reducible rfl)
  try simp only [List.getElem_toArray, List.getElem_cons_succ, List.getElem_cons_zero, Act.put, List.setIfInBounds_toArray, List.set_cons_zero, List.set_cons_succ]
  refine wpAnyH_take (i := 8) (v := ?_) rfl (by kernel_rfl) (by kernel_rfl) (by kernel_rfl) (fun _ _ _ h => h) (Or.inl ⟨by rfl, ?_⟩) (by assumption) ?_;rotate_left
  · (intro w hSw; (try dsimp only at hSw); go_split_ands; go_simp; try with_reducible rfl)
  try simp only [List.getElem_toArray, List.getElem_cons_succ, List.getElem_cons_zero, Act.put, List.setIfInBounds_toArray, List.set_cons_zero, List.set_cons_succ]
  refine wpAnyH_take (i := 9) (v := ?_) rfl (by kernel_rfl) (by kernel_rfl) (by kernel_rfl) (fun _ _ _ h => h) (Or.inl ⟨by rfl, ?_⟩) (by assumption) ?_;rotate_left
  · (intro w hSw; (try dsimp only at hSw); go_split_ands; go_simp; try with_reducible rfl)
  try simp only [List.getElem_toArray, List.getElem_cons_succ, List.getElem_cons_zero, Act.put, List.setIfInBounds_toArray, List.set_cons_zero, List.set_cons_succ]
  refine wpAnyH_take (i := 10) (v := ?_) rfl (by kernel_rfl) (by kernel_rfl) (by kernel_rfl) (fun _ _ _ h => h) (Or.inl ⟨by rfl, ?_⟩) (by assumption) ?_;rotate_left
  · (intro w hSw; (try dsimp only at hSw); go_split_ands; go_simp; try with_reducible rfl)
  try simp only [List.getElem_toArray, List.getElem_cons_succ, List.getElem_cons_zero, Act.put, List.setIfInBounds_toArray, List.set_cons_zero, List.set_cons_succ]
  refine wpAnyH_take (i := 11) (v := ?_) rfl (by kernel_rfl) (by kernel_rfl) (by kernel_rfl) (fun _ _ _ h => h) (Or.inl ⟨by rfl, ?_⟩) (by assumption) ?_;rotate_left
  · (intro w hSw; (try dsimp only at hSw); go_split_ands; go_simp; try with_reducible rfl)
  try simp only [List.getElem_toArray, List.getElem_cons_succ, List.getElem_cons_zero, Act.put, List.setIfInBounds_toArray, List.set_cons_zero, List.set_cons_succ]
  refine wpAnyH_take (i := 12) (v := ?_) rfl (by kernel_rfl) (by kernel_rfl) (by kernel_rfl) (fun _ _ _ h => h) (Or.inl ⟨by rfl, ?_⟩) (by assumption) ?_;rotate_left
  · (intro w hSw; (try dsimp only at hSw); go_split_ands; go_simp; try with_reducible rfl)
  try simp only [List.getElem_toArray, List.getElem_cons_succ, List.getElem_cons_zero, Act.put, List.setIfInBounds_toArray, List.set_cons_zero, List.set_cons_succ]
  refine wpAnyH_take (i := 13) (v := ?_) rfl (by kernel_rfl) (by kernel_rfl) (by kernel_rfl) (fun _ _ _ h => h) (Or.inl ⟨by rfl, ?_⟩) (by assumption) ?_;rotate_left
  · (intro w hSw; (try dsimp only at hSw); go_split_ands; go_simp; try with_reducible rfl)
  try simp only [List.getElem_toArray, List.getElem_cons_succ, List.getElem_cons_zero, Act.put, List.setIfInBounds_toArray, List.set_cons_zero, List.set_cons_succ]
  refine wpAnyH_take (i := 14) (v := ?_) rfl (by kernel_rfl) (by kernel_rfl) (by kernel_rfl) (fun _ _ _ h => h) (Or.inl ⟨by rfl, ?_⟩) (by assumption) ?_;rotate_left
  · (intro w hSw; (try dsimp only at hSw); go_split_ands; go_simp; try with_reducible rfl)
  try simp only [List.getElem_toArray, List.getElem_cons_succ, List.getElem_cons_zero, Act.put, List.setIfInBounds_toArray, List.set_cons_zero, List.set_cons_succ]
  refine wpAnyH_take (i := 15) (v := ?_) rfl (by kernel_rfl) (by kernel_rfl) (by kernel_rfl) (fun _ _ _ h => h) (Or.inl ⟨by rfl, ?_⟩) (by assumption) ?_;rotate_left
  · (intro w hSw; (try dsimp only at hSw); go_split_ands; go_simp; try with_reducible rfl)
  try simp only [List.getElem_toArray, List.getElem_cons_succ, List.getElem_cons_zero, Act.put, List.setIfInBounds_toArray, List.set_cons_zero, List.set_cons_succ]
  refine wpAnyH_take (i := 16) (v := ?_) rfl (by kernel_rfl) (by kernel_rfl) (by kernel_rfl) (fun _ _ _ h => h) (Or.inl ⟨by rfl, ?_⟩) (by assumption) ?_;rotate_left
  · (intro w hSw; (try dsimp only at hSw); go_split_ands; go_simp; try with_reducible rfl)
  try simp only [List.getElem_toArray, List.getElem_cons_succ, List.getElem_cons_zero, Act.put, List.setIfInBounds_toArray, List.set_cons_zero, List.set_cons_succ]
  refine wpAnyH_take (i := 17) (v := ?_) rfl (by kernel_rfl) (by kernel_rfl) (by kernel_rfl) (fun _ _ _ h => h) (Or.inl ⟨by rfl, ?_⟩) (by assumption) ?_;rotate_left
  · (intro w hSw; (try dsimp only at hSw); go_split_ands; go_simp; try with_reducible rfl)
  try simp only [List.getElem_toArray, List.getElem_cons_succ, List.getElem_cons_zero, Act.put, List.setIfInBounds_toArray, List.set_cons_zero, List.set_cons_succ]
  refine wpAnyH_done (by kernel_rfl) ?_ _;clear e1 d1 hHeld;have e3 := E3.out
  go_upto_region 5 with fail
  clear e3
  obtain ⟨e2, f1, f2, f3, hA2, f4⟩ := E2.out
  refine wp_region_held (S := (fun W => W.cell? ⟨g, 0, none⟩ = some (.slice A B.length c) ∧ W.cell? ⟨g, 1, none⟩ = some (.int .i64 ((i : Int) + n)))) (by kernel_rfl) ?_;simp only [List.size_toArray, List.length_cons, List.length_nil, Nat.zero_add, Nat.reduceAdd]
  have hHeld : ((fun W => W.cell? ⟨g, 0, none⟩ = some (.slice A B.length c) ∧ W.cell? ⟨g, 1, none⟩ = some (.int .i64 ((i : Int) + n)))) w1.drew := ⟨hc0', hc1'⟩
  refine wpAnyH_take (i := 0) (v := ?_) rfl (by kernel_rfl) (by kernel_rfl) (by kernel_rfl) (fun _ _ _ h => h) (Or.inl ⟨by rfl, ?_⟩) (by assumption) ?_;rotate_left
  · (intro w hSw; (try dsimp only at hSw); go_split_ands; go_simp; try with_reducible rfl)
  try simp only [List.getElem_toArray, List.getElem_cons_succ, List.getElem_cons_zero, Act.put, List.setIfInBounds_toArray, List.set_cons_zero, List.set_cons_succ]
  refine wpAnyH_take (i := 1) (v := ?_) rfl (by kernel_rfl) (by kernel_rfl) (by kernel_rfl) (fun _ _ _ h => h) (Or.inl ⟨by rfl, ?_⟩) (by assumption) ?_;rotate_left
  · (intro w hSw; (try dsimp only at hSw); go_split_ands; go_simp; try with_reducible rfl)
  try simp only [List.getElem_toArray, List.getElem_cons_succ, List.getElem_cons_zero, Act.put, List.setIfInBounds_toArray, List.set_cons_zero, List.set_cons_succ]
  refine wpAnyH_take (i := 2) (v := ?_) rfl (by kernel_rfl) (by kernel_rfl) (by kernel_rfl) (fun _ _ _ h => h) (Or.inl ⟨by rfl, ?_⟩) (by assumption) ?_;rotate_left
  · (intro w hSw; (try dsimp only at hSw); go_split_ands; go_simp; try with_reducible rfl)
  try simp only [List.getElem_toArray, List.getElem_cons_succ, List.getElem_cons_zero, Act.put, List.setIfInBounds_toArray, List.set_cons_zero, List.set_cons_succ]
  refine wpAnyH_take (i := 3) (v := ?_) rfl (by kernel_rfl) (by kernel_rfl) (by kernel_rfl) (fun _ _ _ h => h) (Or.inl ⟨by rfl, ?_⟩) (by assumption) ?_;rotate_left
  · (intro w hSw; (try dsimp only at hSw); go_split_ands; go_simp; try with_reducible rfl)
  try simp only [List.getElem_toArray, List.getElem_cons_succ, List.getElem_cons_zero, Act.put, List.setIfInBounds_toArray, List.set_cons_zero, List.set_cons_succ]
  refine wpAnyH_take (i := 4) (v := ?_) rfl (by kernel_rfl) (by kernel_rfl) (by kernel_rfl) (fun _ _ _ h => h) (Or.inl ⟨by rfl, ?_⟩) (by assumption) ?_;rotate_left
  · (intro w hSw; (try dsimp only at hSw); go_split_ands; go_simp; try with_reducible rfl)
  try simp only [List.getElem_toArray, List.getElem_cons_succ, List.getElem_cons_zero, Act.put, List.setIfInBounds_toArray, List.set_cons_zero, List.set_cons_succ]
  refine wpAnyH_take (i := 5) (v := ?_) rfl (by kernel_rfl) (by kernel_rfl) (by kernel_rfl) (fun _ _ _ h => h) (Or.inl ⟨by rfl, ?_⟩) (by assumption) ?_;rotate_left
  · (intro w hSw; (try dsimp only at hSw); go_split_ands; go_simp; try with_reducible rfl)
  try simp only [List.getElem_toArray, List.getElem_cons_succ, List.getElem_cons_zero, Act.put, List.setIfInBounds_toArray, List.set_cons_zero, List.set_cons_succ]
  refine wpAnyH_take (i := 6) (v := ?_) rfl (by kernel_rfl) (by kernel_rfl) (by kernel_rfl) (fun _ _ _ h => h) (Or.inl ⟨by rfl, ?_⟩) (by assumption) ?_;rotate_left
  · (intro w hSw; (try dsimp only at hSw); go_split_ands; go_simp; try with_reducible rfl)
  try simp only [List.getElem_toArray, List.getElem_cons_succ, List.getElem_cons_zero, Act.put, List.setIfInBounds_toArray, List.set_cons_zero, List.set_cons_succ]
  refine wpAnyH_take (i := 7) (v := ?_) rfl (by kernel_rfl) (by kernel_rfl) (by kernel_rfl) (fun _ _ _ h => h) (Or.inl ⟨by rfl, ?_⟩) (by assumption) ?_;rotate_left
  · (intro w hSw; (try dsimp only at hSw); go_split_ands; go_simp; try with_reducible rfl)
  try simp only [List.getElem_toArray, List.getElem_cons_succ, List.getElem_cons_zero, Act.put, List.setIfInBounds_toArray, List.set_cons_zero, List.set_cons_succ]
  refine wpAnyH_take (i := 8) (v := ?_) rfl (by kernel_rfl) (by kernel_rfl) (by kernel_rfl) (fun _ _ _ h => h) (Or.inl ⟨by rfl, ?_⟩) (by assumption) ?_;rotate_left
  · (intro w hSw; (try dsimp only at hSw); go_split_ands; go_simp; try with_reducible rfl)
  try simp only [List.getElem_toArray, List.getElem_cons_succ, List.getElem_cons_zero, Act.put, List.setIfInBounds_toArray, List.set_cons_zero, List.set_cons_succ]
  refine wpAnyH_take (i := 9) (v := ?_) rfl (by kernel_rfl) (by kernel_rfl) (by kernel_rfl) (fun _ _ _ h => h) (Or.inl ⟨by rfl, ?_⟩) (by assumption) ?_;rotate_left
  · (intro w hSw; (try dsimp only at hSw); go_split_ands; go_simp; try with_reducible rfl)
  try simp only [List.getElem_toArray, List.getElem_cons_succ, List.getElem_cons_zero, Act.put, List.setIfInBounds_toArray, List.set_cons_zero, List.set_cons_succ]
  refine wpAnyH_take (i := 10) (v := ?_) rfl (by kernel_rfl) (by kernel_rfl) (by kernel_rfl) (fun _ _ _ h => h) (Or.inl ⟨by rfl, ?_⟩) (by assumption) ?_;rotate_left
  · (intro w hSw; (try dsimp only at hSw); go_split_ands; go_simp; try with_reducible rfl)
  try simp only [List.getElem_toArray, List.getElem_cons_succ, List.getElem_cons_zero, Act.put, List.setIfInBounds_toArray, List.set_cons_zero, List.set_cons_succ]
  refine wpAnyH_take (i := 11) (v := ?_) rfl (by kernel_rfl) (by kernel_rfl) (by kernel_rfl) (fun _ _ _ h => h) (Or.inl ⟨by rfl, ?_⟩) (by assumption) ?_;rotate_left
  · (intro w hSw; (try dsimp only at hSw); go_split_ands; go_simp; try with_reducible rfl)
  try simp only [List.getElem_toArray, List.getElem_cons_succ, List.getElem_cons_zero, Act.put, List.setIfInBounds_toArray, List.set_cons_zero, List.set_cons_succ]
  refine wpAnyH_take (i := 12) (v := ?_) rfl (by kernel_rfl) (by kernel_rfl) (by kernel_rfl) (fun _ _ _ h => h) (Or.inl ⟨by rfl, ?_⟩) (by assumption) ?_;rotate_left
  · (intro w hSw; (try dsimp only at hSw); go_split_ands; go_simp; try with_reducible rfl)
  try simp only [List.getElem_toArray, List.getElem_cons_succ, List.getElem_cons_zero, Act.put, List.setIfInBounds_toArray, List.set_cons_zero, List.set_cons_succ]
  refine wpAnyH_take (i := 13) (v := ?_) rfl (by kernel_rfl) (by kernel_rfl) (by kernel_rfl) (fun _ _ _ h => h) (Or.inl ⟨by rfl, ?_⟩) (by assumption) ?_;rotate_left
  · (intro w hSw; (try dsimp only at hSw); go_split_ands; go_simp; try with_reducible rfl)
  try simp only [List.getElem_toArray, List.getElem_cons_succ, List.getElem_cons_zero, Act.put, List.setIfInBounds_toArray, List.set_cons_zero, List.set_cons_succ]
  refine wpAnyH_take (i := 14) (v := ?_) rfl (by kernel_rfl) (by kernel_rfl) (by kernel_rfl) (fun _ _ _ h => h) (Or.inl ⟨by rfl, ?_⟩) (by assumption) ?_;rotate_left
  · (intro w hSw; (try dsimp only at hSw); go_split_ands; go_simp; try with_reducible rfl)
  try simp only [List.getElem_toArray, List.getElem_cons_succ, List.getElem_cons_zero, Act.put, List.setIfInBounds_toArray, List.set_cons_zero, List.set_cons_succ]
  refine wpAnyH_take (i := 15) (v := ?_) rfl (by kernel_rfl) (by kernel_rfl) (by kernel_rfl) (fun _ _ _ h => h) (Or.inl ⟨by rfl, ?_⟩) (by assumption) ?_;rotate_left
  · (intro w hSw; (try dsimp only at hSw); go_split_ands; go_simp; try with_reducible rfl)
  try simp only [List.getElem_toArray, List.getElem_cons_succ, List.getElem_cons_zero, Act.put, List.setIfInBounds_toArray, List.set_cons_zero, List.set_cons_succ]
  refine wpAnyH_take (i := 16) (v := ?_) rfl (by kernel_rfl) (by kernel_rfl) (by kernel_rfl) (fun _ _ _ h => h) (Or.inl ⟨by rfl, ?_⟩) (by assumption) ?_;rotate_left
  · (intro w hSw; (try dsimp only at hSw); go_split_ands; go_simp; try with_reducible rfl)
  try simp only [List.getElem_toArray, List.getElem_cons_succ, List.getElem_cons_zero, Act.put, List.setIfInBounds_toArray, List.set_cons_zero, List.set_cons_succ]
  refine wpAnyH_done (by kernel_rfl) ?_ _
  go_wp2
  go_ret2
  exact ⟨A2, c - i, rfl, HCC.out, Kd.F_drew HF1.out, HE.out.1.below (below_drew (Below.refl _ _)), HE.out.2.drew⟩
end
end Go.Proofs.YtaedlmeaconflaaGreat.P
end
section
set_option linter.unusedVariables false
set_option linter.unusedSimpArgs false
namespace Go.Proofs.YtaedlmeaconflaaGreat.P
open Go.RowKit Go.Proofs.YtaedlmeaconflaaGreatW.PrintWords Go.Proofs.YtaedlmeaconflaaGreatW.PrintLast Go.Proofs.YtaedlmeaconflaaGreatW.PrintMore
attribute [local go_sem] max2_int min2_int max_two min_two max_three min_three max_four min_four   -- for this text's walks alone
set_option linter.unusedVariables false
set_option linter.unusedSimpArgs false
def folkmootref02_low.l0 : Nat → List Int → Int → Int → Int → Option (List Int)
 | 0, _, _, _, _ => none
 | k + 1, x0, x1, x2, x7 => if x7 < x2 then (if 0 ≤ (IntKind.u64.wrap (wrap64 (8 * x7))) then (if x0.length < 140737488355328 then (folkmootref02_low.l0 k (x0 ++ [(shr .u64 x1 (IntKind.u64.wrap (wrap64 (8 * x7)))) % 256]) x1 x2 (wrap64 (x7 + 1))) else (none)) else (none)) else (some x0)
def folkmootref02_low.f (k : Nat) (l0 : List Int) (a1 : Int) (a2 : Int) : Option (List Int) := folkmootref02_low.l0 k l0 a1 a2 0
set_option maxHeartbeats 8000000 in
set_option maxRecDepth 100000 in
theorem folkmootref02_low.calls (k : Nat) (P0_ : Nat → Prop) (u9000_ : Value) (l0 : List Int) (a1 : Int) (a2 : Int) (r : List Int) (w0 w : World) (hB : Below w0.heap.size w0 w) (ho0 : Kd.R (Kd.int .u8) 5 w w0.heap.size P0_ u9000_ l0) (h : folkmootref02_low.f k l0 a1 a2 = some r) :
  Calls Tryz.prog 91 #[u9000_, .int .u64 a1, .int .i64 a2] w fun e w' => ∃ v0_ : Value, e = .returned (v0_) ∧ Kd.R (Kd.int .u8) 5 w' w0.heap.size (fun k_ => (P0_ k_ ∨ w.heap.size ≤ k_)) v0_ r ∧ Below w0.heap.size w0 w' ∧ Kept w w' (fun k_ => P0_ k_) := by
 have HO0 := Aside0.mk (show Kd.R (Kd.int .u8) 5 w w0.heap.size (fun k_ => (P0_ k_ ∨ w.heap.size ≤ k_)) u9000_ l0 from Kd.R_mono ho0 (fun k_ hk => (.inl hk)))
 have HK := Aside0.mk (Kept.refl w (fun k_ => P0_ k_))
 have HW0 := Aside0.mk hB.size
 have HB := Aside0.mk hB
 clear hB
 have H : (folkmootref02_low.l0 k l0 a1 a2 0) = some r := h
 clear h
 have H' := Aside0.mk H
 clear H
 go_enter Tryz.func91, Tryz.ntmps91
 go_wp2
 go_loopg [0, 7] k (fun kq v0 v7 w' => ∃ (x0_1 : List Int) (x7_1 : Int), v7 = .int .i64 x7_1 ∧ Aside0 (folkmootref02_low.l0 kq x0_1 a1 a2 x7_1 = some r) ∧ Aside0 (kq ≤ k) ∧ Aside0 (Kd.R (Kd.int .u8) 5 w' w0.heap.size (fun k_ => (P0_ k_ ∨ w.heap.size ≤ k_)) v0 x0_1) ∧ Aside0 (Kept w w' (fun k_ => P0_ k_)) ∧ Aside0 (Below w0.heap.size w0 w'))
 case atStart => exact ⟨(l0), (0), (by first | rfl | (simp; done) | (simp [*]; done)), H', ⟨Nat.le_refl _⟩, ⟨by (with_reducible repeat (first | apply Kd.R_alloc | apply Kd.R_drewN | apply Kd.R_drew)); exact HO0.out⟩, ⟨by repeat (first | (with_reducible first | exact HK.out | apply Kept.alloc | apply Kept.drewN | apply Kept.drew) | exact HK.out)⟩, ⟨by repeat (first | (with_reducible first | exact HB.out | apply below_alloc | apply pw_below_drewN | apply below_drew1) | exact HB.out)⟩⟩
 case round =>
  clear H'
  try clear p2
  obtain ⟨x0_1, x7_1, rfl, HA, HK1, HO_0, HK, HB⟩ := hrel
  cases gk with
  | zero => exact absurd HA.out (by simp [folkmootref02_low.l0])
  | succ k1 =>
   have H := HA.out;clear HA
   simp only [folkmootref02_low.l0] at H
   by_cases c4 : x7_1 < a2
   ·rw [if_pos c4] at H
    have c4b0 : decide (x7_1 < a2) = true := decide_eq_true c4
    clear c4
    obtain ⟨ji5, hji5⟩ : ∃ j_ : Int, (IntKind.u64.wrap (wrap64 (8 * x7_1))) = j_ := ⟨_, rfl⟩
    replace H : (if 0 ≤ (ji5) then (if x0_1.length < 140737488355328 then (folkmootref02_low.l0 k1 (x0_1 ++ [(shr .u64 a1 (ji5)) % 256]) a1 a2 (wrap64 (x7_1 + 1))) else (none)) else (none)) = some r := by first | (rw [hji5] at H; exact H) | (simp only [hji5] at H ⊢; exact H)
    by_cases c6 : 0 ≤ (ji5)
    ·rw [if_pos c6] at H
     have c6b0 := eq_true c6
     have c6b1 : decide (0 ≤ (ji5)) = true := decide_eq_true c6
     clear c6
     obtain ⟨ji7, hji7⟩ : ∃ j_ : Int, (shr .u64 a1 (ji5)) = j_ := ⟨_, rfl⟩
     replace H : (if x0_1.length < 140737488355328 then (folkmootref02_low.l0 k1 (x0_1 ++ [(ji7) % 256]) a1 a2 (wrap64 (x7_1 + 1))) else (none)) = some r := by first | (rw [hji7] at H; exact H) | (simp only [hji7] at H ⊢; exact H)
     have hji7_ : (a1 / 2 ^ min (ji5).toNat 64) = ji7 := hji7
     have hji7z : (ji5) ≤ 64 → (a1 / 2 ^ (ji5).toNat) = ji7 := shr_small hji7
     by_cases c8 : x0_1.length < 140737488355328
     ·rw [if_pos c8] at H
      have LMc8 := Aside0.mk c8
      clear c8
      obtain ⟨y297, hy297⟩ : ∃ y_ : List Int, y_ = (x0_1 ++ [(ji7) % 256]) := ⟨_, rfl⟩
      replace H : (folkmootref02_low.l0 k1 y297 a1 a2 (wrap64 (x7_1 + 1))) = some r := by first | (rw [hy297]; with_reducible exact H) | (have H2_ := (Option.bind_some _ _).symm.trans H; rw [hy297]; with_reducible exact H2_) | (have H2_ := (Option.bind_some _ _).symm.trans H; with_reducible exact H2_) | with_reducible exact H | (rw [hy297]; exact H) | exact H
      have Ny297 := Aside0.mk hy297
      clear hy297
      have H' := Aside0.mk H
      clear H
      go_wp2_with (first | ((with_reducible refine gate_builtin (b := .append) (xs := #[.tmp 13, .tmp 20]) rfl ?_); at_builtin; refine Kd.R_append (Kd.int .u8) (w0 := w0) w0.heap.size rfl (.tmp 13) (.tmp 20) 23 5 (.int .u8 0) 1 rfl Tryz.underlying23 info5 rfl (by decide) (by omega) u0 x0_1 ((ji7) % 256) [.int .u8 ((ji7) % 256)] (fun k_ => (P0_ k_ ∨ w.heap.size ≤ k_)) (fun _ => False) rfl rfl ?aP (fun _ hk => hk.elim) ?aF ?aO ?aB ?aS ?aL ?_; (case aP => exact rfl); (case aB => exact (by repeat (first | (with_reducible first | exact HB.out | apply below_alloc | apply pw_below_drewN | apply below_drew1) | exact HB.out))); (case aF => exact (fun k_ hk => (.inr (Nat.le_trans (by first | exact HK.out.1 | exact (show Kept w _ (fun k_ => P0_ k_) from by repeat (first | (with_reducible first | exact HK.out | apply Kept.alloc | apply Kept.drewN | apply Kept.drew) | exact HK.out)).1) hk)))); (case aO => exact (by (with_reducible repeat (first | apply Kd.R_alloc | apply Kd.R_drewN | apply Kd.R_drew)); exact HO_0.out)); (case aS => exact (below_size (by repeat (first | (with_reducible first | exact HB.out | apply below_alloc | apply pw_below_drewN | apply below_drew1) | exact HB.out)))); (case aL => have := LMc8.out; omega); intro v298 w9 ho hb hg hat; rw [← Ny297.out] at ho; have n0_ := Aside0.mk (hb); have n1_ := Aside0.mk (Kept.of_grown (S := (fun k_ => P0_ k_)) hg (by repeat (first | (with_reducible first | exact HK.out | apply Kept.alloc | apply Kept.drewN | apply Kept.drew) | exact HK.out)) (fun k_ e_ => (HO_0.out.1 k_ e_))); have n2_ := Aside0.mk (ho); clear HB; clear HK; clear HO_0; have HB := n0_; have HK := n1_; have HO299 := n2_; clear n0_ n1_ n2_; clear ho hb hg hat))
      go_roundg k1
      case measure => have := HK1.out; omega
      case rel => exact ⟨(y297), (wrap64 (x7_1 + 1)), (by first | rfl | (simp; done) | (simp [*]; done)), H', ⟨by have := HK1.out; omega⟩, ⟨by (with_reducible repeat (first | apply Kd.R_alloc | apply Kd.R_drewN | apply Kd.R_drew)); exact HO299.out⟩, ⟨by repeat (first | (with_reducible first | exact HK.out | apply Kept.alloc | apply Kept.drewN | apply Kept.drew) | exact HK.out)⟩, ⟨by repeat (first | (with_reducible first | exact HB.out | apply below_alloc | apply pw_below_drewN | apply below_drew1) | exact HB.out)⟩⟩
     ·rw [if_neg c8] at H
      exact absurd H (by simp)
    ·rw [if_neg c6] at H
     exact absurd H (by simp)
   ·rw [if_neg c4] at H
    have c4b0 : decide (x7_1 < a2) = false := decide_eq_false c4
    clear c4;obtain rfl := Option.some.inj H
    go_wp2
    go_ret
    exact ⟨_, by first | rfl | (simp [errW_none, errW_some] <;> rfl) | (simp [*, errW_none, errW_some] <;> rfl), by (with_reducible repeat (first | apply Kd.R_alloc | apply Kd.R_drewN | apply Kd.R_drew)); exact HO_0.out, by repeat (first | (with_reducible first | exact HB.out | apply below_alloc | apply pw_below_drewN | apply below_drew1) | exact HB.out), by repeat (first | (with_reducible first | exact HK.out | apply Kept.alloc | apply Kept.drewN | apply Kept.drew) | exact HK.out)⟩
def folkmootref02_Int.f (k : Nat) (l0 : List Int) (a1 : Int) : Option (List Int) := (folkmootref02_low.f k l0 (IntKind.u64.wrap (a1)) 8).bind fun t300 => (some t300)
set_option maxHeartbeats 8000000 in
set_option maxRecDepth 100000 in
theorem folkmootref02_Int.calls (k : Nat) (P0_ : Nat → Prop) (u9000_ : Value) (l0 : List Int) (a1 : Int) (r : List Int) (w0 w : World) (hB : Below w0.heap.size w0 w) (ho0 : Kd.R (Kd.int .u8) 5 w w0.heap.size P0_ u9000_ l0) (h : folkmootref02_Int.f k l0 a1 = some r) :
  Calls Tryz.prog 51 #[u9000_, .int .i64 a1] w fun e w' => ∃ v0_ : Value, e = .returned (v0_) ∧ Kd.R (Kd.int .u8) 5 w' w0.heap.size (fun k_ => (P0_ k_ ∨ w.heap.size ≤ k_)) v0_ r ∧ Below w0.heap.size w0 w' ∧ Kept w w' (fun k_ => P0_ k_) := by
 have HO0 := Aside0.mk (show Kd.R (Kd.int .u8) 5 w w0.heap.size (fun k_ => (P0_ k_ ∨ w.heap.size ≤ k_)) u9000_ l0 from Kd.R_mono ho0 (fun k_ hk => (.inl hk)))
 have HK := Aside0.mk (Kept.refl w (fun k_ => P0_ k_))
 have HW0 := Aside0.mk hB.size
 have HB := Aside0.mk hB
 clear hB
 have H : ((folkmootref02_low.f k l0 (IntKind.u64.wrap (a1)) 8).bind fun t300 => (some t300)) = some r := h
 clear h
 replace H := Option.bind_eq_some_iff.mp H
 obtain ⟨t300, A30, H⟩ := H
 replace H : (some t300) = some r := H
 have A3 := Aside0.mk A30
 clear A30;obtain rfl := Option.some.inj H
 obtain ⟨Ao4, co4, eo4⟩ := Kd.R_slice HO0.out
 subst eo4
 go_enter Tryz.func51, Tryz.ntmps51
 go_wp2_with (first | ((with_reducible refine gate_callee (f := 91) rfl ?_); refine goesL_ (some 8) rfl rfl Tryz.func91 (by kernel_rfl) rfl #[.slice Ao4 l0.length co4, .int .u64 (IntKind.u64.wrap (a1)), .int .i64 8] rfl (by (try simp only [List.map_toArray, List.map_cons, List.map_nil]); first | done | rfl | (simp only [List.length_drop, List.length_take]; rfl)) ?_; (with_reducible refine (folkmootref02_low.calls k (fun k_ => some k_ = (.slice Ao4 l0.length co4 : Value).ownBlock) (.slice Ao4 l0.length co4) l0 (IntKind.u64.wrap (a1)) 8 t300 w0 _ ?side1 ?side2 A3.out).mono ?_); (case side1 => repeat (first | (with_reducible first | exact HB.out | apply below_alloc | apply pw_below_drewN | apply below_drew1) | exact HB.out)); (case side2 => exact Kd.R_tight rfl HO0.out); rintro e w5 ⟨v301, rfl, ho0, hb, hkp⟩; refine ⟨_, rfl, ?_⟩; have n0_ := Aside0.mk (Kd.R_mono (ok' := fun k_ => (P0_ k_ ∨ w.heap.size ≤ k_)) ho0 (fun k_ hk_ => Or.elim hk_ (fun hs_ => (HO0.out.1 k_ (hs_).symm)) (fun hn_ => (.inr (Nat.le_trans (by first | exact HK.out.1 | exact (show Kept w _ (fun k_ => P0_ k_) from by repeat (first | (with_reducible first | exact HK.out | apply Kept.alloc | apply Kept.drewN | apply Kept.drew) | exact HK.out)).1) hn_))))); have n1_ := Aside0.mk (Kept.then_ (S := (fun k_ => P0_ k_)) (by repeat (first | (with_reducible first | exact HK.out | apply Kept.alloc | apply Kept.drewN | apply Kept.drew) | exact HK.out)) hkp (fun k_ hs_ => (fun e_ => (HO0.out.1 k_ e_.symm)) hs_)); have n2_ := Aside0.mk (hb); clear HK; clear HB; clear HO0; have HO302 := n0_; have HK := n1_; have HB := n2_; clear n0_ n1_ n2_; (try clear hb); (try clear hkp); (try clear ho0)))
 go_ret
 exact ⟨_, by first | rfl | (simp [errW_none, errW_some] <;> rfl) | (simp [*, errW_none, errW_some] <;> rfl), by (with_reducible repeat (first | apply Kd.R_alloc | apply Kd.R_drewN | apply Kd.R_drew)); exact HO302.out, by repeat (first | (with_reducible first | exact HB.out | apply below_alloc | apply pw_below_drewN | apply below_drew1) | exact HB.out), by repeat (first | (with_reducible first | exact HK.out | apply Kept.alloc | apply Kept.drewN | apply Kept.drew) | exact HK.out)⟩
def folkmootref02_Stamp.f (k : Nat) (l0 : List Int) (a1_0 : Int) (a1_1 : Int) : Option (List Int) := (folkmootref02_Int.f k l0 a1_0).bind fun t304 => ((folkmootref02_Int.f k t304 a1_1).bind fun t307 => (some t307))
def folkmootref02_Stamp.T1 : Bool × List (List Nat × List Nat) := (true, [([], []), ([], []), ([1], [1]), ([0, 2], [0, 2]), ([], []), ([4], [4]), ([3, 5, 3], [3, 5]), ([6, 6, 0, 1, 2, 3, 4, 5, 6], [6])])
def folkmootref02_Stamp.B1 : List Nat := [0, 0, 2, 7, 0, 16, 63, 127]
theorem folkmootref02_Stamp.tab1 : rtab .any (opsOf Tryz.f92 1) = folkmootref02_Stamp.T1 := by kernel_rfl
theorem folkmootref02_Stamp.bits1 : waitsOk folkmootref02_Stamp.T1.2 folkmootref02_Stamp.B1 = true := by kernel_rfl
set_option maxHeartbeats 8000000 in
set_option maxRecDepth 100000 in
theorem folkmootref02_Stamp.calls (k : Nat) (P0_ : Nat → Prop) (u9000_ : Value) (l0 : List Int) (a1_0 : Int) (a1_1 : Int) (r : List Int) (w0 w : World) (hB : Below w0.heap.size w0 w) (ho0 : Kd.R (Kd.int .u8) 5 w w0.heap.size P0_ u9000_ l0) (h : folkmootref02_Stamp.f k l0 a1_0 a1_1 = some r) :
  Calls Tryz.prog 92 #[u9000_, .agg #[.int .i64 a1_0, .int .i64 a1_1]] w fun e w' => ∃ v0_ : Value, e = .returned (v0_) ∧ Kd.R (Kd.int .u8) 5 w' w0.heap.size (fun k_ => (P0_ k_ ∨ w.heap.size ≤ k_)) v0_ r ∧ Below w0.heap.size w0 w' ∧ Kept w w' (fun k_ => P0_ k_) := by
 have hu41 := Tryz.underlying41
 have HO0 := Aside0.mk (show Kd.R (Kd.int .u8) 5 w w0.heap.size (fun k_ => (P0_ k_ ∨ w.heap.size ≤ k_)) u9000_ l0 from Kd.R_mono ho0 (fun k_ hk => (.inl hk)))
 have HK := Aside0.mk (Kept.refl w (fun k_ => P0_ k_))
 have HW0 := Aside0.mk hB.size
 have HB := Aside0.mk hB
 clear hB
 have H : ((folkmootref02_Int.f k l0 a1_0).bind fun t304 => ((folkmootref02_Int.f k t304 a1_1).bind fun t307 => (some t307))) = some r := h
 clear h
 replace H := Option.bind_eq_some_iff.mp H
 obtain ⟨t304, A30, H⟩ := H
 replace H : ((folkmootref02_Int.f k t304 a1_1).bind fun t307 => (some t307)) = some r := H
 have A3 := Aside0.mk A30
 clear A30
 replace H := Option.bind_eq_some_iff.mp H
 obtain ⟨t307, A40, H⟩ := H
 replace H : (some t307) = some r := H
 have A4 := Aside0.mk A40
 clear A40;obtain rfl := Option.some.inj H
 go_enter Tryz.func92, Tryz.ntmps92
 try go_wp2_with (first | ((with_reducible refine gate_dst (N := 3) rfl ?_); refine box_event ?hg (N := 3) ?hd (cs := #[.int .i64 a1_0, .int .i64 a1_1]) (t := 41) ?hr ?_; (case hd => rfl); (case hg => rfl); (case hr => first | (go_simp; done) | (go_simp; rfl)); intro gb303 hg w5 hbox hb; have n0_ := Aside0.mk (Kd.R_below (by (with_reducible repeat (first | apply Kd.R_alloc | apply Kd.R_drewN | apply Kd.R_drew)); exact HO0.out) hb); have n1_ := Aside0.mk (Kept.below (S := (fun k_ => P0_ k_)) (by repeat (first | (with_reducible first | exact HK.out | apply Kept.alloc | apply Kept.drewN | apply Kept.drew) | exact HK.out)) hb); have n2_ := Aside0.mk (below_step (by repeat (first | (with_reducible first | exact HB.out | apply below_alloc | apply pw_below_drewN | apply below_drew1) | exact HB.out)) hb); have n3_ := Aside0.mk (hbox); have n4_ := Aside0.mk ((by rw [hg]; exact (by first | exact HK.out.1 | exact (show Kept w _ (fun k_ => P0_ k_) from by repeat (first | (with_reducible first | exact HK.out | apply Kept.alloc | apply Kept.drewN | apply Kept.drew) | exact HK.out)).1) : w.heap.size ≤ gb303)); have n5_ := Aside0.mk ((by rw [hg]; exact (below_size (by repeat (first | (with_reducible first | exact HB.out | apply below_alloc | apply pw_below_drewN | apply below_drew1) | exact HB.out))) : w0.heap.size ≤ gb303)); clear HO0; clear HK; clear HB; have HO0 := n0_; have HK := n1_; have HB := n2_; have BK303 := n3_; have GW303 := n4_; have GE303 := n5_; clear n0_ n1_ n2_ n3_ n4_ n5_; clear hb hbox hg))
 have n0_ := Aside0.mk (Kd.R_drew HO0.out)
 have n1_ := Aside0.mk (blk_drew BK303.out)
 have n2_ := Aside0.mk (Kept.drew HK.out)
 have n3_ := Aside0.mk (below_drew1 HB.out)
 clear HO0 BK303 HK HB;have HO0 := n0_;have BK303 := n1_;have HK := n2_;have HB := n3_;clear n0_ n1_ n2_ n3_
 obtain ⟨Ao7, co7, eo7⟩ := Kd.R_slice HO0.out
 (first | subst eo7 | (injection eo7 with f1_ f2_ f3_; have f4_ := f1_.symm; have f5_ := f3_.symm; clear f1_ f2_ f3_; subst f4_; subst f5_))
 refine start_ (n := 8) (S := fun w' => w'.cell? ⟨gb303, 0, none⟩ = some (.int .i64 a1_0) ∧ w'.cell? ⟨gb303, 1, none⟩ = some (.int .i64 a1_1)) (ds := []) #[false,false,false,false,false,false,false,false] (by kernel_rfl) rfl rfl ⟨(blk_cell BK303.out 0).trans rfl, (blk_cell BK303.out 1).trans rfl⟩ (fun hHeld => ?_); refine with_tabW folkmootref02_Stamp.tab1 folkmootref02_Stamp.bits1 (fun HT_ HW_ => ?_)
 generalize w5.drew = w6 at HO0 BK303 HK HB hHeld ⊢
 refine pure_ (i := 0) (N := some 5) (v := ?_) (a' := ?_) #[true,false,false,false,false,false,false,false] rfl rfl (any_of HT_.out (by kernel_rfl)) (fun _ _ _ h => h) (Or.inl ⟨by rfl, ?_⟩) ?_ ?_;rotate_left
 ·intro w';go_simp;with_reducible rfl
 rotate_left
 ·simp only [Act.put, List.setIfInBounds_toArray, List.set_cons_zero, List.set_cons_succ, i64_w, i32_w];rfl
 refine pure_ (i := 1) (N := some 6) (v := ?_) (a' := ?_) #[true,true,false,false,false,false,false,false] rfl rfl (any_of HT_.out (by kernel_rfl)) (fun _ _ _ h => h) (Or.inl ⟨by rfl, ?_⟩) ?_ ?_;rotate_left
 ·intro w';go_simp;with_reducible rfl
 rotate_left
 ·simp only [Act.put, List.setIfInBounds_toArray, List.set_cons_zero, List.set_cons_succ, i64_w, i32_w];rfl
 refine pure_ (i := 4) (N := some 9) (v := ?_) (a' := ?_) #[true,true,false,false,true,false,false,false] rfl rfl (any_of HT_.out (by kernel_rfl)) (fun _ _ _ h => h) (Or.inl ⟨by rfl, ?_⟩) ?_ ?_;rotate_left
 ·intro w';go_simp;with_reducible rfl
 rotate_left
 ·simp only [Act.put, List.setIfInBounds_toArray, List.set_cons_zero, List.set_cons_succ, i64_w, i32_w];rfl
 refine take_ (i := 2) (N := some 7) (v := ?_) (a' := ?_) #[true,true,true,false,true,false,false,false] rfl rfl (take_ofW HT_.out HW_.out (by kernel_rfl)) (fun _ _ _ h => h) (Or.inl ⟨by rfl, ?_⟩) hHeld ?_ ?_;rotate_left
 ·rintro w' ⟨s0, s1⟩
  go_simp;with_reducible rfl
 rotate_left
 ·simp only [Act.put, List.setIfInBounds_toArray, List.set_cons_zero, List.set_cons_succ, i64_w, i32_w];rfl
 refine take_ (i := 5) (N := some 10) (v := ?_) (a' := ?_) #[true,true,true,false,true,true,false,false] rfl rfl (take_ofW HT_.out HW_.out (by kernel_rfl)) (fun _ _ _ h => h) (Or.inl ⟨by rfl, ?_⟩) hHeld ?_ ?_;rotate_left
 ·rintro w' ⟨s0, s1⟩
  go_simp;with_reducible rfl
 rotate_left
 ·simp only [Act.put, List.setIfInBounds_toArray, List.set_cons_zero, List.set_cons_succ, i64_w, i32_w];rfl
 refine one_ (i := 3) (N := some 8) #[true,true,true,true,true,true,false,false] rfl rfl (one_of HT_.out (by kernel_rfl)) (by decide) (fun K hK => ?_);refine goes_ Tryz.func51 (by kernel_rfl) rfl #[.slice Ao7 l0.length co7, .int .i64 a1_0] (by rfl) rfl rfl (by (try simp only [List.map_toArray, List.map_cons, List.map_nil]); first | done | rfl | (simp only [List.length_drop, List.length_take]; rfl)) ?_
 with_reducible refine (folkmootref02_Int.calls k (fun k_ => some k_ = (.slice Ao7 l0.length co7 : Value).ownBlock) (.slice Ao7 l0.length co7) l0 a1_0 t304 w0 _ ?side1 ?side2 A3.out).mono ?_
 (case side1 => repeat (first | (with_reducible first | exact HB.out | apply below_alloc | apply pw_below_drewN | apply below_drew1 | refine below_set ?_ GE303.out) | exact HB.out))
 (case side2 => exact Kd.R_tight rfl HO0.out)
 rintro e w8 ⟨v305, rfl, ho0, hb, hkp⟩
 refine ⟨_, rfl, ?_⟩
 have n0_ := Aside0.mk (blk_kept (by (with_reducible repeat (first | refine blk_drewN ?_ _ | refine blk_drew ?_ | refine blk_alloc ?_ _)); exact BK303.out) hkp (fun hs_ => (fun e_ => (Kd.R_ne HO0.out BK303.out (by decide)) e_) hs_))
 have n1_ := Aside0.mk (Kd.R_mono (ok' := fun k_ => (P0_ k_ ∨ w.heap.size ≤ k_)) ho0 (fun k_ hk_ => Or.elim hk_ (fun hs_ => (HO0.out.1 k_ (hs_).symm)) (fun hn_ => (.inr (Nat.le_trans (by first | exact HK.out.1 | exact (show Kept w _ (fun k_ => P0_ k_) from by repeat (first | (with_reducible first | exact HK.out | apply Kept.alloc | apply Kept.drewN | apply Kept.drew | refine Kept.setCell ?_ (.inr GW303.out) _) | exact HK.out)).1) hn_)))))
 have n2_ := Aside0.mk (Kept.then_ (S := (fun k_ => P0_ k_)) (by repeat (first | (with_reducible first | exact HK.out | apply Kept.alloc | apply Kept.drewN | apply Kept.drew | refine Kept.setCell ?_ (.inr GW303.out) _) | exact HK.out)) hkp (fun k_ hs_ => (fun e_ => (HO0.out.1 k_ e_.symm)) hs_))
 have n3_ := Aside0.mk (hb)
 clear BK303 HK HB HO0;have BK303 := n0_;have HO306 := n1_;have HK := n2_;have HB := n3_;clear n0_ n1_ n2_ n3_;(try clear hb);(try clear hkp);(try clear ho0)
 obtain ⟨Ao9, co9, eo9⟩ := Kd.R_slice HO306.out
 (first | subst eo9 | (injection eo9 with f1_ f2_ f3_; have f4_ := f1_.symm; have f5_ := f3_.symm; clear f1_ f2_ f3_; subst f4_; subst f5_))
 refine hK.out _ _ ⟨(blk_cell BK303.out 0).trans rfl, (blk_cell BK303.out 1).trans rfl⟩ (fun hHeld => ?_);clear hK K;refine norm_ (a' := ?_) ?_ ?_;rotate_left
 ·show Act.put _ (some 8) _ = _
  simp only [Act.put, List.setIfInBounds_toArray, List.set_cons_zero, List.set_cons_succ, i64_w, i32_w];rfl
 refine one_ (i := 6) (N := some 11) #[true,true,true,true,true,true,true,false] rfl rfl (one_of HT_.out (by kernel_rfl)) (by decide) (fun K hK => ?_);refine goes_ Tryz.func51 (by kernel_rfl) rfl #[.slice Ao9 t304.length co9, .int .i64 a1_1] (by rfl) rfl rfl (by (try simp only [List.map_toArray, List.map_cons, List.map_nil]); first | done | rfl | (simp only [List.length_drop, List.length_take]; rfl)) ?_
 with_reducible refine (folkmootref02_Int.calls k (fun k_ => some k_ = (.slice Ao9 t304.length co9 : Value).ownBlock) (.slice Ao9 t304.length co9) t304 a1_1 t307 w0 _ ?side1 ?side2 A4.out).mono ?_
 (case side1 => repeat (first | (with_reducible first | exact HB.out | apply below_alloc | apply pw_below_drewN | apply below_drew1 | refine below_set ?_ GE303.out) | exact HB.out))
 (case side2 => exact Kd.R_tight rfl HO306.out)
 rintro e w10 ⟨v308, rfl, ho0, hb, hkp⟩
 refine ⟨_, rfl, ?_⟩
 have n0_ := Aside0.mk (blk_kept (by (with_reducible repeat (first | refine blk_drewN ?_ _ | refine blk_drew ?_ | refine blk_alloc ?_ _)); exact BK303.out) hkp (fun hs_ => (fun e_ => (Kd.R_ne HO306.out BK303.out (by decide)) e_) hs_))
 have n1_ := Aside0.mk (Kd.R_mono (ok' := fun k_ => (P0_ k_ ∨ w.heap.size ≤ k_)) ho0 (fun k_ hk_ => Or.elim hk_ (fun hs_ => (HO306.out.1 k_ (hs_).symm)) (fun hn_ => (.inr (Nat.le_trans (by first | exact HK.out.1 | exact (show Kept w _ (fun k_ => P0_ k_) from by repeat (first | (with_reducible first | exact HK.out | apply Kept.alloc | apply Kept.drewN | apply Kept.drew | refine Kept.setCell ?_ (.inr GW303.out) _) | exact HK.out)).1) hn_)))))
 have n2_ := Aside0.mk (Kept.then_ (S := (fun k_ => P0_ k_)) (by repeat (first | (with_reducible first | exact HK.out | apply Kept.alloc | apply Kept.drewN | apply Kept.drew | refine Kept.setCell ?_ (.inr GW303.out) _) | exact HK.out)) hkp (fun k_ hs_ => (fun e_ => (HO306.out.1 k_ e_.symm)) hs_))
 have n3_ := Aside0.mk (hb)
 clear BK303 HK HB HO306;have BK303 := n0_;have HO309 := n1_;have HK := n2_;have HB := n3_;clear n0_ n1_ n2_ n3_;(try clear hb);(try clear hkp);(try clear ho0);refine hK.out _ _ ⟨(blk_cell BK303.out 0).trans rfl, (blk_cell BK303.out 1).trans rfl⟩ (fun hHeld => ?_);clear hK K;refine norm_ (a' := ?_) ?_ ?_;rotate_left
 ·show Act.put _ (some 11) _ = _
  simp only [Act.put, List.setIfInBounds_toArray, List.set_cons_zero, List.set_cons_succ, i64_w, i32_w];rfl
 refine pure_ (i := 7) (N := some 4) (v := ?_) (a' := ?_) #[true,true,true,true,true,true,true,true] rfl rfl (any_of HT_.out (by kernel_rfl)) (fun _ _ _ h => h) (Or.inl ⟨by rfl, ?_⟩) ?_ ?_;rotate_left
 ·intro w';go_simp;with_reducible rfl
 rotate_left
 ·simp only [Act.put, List.setIfInBounds_toArray, List.set_cons_zero, List.set_cons_succ, i64_w, i32_w];rfl
 refine done_ (done_of HT_.out (by kernel_rfl)) ?_
 try go_wp2
 go_ret
 exact ⟨_, by first | rfl | (simp [errW_none, errW_some] <;> rfl) | (simp [*, errW_none, errW_some] <;> rfl), by (with_reducible repeat (first | apply Kd.R_alloc | apply Kd.R_drewN | apply Kd.R_drew)); exact HO309.out, by repeat (first | (with_reducible first | exact HB.out | apply below_alloc | apply pw_below_drewN | apply below_drew1 | refine below_set ?_ GE303.out) | exact HB.out), by repeat (first | (with_reducible first | exact HK.out | apply Kept.alloc | apply Kept.drewN | apply Kept.drew | refine Kept.setCell ?_ (.inr GW303.out) _) | exact HK.out)⟩
def folkmootref02_Stamps.l0 : Nat → List Int → List (S41) → Int → Option (List Int)
 | 0, _, _, _ => none
 | k + 1, x0, x1, x5 => if x5 < (x1.length : Int) then (if 0 ≤ x5 then ((folkmootref02_Stamp.f k x0 ((rd_T41 x1 x5).f0) ((rd_T41 x1 x5).f1)).bind fun t314 => (folkmootref02_Stamps.l0 k t314 x1 (wrap64 (x5 + 1)))) else (none)) else (some x0)
def folkmootref02_Stamps.f (k : Nat) (l0 : List Int) (l1 : List (S41)) : Option (List Int) := (folkmootref02_Int.f k l0 (l1.length : Int)).bind fun t310 => (folkmootref02_Stamps.l0 k t310 l1 0)
set_option maxHeartbeats 8000000 in
set_option maxRecDepth 100000 in
theorem folkmootref02_Stamps.calls (k : Nat) (P0_ : Nat → Prop) (u9000_ : Value) (l0 : List Int) (A1 : Option Addr) (c1 : Nat) (l1 : List (S41)) (r : List Int) (w0 w : World) (hB : Below w0.heap.size w0 w) (ho0 : Kd.R (Kd.int .u8) 5 w w0.heap.size P0_ u9000_ l0) (hr1 : ∀ W_, Kept w W_ (fun k_ => P0_ k_) → Kd.C k41 W_ A1 l1.length l1) (hc1 : l1.length ≤ c1) (h : folkmootref02_Stamps.f k l0 l1 = some r) :
  Calls Tryz.prog 52 #[u9000_, .slice A1 l1.length c1] w fun e w' => ∃ v0_ : Value, e = .returned (v0_) ∧ Kd.R (Kd.int .u8) 5 w' w0.heap.size (fun k_ => (P0_ k_ ∨ w.heap.size ≤ k_)) v0_ r ∧ Below w0.heap.size w0 w' ∧ Kept w w' (fun k_ => P0_ k_) := by
 have hu41 := Tryz.underlying41
 have HO0 := Aside0.mk (show Kd.R (Kd.int .u8) 5 w w0.heap.size (fun k_ => (P0_ k_ ∨ w.heap.size ≤ k_)) u9000_ l0 from Kd.R_mono ho0 (fun k_ hk => (.inl hk)))
 have HR1 := Aside0.mk hr1
 have HC1 := Aside0.mk hc1
 clear hr1 hc1
 have HK := Aside0.mk (Kept.refl w (fun k_ => P0_ k_))
 have HW0 := Aside0.mk hB.size
 have HB := Aside0.mk hB
 clear hB
 have H : ((folkmootref02_Int.f k l0 (l1.length : Int)).bind fun t310 => (folkmootref02_Stamps.l0 k t310 l1 0)) = some r := h
 clear h
 replace H := Option.bind_eq_some_iff.mp H
 obtain ⟨t310, A30, H⟩ := H
 replace H : (folkmootref02_Stamps.l0 k t310 l1 0) = some r := H
 have A3 := Aside0.mk A30
 clear A30
 have H' := Aside0.mk H
 clear H
 obtain ⟨Ao4, co4, eo4⟩ := Kd.R_slice HO0.out
 subst eo4
 go_enter Tryz.func52, Tryz.ntmps52
 go_wp2_with (first | ((with_reducible refine gate_callee (f := 51) rfl ?_); refine goesL_ (some 9) rfl rfl Tryz.func51 (by kernel_rfl) rfl #[.slice Ao4 l0.length co4, .int .i64 (l1.length : Int)] rfl (by (try simp only [List.map_toArray, List.map_cons, List.map_nil]); first | done | rfl | (simp only [List.length_drop, List.length_take]; rfl)) ?_; (with_reducible refine (folkmootref02_Int.calls k (fun k_ => some k_ = (.slice Ao4 l0.length co4 : Value).ownBlock) (.slice Ao4 l0.length co4) l0 (l1.length : Int) t310 w0 _ ?side1 ?side2 A3.out).mono ?_); (case side1 => repeat (first | (with_reducible first | exact HB.out | apply below_alloc | apply pw_below_drewN | apply below_drew1) | exact HB.out)); (case side2 => exact Kd.R_tight rfl HO0.out); rintro e w5 ⟨v311, rfl, ho0, hb, hkp⟩; refine ⟨_, rfl, ?_⟩; have n0_ := Aside0.mk (Kd.R_mono (ok' := fun k_ => (P0_ k_ ∨ w.heap.size ≤ k_)) ho0 (fun k_ hk_ => Or.elim hk_ (fun hs_ => (HO0.out.1 k_ (hs_).symm)) (fun hn_ => (.inr (Nat.le_trans (by first | exact HK.out.1 | exact (show Kept w _ (fun k_ => P0_ k_) from by repeat (first | (with_reducible first | exact HK.out | apply Kept.alloc | apply Kept.drewN | apply Kept.drew) | exact HK.out)).1) hn_))))); have n1_ := Aside0.mk (Kept.then_ (S := (fun k_ => P0_ k_)) (by repeat (first | (with_reducible first | exact HK.out | apply Kept.alloc | apply Kept.drewN | apply Kept.drew) | exact HK.out)) hkp (fun k_ hs_ => (fun e_ => (HO0.out.1 k_ e_.symm)) hs_)); have n2_ := Aside0.mk (hb); clear HK; clear HB; clear HO0; have HO312 := n0_; have HK := n1_; have HB := n2_; clear n0_ n1_ n2_; (try clear hb); (try clear hkp); (try clear ho0)))
 go_loopg [0, 5] k (fun kq v0 v5 w' => ∃ (x0_1 : List Int) (x5_1 : Int), v5 = .int .i64 x5_1 ∧ Aside0 (folkmootref02_Stamps.l0 kq x0_1 l1 x5_1 = some r) ∧ Aside0 (kq ≤ k) ∧ Aside0 (Kd.R (Kd.int .u8) 5 w' w0.heap.size (fun k_ => (P0_ k_ ∨ w.heap.size ≤ k_)) v0 x0_1) ∧ Aside0 (Kept w w' (fun k_ => P0_ k_)) ∧ Aside0 (Below w0.heap.size w0 w'))
 case atStart => exact ⟨(t310), (0), (by first | rfl | (simp; done) | (simp [*]; done)), H', ⟨Nat.le_refl _⟩, ⟨by (with_reducible repeat (first | apply Kd.R_alloc | apply Kd.R_drewN | apply Kd.R_drew)); exact HO312.out⟩, ⟨by repeat (first | (with_reducible first | exact HK.out | apply Kept.alloc | apply Kept.drewN | apply Kept.drew) | exact HK.out)⟩, ⟨by repeat (first | (with_reducible first | exact HB.out | apply below_alloc | apply pw_below_drewN | apply below_drew1) | exact HB.out)⟩⟩
 case round =>
  clear H'
  try clear c1
  try clear p2
  try clear c5
  obtain ⟨x0_1, x5_1, rfl, HA, HK1, HO_0, HK, HB⟩ := hrel
  cases gk with
  | zero => exact absurd HA.out (by simp [folkmootref02_Stamps.l0])
  | succ k1 =>
   have H := HA.out;clear HA
   simp only [folkmootref02_Stamps.l0] at H
   by_cases c6 : x5_1 < (l1.length : Int)
   ·rw [if_pos c6] at H
    have c6b0 : decide (x5_1 < (l1.length : Int)) = true := decide_eq_true c6
    clear c6
    by_cases c7 : 0 ≤ x5_1
    ·rw [if_pos c7] at H
     have c7b0 : decide (0 ≤ x5_1) = true := decide_eq_true c7
     clear c7
     replace H := Option.bind_eq_some_iff.mp H
     obtain ⟨t314, A80, H⟩ := H
     replace H : (folkmootref02_Stamps.l0 k1 t314 l1 (wrap64 (x5_1 + 1))) = some r := H
     have A8 := Aside0.mk A80
     clear A80
     have H' := Aside0.mk H
     clear H
     have p313 : 0 ≤ (x5_1 : Int) := of_decide_eq_true (by first | (with_reducible assumption) | assumption)
     have q313 : x5_1 < (l1.length : Int) := of_decide_eq_true (by first | (with_reducible assumption) | assumption)
     obtain ⟨ad313, e313, hx313_0, hx313_1⟩ := at_T41 (Kd.C_kept_now HR1.out HK.out) x5_1 p313 q313
     cases e313
     replace p313 := eq_true p313
     replace q313 := eq_true q313
     obtain ⟨Ao9, co9, eo9⟩ := Kd.R_slice HO_0.out
     subst eo9
     go_wp2_with (first | ((with_reducible refine gate_callee (f := 92) rfl ?_); refine goesL_ (some 21) rfl rfl Tryz.func92 (by kernel_rfl) rfl #[.slice Ao9 x0_1.length co9, .agg #[.int .i64 ((rd_T41 l1 x5_1).f0), .int .i64 ((rd_T41 l1 x5_1).f1)]] rfl (by (try simp only [List.map_toArray, List.map_cons, List.map_nil]); first | done | rfl | (simp only [List.length_drop, List.length_take]; rfl)) ?_; (with_reducible refine (folkmootref02_Stamp.calls k1 (fun k_ => some k_ = (.slice Ao9 x0_1.length co9 : Value).ownBlock) (.slice Ao9 x0_1.length co9) x0_1 ((rd_T41 l1 x5_1).f0) ((rd_T41 l1 x5_1).f1) t314 w0 _ ?side1 ?side2 A8.out).mono ?_); (case side1 => repeat (first | (with_reducible first | exact HB.out | apply below_alloc | apply pw_below_drewN | apply below_drew1) | exact HB.out)); (case side2 => exact Kd.R_tight rfl HO_0.out); rintro e w10 ⟨v315, rfl, ho0, hb, hkp⟩; refine ⟨_, rfl, ?_⟩; have n0_ := Aside0.mk (Kd.R_mono (ok' := fun k_ => (P0_ k_ ∨ w.heap.size ≤ k_)) ho0 (fun k_ hk_ => Or.elim hk_ (fun hs_ => (HO_0.out.1 k_ (hs_).symm)) (fun hn_ => (.inr (Nat.le_trans (by first | exact HK.out.1 | exact (show Kept w _ (fun k_ => P0_ k_) from by repeat (first | (with_reducible first | exact HK.out | apply Kept.alloc | apply Kept.drewN | apply Kept.drew) | exact HK.out)).1) hn_))))); have n1_ := Aside0.mk (Kept.then_ (S := (fun k_ => P0_ k_)) (by repeat (first | (with_reducible first | exact HK.out | apply Kept.alloc | apply Kept.drewN | apply Kept.drew) | exact HK.out)) hkp (fun k_ hs_ => (fun e_ => (HO_0.out.1 k_ e_.symm)) hs_)); have n2_ := Aside0.mk (hb); clear HK; clear HB; clear HO_0; have HO316 := n0_; have HK := n1_; have HB := n2_; clear n0_ n1_ n2_; (try clear hb); (try clear hkp); (try clear ho0)))
     go_roundg k1
     case measure => have := HK1.out; omega
     case rel => exact ⟨(t314), (wrap64 (x5_1 + 1)), (by first | rfl | (simp; done) | (simp [*]; done)), H', ⟨by have := HK1.out; omega⟩, ⟨by (with_reducible repeat (first | apply Kd.R_alloc | apply Kd.R_drewN | apply Kd.R_drew)); exact HO316.out⟩, ⟨by repeat (first | (with_reducible first | exact HK.out | apply Kept.alloc | apply Kept.drewN | apply Kept.drew) | exact HK.out)⟩, ⟨by repeat (first | (with_reducible first | exact HB.out | apply below_alloc | apply pw_below_drewN | apply below_drew1) | exact HB.out)⟩⟩
    ·rw [if_neg c7] at H
     exact absurd H (by simp)
   ·rw [if_neg c6] at H
    have c6b0 : decide (x5_1 < (l1.length : Int)) = false := decide_eq_false c6
    clear c6;obtain rfl := Option.some.inj H
    go_wp2
    go_ret
    exact ⟨_, by first | rfl | (simp [errW_none, errW_some] <;> rfl) | (simp [*, errW_none, errW_some] <;> rfl), by (with_reducible repeat (first | apply Kd.R_alloc | apply Kd.R_drewN | apply Kd.R_drew)); exact HO_0.out, by repeat (first | (with_reducible first | exact HB.out | apply below_alloc | apply pw_below_drewN | apply below_drew1) | exact HB.out), by repeat (first | (with_reducible first | exact HK.out | apply Kept.alloc | apply Kept.drewN | apply Kept.drew) | exact HK.out)⟩
def folkmootref02_number.l0 : Nat → List Int → Int → Int → Option (Int)
 | 0, _, _, _ => none
 | k + 1, x0, x3, x4 => if x4 ≥ 0 then (if 0 ≤ x4 then (if x4 < (x0.length : Int) then (folkmootref02_number.l0 k x0 (Go.bits .or .u64 (IntKind.u64.wrap (x3 * 256)) (IntKind.u64.wrap (rd x0 x4))) (wrap64 (x4 - 1))) else (none)) else (none)) else (some x3)
def folkmootref02_number.f (k : Nat) (l0 : List Int) : Option (Int) := folkmootref02_number.l0 k l0 0 (wrap64 ((l0.length : Int) - 1))
set_option maxHeartbeats 8000000 in
set_option maxRecDepth 100000 in
theorem folkmootref02_number.calls (k : Nat) (A0 : Option Addr) (c0 : Nat) (l0 : List Int) (r : Int) (w : World) (hr0 : Kd.C (Kd.int .u8) w A0 l0.length l0) (hc0 : l0.length ≤ c0) (h : folkmootref02_number.f k l0 = some r) :
  Calls Tryz.prog 108 #[.slice A0 l0.length c0] w fun e w' => e = .returned (.int .u64 r) ∧ Drawn0 w w' := by
 have HR0 := Aside0.mk hr0
 have HC0 := Aside0.mk hc0
 clear hr0 hc0
 have H : (folkmootref02_number.l0 k l0 0 (wrap64 ((l0.length : Int) - 1))) = some r := h
 clear h
 have H' := Aside0.mk H
 clear H
 go_enter Tryz.func108, Tryz.ntmps108
 go_wp2
 go_loopg [3, 4] k (fun kq v3 v4 w' => ∃ (x3_1 : Int) (x4_1 : Int), v3 = .int .u64 x3_1 ∧ v4 = .int .i64 x4_1 ∧ Aside0 (folkmootref02_number.l0 kq l0 x3_1 x4_1 = some r) ∧ Aside0 (kq ≤ k) ∧ Drawn0 w w')
 case atStart => exact ⟨(0), (wrap64 ((l0.length : Int) - 1)), (by first | rfl | (simp; done) | (simp [*]; done)), (by first | rfl | (simp; done) | (simp [*]; done)), H', ⟨Nat.le_refl _⟩, by repeat (first | exact Drawn0.refl _ | apply Drawn0.step)⟩
 case round =>
  clear H'
  try clear c1
  obtain ⟨x3_1, x4_1, rfl, rfl, HA, HK1, ⟨m1, rfl⟩⟩ := hrel
  cases gk with
  | zero => exact absurd HA.out (by simp [folkmootref02_number.l0])
  | succ k1 =>
   have H := HA.out;clear HA
   simp only [folkmootref02_number.l0] at H
   by_cases c2 : x4_1 ≥ 0
   ·rw [if_pos c2] at H
    have c2b0 : decide (0 ≤ x4_1) = true := decide_eq_true c2
    clear c2
    by_cases c3 : 0 ≤ x4_1
    ·rw [if_pos c3] at H
     have c3b0 : decide (0 ≤ x4_1) = true := decide_eq_true c3
     clear c3
     by_cases c4 : x4_1 < (l0.length : Int)
     ·rw [if_pos c4] at H
      have c4b0 : decide (x4_1 < (l0.length : Int)) = true := decide_eq_true c4
      clear c4
      have H' := Aside0.mk H
      clear H
      have p317 : 0 ≤ (x4_1 : Int) := of_decide_eq_true (by first | (with_reducible assumption) | assumption)
      have q317 : x4_1 < (l0.length : Int) := of_decide_eq_true (by first | (with_reducible assumption) | assumption)
      obtain ⟨ad317, e317, hx317_0⟩ := Kd.at_int HR0.out x4_1 p317 q317
      cases e317
      replace p317 := eq_true p317
      replace q317 := eq_true q317
      go_wp2
      go_roundg k1
      case measure => have := HK1.out; omega
      case rel => exact ⟨(Go.bits .or .u64 (IntKind.u64.wrap (x3_1 * 256)) (IntKind.u64.wrap (rd l0 x4_1))), (wrap64 (x4_1 - 1)), (by first | rfl | (simp; done) | (simp [*]; done)), (by first | rfl | (simp; done) | (simp [*]; done)), H', ⟨by have := HK1.out; omega⟩, by repeat (first | exact Drawn0.refl _ | apply Drawn0.step)⟩
     ·rw [if_neg c4] at H
      exact absurd H (by simp)
    ·rw [if_neg c3] at H
     exact absurd H (by simp)
   ·rw [if_neg c2] at H
    have c2b0 : decide (0 ≤ x4_1) = false := decide_eq_false c2
    clear c2;obtain rfl := Option.some.inj H
    go_wp2
    go_ret
    exact ⟨by first | rfl | (simp; done) | (simp [*]; done), by repeat (first | exact Drawn0.refl _ | apply Drawn0.step)⟩
end Go.Proofs.YtaedlmeaconflaaGreat.P
end
section
set_option linter.unusedVariables false
set_option linter.unusedSimpArgs false
namespace Go.Proofs.YtaedlmeaconflaaGreat.P
open Go.RowKit Go.Proofs.YtaedlmeaconflaaGreatW.PrintWords Go.Proofs.YtaedlmeaconflaaGreatW.PrintLast Go.Proofs.YtaedlmeaconflaaGreatW.PrintMore
theorem shr_byte (n k : Nat) (hk : k < 8) (hn : n < 18446744073709551616) : (shr .u64 (n : Int) (IntKind.u64.wrap (wrap64 (8 * (k : Int))))) % 256 = ((n / 256 ^ k % 256 : Nat) : Int) := by
  have e : IntKind.u64.wrap (wrap64 (8 * (k : Int))) = ((8 * k : Nat) : Int) := by
    rw [w64_of (by omega) (by omega), Go.IntWalk.u64_in _ (by omega)]; omega
  rw [e]
  unfold shr
  rw [Int.toNat_natCast, Nat.min_eq_left (show 8 * k ≤ IntKind.u64.bits by show 8 * k ≤ 64; omega)]
  have hp : ((2 : Int) ^ (8 * k)) = ((256 ^ k : Nat) : Int) := by
    rw [Int.pow_mul, show (2 : Int) ^ 8 = 256 by decide, Int.natCast_pow]; rfl
  rw [hp, Int.natCast_emod, Int.natCast_ediv]
  rfl
theorem ev_low (n : Nat) (hn : n < 18446744073709551616) (many : Nat) (h8 : many ≤ 8) (b : List Int) (hb : b.length ≤ 1000000000000) : ∀ (m i : Nat), i + m = many → P.Ev (fun k => folkmootref02_low.l0 k (b ++ leBytes i n) (n : Int) (many : Int) (i : Int)) (b ++ leBytes many n)
  | 0, i, h => by
    refine P.Ev.succ ?_;simp only [folkmootref02_low.l0]
    obtain rfl : i = many := by omega
    exact P.Ev.no (by omega) (P.Ev.some _)
  | m + 1, i, h => by
    refine P.Ev.succ ?_;simp only [folkmootref02_low.l0]
    have hs := shr_byte n i (by omega) hn
    have h0 : (0 : Int) ≤ IntKind.u64.wrap (wrap64 (8 * (i : Int))) := by
      rw [w64_of (by omega) (by omega), Go.IntWalk.u64_in _ (by omega)]; omega
    refine P.Ev.yes (by omega) (P.Ev.yes h0 (P.Ev.yes (by rw [List.length_append, leBytes_len]; omega) ?_))
    rw [hs, List.append_assoc, ← leBytes_snoc, w64_succ (by omega)]
    exact ev_low n hn many h8 b hb m (i + 1) (by omega)
theorem ev_rInt (x : Int) (b : List Int) (hb : b.length ≤ 1000000000000) : P.Ev (fun k => folkmootref02_Int.f k b x) (b ++ laidI x) := by
  unfold folkmootref02_Int.f folkmootref02_low.f
  have hw : IntKind.u64.wrap x = ((u64 x : Nat) : Int) := by
    unfold u64
    simp [IntKind.wrap, IntKind.bits, IntKind.signed]
    omega
  rw [hw]
  refine P.Ev.bind (r := b ++ laidI x) ?_ (P.Ev.some _)
  have := ev_low (u64 x) (u64_lt x) 8 (by omega) b hb 8 0 (by omega)
  rw [show leBytes 0 (u64 x) = [] from rfl, List.append_nil] at this
  exact this
theorem ev_rStamp (s : S41) (b : List Int) (hb : b.length ≤ 100000000000) : P.Ev (fun k => folkmootref02_Stamp.f k b s.f0 s.f1) (b ++ laidS s) := by
  unfold folkmootref02_Stamp.f
  refine P.Ev.bind (ev_rInt s.f0 b (by omega)) (P.Ev.bind (ev_rInt s.f1 _ (by rw [List.length_append, laidI_len]; omega)) ((P.Ev.some _).eq ?_))
  unfold laidS
  rw [List.append_assoc]
theorem ev_rStamps1 (l : List S41) (b : List Int) (hb : b.length + 16 * l.length ≤ 10000000000) : ∀ (m i : Nat), i + m = l.length → P.Ev (fun k => folkmootref02_Stamps.l0 k (b ++ laidSs (l.take i)) l (i : Int)) (b ++ laidSs l)
  | 0, i, h => by
    refine P.Ev.succ ?_;simp only [folkmootref02_Stamps.l0]
    rw [List.take_of_length_le (show l.length ≤ i by omega)]
    exact P.Ev.no (by omega) (P.Ev.some _)
  | m + 1, i, h => by
    have hi : i < l.length := by omega
    refine P.Ev.succ ?_;simp only [folkmootref02_Stamps.l0]
    rw [rdS_nat l hi, w64_succ (by omega)]
    refine P.Ev.yes (by omega) (P.Ev.yes (by omega) (P.Ev.bind (ev_rStamp l[i] _ (by rw [List.length_append, laidSs_len, List.length_take]; omega)) ?_))
    rw [List.append_assoc, ← laidSs_snoc l hi]
    exact ev_rStamps1 l b hb m (i + 1) (by omega)
theorem ev_rStamps (l : List S41) (b : List Int) (hb : b.length + 8 + 16 * l.length ≤ 10000000000) : P.Ev (fun k => folkmootref02_Stamps.f k b l) (b ++ laidStamps l) := by
  unfold folkmootref02_Stamps.f
  refine P.Ev.bind (ev_rInt (l.length : Int) b (by omega)) ?_
  have := ev_rStamps1 l (b ++ laidI (l.length : Int)) (by rw [List.length_append, laidI_len]; omega) l.length 0 (by omega)
  unfold laidStamps
  rw [← List.append_assoc]
  simpa [laidSs] using this
theorem or_byte (acc b : Nat) (hb : b < 256) (ha : acc * 256 + b < 18446744073709551616) : Go.bits .or .u64 (IntKind.u64.wrap ((acc : Int) * 256)) (IntKind.u64.wrap (b : Int)) = ((b + 256 * acc : Nat) : Int) := by
  have e1 : IntKind.u64.wrap ((acc : Int) * 256) = ((2 ^ 8 * acc : Nat) : Int) := by rw [Go.IntWalk.u64_in _ (by omega)]; omega
  have e2 : IntKind.u64.wrap (b : Int) = b := Go.IntWalk.u64_in _ (by omega)
  rw [e1, e2]
  have hw : ∀ n : Int, 0 ≤ n → n < 2 ^ 64 → IntKind.u64.wrap n = n := fun n h0 h1 => Go.IntWalk.u64_in n (by omega)
  rw [(bits_nat .u64 64 (by decide) hw (2 ^ 8 * acc) b (by omega) (by omega)).2, ← Nat.two_pow_add_eq_or_of_lt (by omega) acc]
  omega
theorem ev_num1 (l : List Int) (hl : bytesOk l) (h8 : l.length ≤ 8) : ∀ (i : Nat), i ≤ l.length → P.Ev (fun k => folkmootref02_number.l0 k l ((leNum (l.drop i) : Nat) : Int) ((i : Int) - 1)) ((leNum l : Nat) : Int)
  | 0, _ => by
    refine P.Ev.succ ?_;simp only [folkmootref02_number.l0]
    rw [List.drop_zero]
    exact P.Ev.no (by omega) (P.Ev.some _)
  | i + 1, h => by
    have hi : i < l.length := by omega
    have ih := ev_num1 l hl h8 i (by omega)
    have hb := hl l[i] (List.getElem_mem hi)
    have hlt := leNum_lt (l.drop i) (fun x hx => hl x (List.mem_of_mem_drop hx))
    have hp : 256 ^ (l.drop i).length ≤ 256 ^ 8 := Nat.pow_le_pow_right (by decide) (by rw [List.length_drop]; omega)
    have h2 : (256 : Nat) ^ 8 = 18446744073709551616 := by decide
    rw [List.drop_eq_getElem_cons hi, leNum] at ih hlt
    refine P.Ev.succ ?_;simp only [folkmootref02_number.l0]
    rw [show ((i + 1 : Nat) : Int) - 1 = (i : Int) by omega, rd_nat l hi, w64_of (x := (i : Int) - 1) (by omega) (by omega)]
    refine P.Ev.yes (by omega) (P.Ev.yes (by omega) (P.Ev.yes (by omega) ?_))
    have he := or_byte (leNum (l.drop (i + 1))) l[i].toNat (by omega) (by rw [List.drop_eq_getElem_cons hi] at hp; omega)
    rw [show ((l[i].toNat : Nat) : Int) = l[i] by omega] at he
    rw [he]
    exact ih
theorem ev_number (l : List Int) (hl : bytesOk l) (h8 : l.length ≤ 8) : P.Ev (fun k => folkmootref02_number.f k l) ((leNum l : Nat) : Int) := by
  unfold folkmootref02_number.f
  rw [w64_of (by omega) (by omega)]
  have := ev_num1 l hl h8 l.length (Nat.le_refl _)
  rw [List.drop_length] at this
  exact this
end Go.Proofs.YtaedlmeaconflaaGreat.P
end
