/- what the claim's row stands on, part 8. -/
import Derived.Test.YtaedlmeaconflaaZo6
import Derived.Test.YtaedlmeaconflaaZo5
import Derived.Test.YtaedlmeaconflaaZo2
import Derived.Test.YtaedlmeaconflaaZo3
import Derived.Test.YtaedlmeaconflaaZo7
section
set_option linter.unusedVariables false
set_option linter.unusedSimpArgs false
namespace Go.Proofs.Ytaedlmeaconflaa.P
open Go.RowKit Go.Sort Go.Shelf Go.Proofs.YtaedlmeaconflaaW.PrintWords Go.Proofs.YtaedlmeaconflaaW.PrintLast Go.Proofs.YtaedlmeaconflaaW.PrintMore
theorem cmp64_f (a b : Int) : cmp_Compare_int64.f a b = some (cmpZ a b) := by
  unfold cmp_Compare_int64.f cmp_isNaN_int64.f cmpZ
  simp only [bne_self_eq_false, Option.bind_some]
  by_cases h1 : a < b
  · simp [h1]
  · by_cases h2 : b < a
    · simp [h1, h2]
    · simp [h1, h2]
theorem cmpI_f (a b : Int) : cmp_Compare_int.f a b = some (cmpZ a b) := by
  unfold cmp_Compare_int.f cmp_isNaN_int.f cmpZ
  simp only [bne_self_eq_false, Option.bind_some]
  by_cases h1 : a < b
  · simp [h1]
  · by_cases h2 : b < a
    · simp [h1, h2]
    · simp [h1, h2]
theorem ev_or (a b : Int) : Ev (fun k => cmp_Or_int.f k [a, b]) (if a = 0 then b else a) := by
  unfold cmp_Or_int.f
  refine Ev.succ ?_
  simp only [cmp_Or_int.l0]
  refine Ev.yes (by simp) (Ev.yes (by omega) (Ev.yes (by simp) ?_))
  refine Ev.cond (fun h => ?_) (fun h => ?_)
  · have h0 : a = 0 := h
    rw [if_pos h0]
    refine Ev.succ ?_
    simp only [cmp_Or_int.l0]
    refine Ev.yes (by simp [wrap64]) (Ev.yes (by simp [wrap64]) (Ev.yes (by simp [wrap64]) ?_))
    have e : rd [a, b] (wrap64 (0 + 1)) = b := by rw [show wrap64 (0 + 1) = 1 by unfold wrap64; omega]; rfl
    rw [e]
    refine Ev.cond (fun h1 => ?_) (fun h1 => Ev.some _)
    refine Ev.succ ?_
    simp only [cmp_Or_int.l0]
    exact Ev.no (by simp [wrap64]) ((Ev.some _).eq h1.symm)
  · have h0 : ¬ a = 0 := h
    rw [if_neg h0]
    exact Ev.some _
theorem ev_cmp (x y : S33) : Ev (fun k => stamp_Compare.f k x.f0 x.f1 y.f0 y.f1) (cmpS x y) := by
  unfold stamp_Compare.f
  exact Ev.bind1 (cmp64_f _ _) (Ev.bind1 (cmpI_f _ _) (Ev.bind (ev_or _ _) (Ev.some _)))
theorem scheck_f (s : S33) : stamp_Check.f s.f0 s.f1 = some (if isS s = true then 0 else 10) := by
  unfold stamp_Check.f stamp_isNode.f isS
  by_cases h1 : s.f1 ≥ 1
  · rw [if_pos h1]
    simp only [Option.bind_some]
    by_cases h2 : s.f1 ≤ 7
    · rw [if_pos (decide_eq_true h2)]
      by_cases h3 : s.f0 < 1
      · rw [if_pos h3, if_neg (by simp; omega)]
      · rw [if_neg h3]
        by_cases h4 : s.f0 > 1099511627776
        · rw [if_pos h4, if_neg (by simp; omega)]
        · rw [if_neg h4, if_pos (by simp; omega)]
    · rw [if_neg (by simp; omega), if_neg (by simp; omega)]
  · rw [if_neg h1]
    simp only [Option.bind_some]
    rw [if_neg (by decide), if_neg (by simp; omega)]
def ascFrom (l : List S33) (j : Nat) : Prop := ∀ t, j ≤ t → 0 < t → (h : t < l.length) → cmpS (l[t - 1]'(by omega)) l[t] < 0
theorem asc_adj (l : List S33) : Asc l ↔ ascFrom l 0 := by
  constructor
  · intro h t _ h0 ht
    exact List.pairwise_iff_getElem.1 h (t - 1) t (by omega) ht (by omega)
  · intro h
    refine List.pairwise_iff_getElem.2 fun i j hi hj hij => ?_
    induction j with
    | zero => omega
    | succ j ih =>
      have h1 := h (j + 1) (Nat.zero_le _) (by omega) hj
      simp only [Nat.add_sub_cancel] at h1
      rcases Nat.eq_or_lt_of_le (Nat.le_of_lt_succ hij) with e | e
      · subst e; exact h1
      · exact cmpS_tr (ih (by omega) e) h1
theorem ascFrom_step {l : List S33} {j : Nat} (hj : j < l.length) : ascFrom l j ↔ (0 < j → cmpS (l[j - 1]'(by omega)) l[j] < 0) ∧ ascFrom l (j + 1) :=
  ⟨fun h => ⟨fun h0 => h j (Nat.le_refl _) h0 hj, fun t h1 h2 h3 => h t (by omega) h2 h3⟩, fun ⟨h, k⟩ t h1 h2 h3 => by
    rcases Nat.eq_or_lt_of_le h1 with rfl | h4
    · exact h h2
    · exact k t h4 h2 h3⟩
theorem ev_d2 (d : List S39) (a : Int) (l : List S33) (hl : l.length ≤ 9223372036854775807) (n i : Int) (p : Prop) (hn : Ev (fun k => deps_Check.l1 k a d n (wrap64 (i + 1))) (r60 p)) :
    ∀ (m j : Nat), j + m = l.length → Ev (fun k => deps_Check.l2 k a d n i l (l.length : Int) (j : Int) a l) (r60 ((∀ s ∈ l.drop j, isS s = true) ∧ ascFrom l j ∧ p))
  | 0, j, h => by
    refine Ev.succ ?_
    simp only [deps_Check.l2]
    refine Ev.no (by omega) (hn.eq (r60_eq ?_))
    rw [List.drop_eq_nil_of_le (show l.length ≤ j by omega)]
    exact ⟨fun k => ⟨fun s hs => by simp at hs, fun t h1 _ h3 => by omega, k⟩, fun k => k.2.2⟩
  | m + 1, j, h => by
    have hj : j < l.length := by omega
    have ih := ev_d2 d a l hl n i p hn m (j + 1) (by omega)
    have hsp : (isS l[j] = true ∧ (0 < j → cmpS (l[j - 1]'(by omega)) l[j] < 0)) → (((∀ s ∈ l.drop (j + 1), isS s = true) ∧ ascFrom l (j + 1) ∧ p) ↔ ((∀ s ∈ l.drop j, isS s = true) ∧ ascFrom l j ∧ p)) := fun ⟨h1, h2⟩ => by
      rw [List.drop_eq_getElem_cons hj, ascFrom_step hj]
      simp only [List.mem_cons, forall_eq_or_imp]
      exact ⟨fun ⟨k1, k2, k3⟩ => ⟨⟨h1, k1⟩, ⟨h2, k2⟩, k3⟩, fun ⟨k1, k2, k3⟩ => ⟨k1.2, k2.2, k3⟩⟩
    refine Ev.succ ?_
    simp only [deps_Check.l2]
    rw [rdS_nat l hj, w64_succ (n := j) (by omega), scheck_f]
    refine Ev.yes (by omega) (Ev.yes (by omega) (Ev.yes (by omega) (Ev.bind1 rfl ?_)))
    by_cases h1 : isS l[j] = true
    · rw [if_pos h1]
      refine Ev.yes rfl ?_
      refine Ev.cond (fun h2 => ?_) (fun h2 => ?_)
      · have e : wrap64 ((j : Int) - 1) = ((j - 1 : Nat) : Int) := by rw [w64_of (by omega) (by omega)]; omega
        rw [e, rdS_nat l (show j - 1 < l.length by omega)]
        refine Ev.yes (by omega) (Ev.yes (by omega) (Ev.bind (ev_cmp _ _) ?_))
        refine Ev.cond (fun h3 => ?_) (fun h3 => ?_)
        · refine (Ev.some _).eq (r60_no fun k => ?_).symm
          have := k.2.1 j (Nat.le_refl _) (by omega) hj
          omega
        · exact ih.eq (r60_eq (hsp ⟨h1, fun _ => by omega⟩))
      · exact ih.eq (r60_eq (hsp ⟨h1, fun h0 => by omega⟩))
    · rw [if_neg h1]
      refine Ev.no (by decide) ((Ev.some _).eq (r60_no fun k => h1 ?_).symm)
      exact k.1 _ (by rw [List.drop_eq_getElem_cons hj]; exact List.mem_cons_self ..)
theorem ev_d1 (d : List S39) (hk : ∀ x ∈ d, x.f1.length ≤ 9223372036854775807) (hd : d.length ≤ 9223372036854775807) : ∀ (m i : Nat) (last : Int), i + m = d.length → (i = 0 ∧ last = -1 ∨ 0 < i ∧ 0 ≤ last ∧ ∃ y, d[i - 1]? = some y ∧ y.f0 = last) → Ev (fun k => deps_Check.l1 k last d (d.length : Int) (i : Int)) (r60 (tailOk d i))
  | 0, i, last, h, _ => by
    refine Ev.succ ?_
    simp only [deps_Check.l1]
    exact Ev.no (by omega) ((Ev.some _).eq (r60_yes (fun j h1 h2 => by omega)).symm)
  | m + 1, i, last, h, hla => by
    have hi : i < d.length := by omega
    have hg : d[i]? = some d[i] := List.getElem?_eq_getElem hi
    have hx : ∀ x, d[i]? = some x → x = d[i] := fun x e => by rw [hg] at e; exact (Option.some.inj e).symm
    have hbad : ¬ okAt d i → Ev (fun k => deps_Check.j3 k d (d.length : Int) (i : Int) true d[i].f0 d[i].f1) (r60 (tailOk d i)) := fun hb => by
      refine Ev.succ ?_
      simp only [deps_Check.j3]
      exact Ev.yes trivial ((Ev.some _).eq (r60_no (fun k => hb ((tailOk_step hi).1 k).1)).symm)
    refine Ev.succ ?_
    simp only [deps_Check.l1]
    rw [rdD_nat d hi]
    refine Ev.yes (by omega) (Ev.yes (by omega) (Ev.yes (by omega) ?_))
    refine Ev.cond (fun h1 => hbad ?_) (fun h1 => ?_)
    · rintro ⟨x, e, k0, _, k, _⟩
      rw [hx x e] at k0 k
      rcases hla with ⟨_, rfl⟩ | ⟨h0, _, y, hy, rfl⟩
      · omega
      · have := k y h0 hy; omega
    by_cases h2 : d[i].f0 ≥ 8
    · rw [decide_eq_true h2]
      refine hbad ?_
      rintro ⟨x, e, _, k, _⟩
      rw [hx x e] at k
      omega
    · rw [decide_eq_false h2]
      refine Ev.succ ?_
      simp only [deps_Check.j3]
      have hp : 0 ≤ d[i].f0 := by rcases hla with ⟨_, rfl⟩ | ⟨h0, h3, _⟩ <;> omega
      have hn := ev_d1 d hk hd m (i + 1) d[i].f0 (by omega) (.inr ⟨by omega, hp, d[i], by simp [hg], rfl⟩)
      rw [← w64_succ (n := i) (by omega)] at hn
      have h2' := ev_d2 d d[i].f0 d[i].f1 (hk _ (List.getElem_mem hi)) (d.length : Int) (i : Int) _ hn d[i].f1.length 0 (by omega)
      refine Ev.no (by decide) (h2'.eq (r60_eq ?_))
      rw [tailOk_step hi, ← asc_adj, List.drop_zero]
      constructor
      · rintro ⟨k1, k2, k3⟩
        refine ⟨⟨_, hg, hp, by omega, fun y h0 hy => ?_, k2, k1⟩, k3⟩
        rcases hla with ⟨h3, _⟩ | ⟨_, _, z, hz, rfl⟩
        · omega
        · rw [hz] at hy; injection hy with hy; rw [← hy]; omega
      · rintro ⟨⟨x, e, _, _, _, k2, k1⟩, k3⟩
        rw [hx x e] at k1 k2
        exact ⟨k1, k2, k3⟩
theorem ev_dsum (d : List S39) (hd : d.length ≤ 9223372036854775807) (r : Int) (hr : Ev (fun k => if (d.length : Int) > 8 then (deps_Check.j1 k d true) else (deps_Check.j1 k d (decide (wsum d > 512)))) r) : ∀ (m i : Nat), i + m = d.length → Ev (fun k => deps_Check.l0 k d (wsum (d.take i)) d (d.length : Int) (i : Int)) r
  | 0, i, h => by
    refine Ev.succ ?_
    simp only [deps_Check.l0]
    rw [List.take_of_length_le (show d.length ≤ i by omega)]
    exact Ev.no (by omega) hr
  | m + 1, i, h => by
    have hi : i < d.length := by omega
    refine Ev.succ ?_
    simp only [deps_Check.l0]
    refine Ev.yes (by omega) (Ev.yes (by omega) (Ev.yes (by omega) ?_))
    rw [rdD_nat d hi, w64_succ (by omega), ← foldl_take hi]
    exact ev_dsum d hd r hr m (i + 1) (by omega)
theorem ev_dcheck (d : List S39) (hk : ∀ x ∈ d, x.f1.length ≤ 9223372036854775807) (hd : d.length ≤ 9223372036854775807) : Ev (fun k => deps_Check.f k d) (chkD d) := by
  unfold deps_Check.f
  have hbig : (8 < d.length ∨ 512 < wsum d) → Ev (fun k => deps_Check.j1 k d true) (chkD d) := fun h => by
    refine Ev.succ ?_
    simp only [deps_Check.j1]
    exact Ev.yes trivial ((Ev.some _).eq (by unfold chkD; rw [if_pos h]))
  refine ev_dsum d hd _ ?_ d.length 0 (by omega)
  refine Ev.cond (fun h => hbig (.inl (by omega))) (fun h => ?_)
  by_cases h5 : wsum d > 512
  · rw [decide_eq_true h5]; exact hbig (.inr h5)
  · rw [decide_eq_false h5]
    refine Ev.succ ?_
    simp only [deps_Check.j1]
    refine Ev.no (by decide) ((ev_d1 d hk hd d.length 0 (-1) (by omega) (.inl ⟨rfl, rfl⟩)).eq ?_)
    unfold chkD
    rw [if_neg (by omega)]
def inI (x : Int) : Prop := -9223372036854775808 ≤ x ∧ x ≤ 9223372036854775807
theorem numOf_laid (x : Int) (r : List Int) : numOf (laidI x ++ r) 8 = u64 x := by
  unfold numOf
  rw [List.take_append_of_le_length (by rw [laidI_len]; omega), List.take_of_length_le (by rw [laidI_len]; omega)]
  unfold laidI
  rw [leNum_leBytes]
  have := u64_lt x
  exact Nat.mod_eq_of_lt (by omega)
theorem drop_laid (x : Int) (r : List Int) : (laidI x ++ r).drop 8 = r := by
  rw [List.drop_append_of_le_length (by rw [laidI_len]; omega), List.drop_eq_nil_of_le (by rw [laidI_len]; omega), List.nil_append]
theorem sInt_laid {x : Int} (hx : inI x) (r : List Int) : sInt (laidI x ++ r, false) = (x, (r, false)) := by
  rw [sInt_ok (by rw [List.length_append, laidI_len]; omega), numOf_laid, drop_laid, i64_u64 hx.1 hx.2]
def inS (s : S33) : Prop := inI s.f0 ∧ inI s.f1
theorem readS_laid {s : S33} (h : inS s) (r : List Int) : readS (laidS s ++ r) = s := by
  unfold readS laidS
  rw [List.append_assoc, numOf_laid, drop_laid, numOf_laid, i64_u64 h.1.1 h.1.2, i64_u64 h.2.1 h.2.2]
theorem laidSs_cons (s : S33) (l : List S33) : laidSs (s :: l) = laidS s ++ laidSs l := by unfold laidSs; simp
theorem readSs_laid : ∀ (l : List S33) (r : List Int), (∀ s ∈ l, inS s) → readSs l.length (laidSs l ++ r) = l
  | [], r, _ => rfl
  | s :: l, r, h => by
    have ih := readSs_laid l r (fun x hx => h x (List.mem_cons_of_mem _ hx))
    unfold readSs at ih ⊢
    rw [List.length_cons, List.range_succ_eq_map, List.map_cons, List.map_map]
    refine List.cons_eq_cons.2 ⟨?_, ?_⟩
    · rw [Nat.mul_zero, List.drop_zero, laidSs_cons, List.append_assoc, readS_laid (h s (List.mem_cons_self ..))]
    · conv => rhs; rw [← ih]
      refine List.map_congr_left fun k _ => ?_
      simp only [Function.comp]
      rw [laidSs_cons, List.append_assoc, show 16 * (k + 1) = 16 + 16 * k by omega, ← List.drop_drop, List.drop_append_of_le_length (by rw [laidS_len]; omega), (show (laidS s).drop 16 = [] from List.drop_eq_nil_of_le (by rw [laidS_len]; omega)), List.nil_append]
theorem sStamps_laid (l : List S33) (r : List Int) (hl : l.length ≤ 9223372036854775807) (h : ∀ s ∈ l, inS s) : sStamps (laidStamps l ++ r, false) = (l, (r, false)) := by
  have hn : i64 (numOf (laidI (l.length : Int) ++ (laidSs l ++ r)) 8) = (l.length : Int) := by
    rw [numOf_laid, i64_u64 (by omega) (by omega)]
  unfold sStamps laidStamps
  rw [List.append_assoc]
  simp only [hn, Int.toNat_natCast, drop_laid, readSs_laid l r h]
  rw [if_neg]
  · refine Prod.ext rfl (Prod.ext ?_ rfl)
    show List.drop (8 + 16 * l.length) (laidI (l.length : Int) ++ (laidSs l ++ r)) = r
    rw [← List.drop_drop, drop_laid, List.drop_append_of_le_length (by rw [laidSs_len]; omega), List.drop_eq_nil_of_le (by rw [laidSs_len]; omega), List.nil_append]
  · rintro (k | k)
    · cases k
    · unfold stOk at k
      rw [hn, List.length_append, List.length_append, laidI_len, laidSs_len] at k
      have := of_decide_eq_false k
      omega
structure InD (x : S39) : Prop where
  sh : inI x.f0
  len : x.f1.length ≤ 9223372036854775807
  ids : ∀ s ∈ x.f1, inS s
theorem laidDs_cons (x : S39) (d : List S39) : laidDs (x :: d) = laidD x ++ laidDs d := by unfold laidDs; simp
theorem pLoop_laid : ∀ (d : List S39) (k : Nat) (r : List Int), d.length < k → (∀ x ∈ d, InD x) → pLoop k (d.length : Int) (laidDs d ++ r, false) = (d, (r, false))
  | [], k + 1, r, _, _ => by unfold pLoop laidDs; rw [if_neg (by simp)]; rfl
  | x :: d, 0, r, h, _ => by simp at h
  | x :: d, k + 1, r, h, hd => by
    have hx := hd x (List.mem_cons_self ..)
    have ih := pLoop_laid d k r (by simp at h; omega) (fun y hy => hd y (List.mem_cons_of_mem _ hy))
    have e1 : sInt (laidDs (x :: d) ++ r, false) = (x.f0, (laidStamps x.f1 ++ (laidDs d ++ r), false)) := by
      rw [laidDs_cons]; unfold laidD; rw [List.append_assoc, List.append_assoc]; exact sInt_laid hx.sh _
    have e2 := sStamps_laid x.f1 (laidDs d ++ r) hx.len hx.ids
    unfold pLoop
    rw [if_pos (by simp), e1, e2]
    simp only
    rw [show ((x :: d).length : Int) - 1 = (d.length : Int) by simp, ih]
theorem pAll_laid (d : List S39) (r : List Int) (h8 : d.length ≤ 8) (hd : ∀ x ∈ d, InD x) : pAll (laidDeps d ++ r) = (d, (r, false)) := by
  unfold pAll laidDeps
  rw [List.append_assoc, sInt_laid ⟨by omega, by omega⟩]
  exact pLoop_laid d 9 r (by omega) hd
theorem Good.inD {d : List S39} {n : Nat} (h : Good d n) (hn : n ≤ 1000000) : ∀ x ∈ d, InD x := fun x hx => by
  have h1 := h.low x hx
  have h2 := Nat.le_trans (len_allD hx) h.all
  exact ⟨⟨by omega, by omega⟩, by omega, fun s hs => by
    have := of_decide_eq_true (h.is x hx s hs)
    exact ⟨⟨by omega, by omega⟩, ⟨by omega, by omega⟩⟩⟩
end Go.Proofs.Ytaedlmeaconflaa.P
end
section
set_option linter.unusedVariables false
set_option linter.unusedSimpArgs false
namespace Go.Proofs.Ytaedlmeaconflaa.P
open Go.RowKit Go.Sort Go.Shelf Go.Proofs.YtaedlmeaconflaaW.PrintWords Go.Proofs.YtaedlmeaconflaaW.PrintLast Go.Proofs.YtaedlmeaconflaaW.PrintMore
def chkB (d : List S39) : Bool := decide (d.length ≤ 8 ∧ wsum d ≤ 512 ∧ (d.Pairwise fun x y => x.f0 < y.f0) ∧ ∀ x ∈ d, 0 ≤ x.f0 ∧ x.f0 < 8 ∧ Asc x.f1 ∧ ∀ s ∈ x.f1, isS s = true)
theorem chkB_iff (d : List S39) : chkB d = true ↔ chkD d = 0 := by
  unfold chkB
  rw [decide_eq_true_eq]
  constructor
  · rintro ⟨h1, h2, h3, h4⟩
    unfold chkD
    rw [if_neg (by omega)]
    refine r60_yes fun j _ hj => ?_
    obtain ⟨k1, k2, k3, k4⟩ := h4 d[j] (List.getElem_mem hj)
    refine ⟨d[j], List.getElem?_eq_getElem hj, k1, k2, fun y h0 hy => ?_, k3, k4⟩
    rw [List.getElem?_eq_getElem (show j - 1 < d.length by omega)] at hy
    rw [← Option.some.inj hy]
    exact List.pairwise_iff_getElem.1 h3 (j - 1) j (by omega) hj (by omega)
  · intro h
    obtain ⟨hg, hw⟩ := good_of h
    unfold chkD at h
    split at h
    · cases h
    · exact ⟨hg.len, by omega, hg.shards, fun x hx => ⟨(hg.low x hx).1, (hg.low x hx).2, hg.asc x hx, hg.is x hx⟩⟩
def parseOk (b : List Int) : Bool := okDone (pAll b).2 && chkB (pAll b).1 && decide (laidDeps (pAll b).1 = b)
theorem parseOk_iff (b : List Int) : parseOk b = true ↔ okDone (pAll b).2 = true ∧ chkD (pAll b).1 = 0 ∧ laidDeps (pAll b).1 = b := by
  unfold parseOk
  rw [Bool.and_eq_true, Bool.and_eq_true, chkB_iff, decide_eq_true_eq, and_assoc]
instance (b : List Int) : Decidable (bytesOk b) := inferInstanceAs (Decidable (∀ x ∈ b, 0 ≤ x ∧ x < 256))
def deps_Parse.f (b : List Int) : Option (List S39 × Int) := if bytesOk b ∧ b.length ≤ 100000000 then some (if parseOk b = true then ((pAll b).1, 0) else ([], 60)) else none
theorem sStamps_len (s : Sight) : 16 * (sStamps s).1.length ≤ s.1.length := by
  unfold sStamps
  split
  · simp
  · rename_i h
    rw [readSs_len]
    have : stOk s.1 = true := by
      cases hs : stOk s.1 with
      | true => rfl
      | false => exact absurd (.inr hs) h
    unfold stOk at this
    have := of_decide_eq_true this
    omega
theorem pLoop_small : ∀ (k : Nat) (n : Int) (s : Sight) (m : Nat), s.1.length ≤ m → ∀ x ∈ (pLoop k n s).1, 16 * x.f1.length ≤ m
  | 0, n, s, m, _ => by simp [pLoop]
  | k + 1, n, s, m, h => by
    unfold pLoop
    split
    · intro x hx
      have h1 := sInt_le s
      have h2 := sStamps_le (sInt s).2
      rcases List.mem_cons.1 hx with rfl | hx
      · have := sStamps_len (sInt s).2
        simp only; omega
      · exact pLoop_small k (n - 1) (sStamps (sInt s).2).2 m (by omega) x hx
    · simp
theorem laidDs_le : ∀ (d : List S39) (m : Nat), (∀ x ∈ d, 16 * x.f1.length ≤ m) → (laidDs d).length ≤ d.length * (16 + m)
  | [], m, _ => by simp [laidDs]
  | x :: d, m, h => by
    have := laidDs_le d m (fun y hy => h y (List.mem_cons_of_mem _ hy))
    have := h x (List.mem_cons_self ..)
    have e : (d.length + 1) * (16 + m) = d.length * (16 + m) + (16 + m) := Nat.succ_mul _ _
    rw [laidDs_cons, List.length_append, laidD_len, List.length_cons, e]
    omega
theorem deps_Parse.calls (A0 : Option Addr) (c0 : Nat) (l0 : List Int) (r0 : List S39) (r1 : Int) (w : World) (hr0 : Kd.C (Kd.int .u8) w A0 l0.length l0) (hc0 : l0.length ≤ c0) (h : deps_Parse.f l0 = some (r0, r1)) :
    Calls Try.prog 5 #[.slice A0 l0.length c0] w fun e w' => ∃ v0_ : Value, e = .returned (.tuple #[v0_, .int .i64 r1]) ∧ Kd.S k39 39 w' w.heap.size (fun _ => True) v0_ r0 ∧ Below w.heap.size w w' := by
  unfold deps_Parse.f at h
  split at h
  · rename_i hc
    have hs := pLoop_small 9 (sInt (l0, false)).1 (sInt (l0, false)).2 100000000 (Nat.le_trans (sInt_le (l0, false)) hc.2)
    have hl : (pAll l0).1.length ≤ 9 := pLoop_bytes 9 _ _ (sInt_bytes (s := (l0, false)) hc.1)
    have h9 : (laidDs (pAll l0).1).length ≤ 1099511627776 := by
      have h1 := laidDs_le (pAll l0).1 100000000 hs
      have : (pAll l0).1.length * (16 + 100000000) ≤ 9 * (16 + 100000000) := Nat.mul_le_mul_right _ hl
      omega
    obtain ⟨k, hk⟩ := (ev_dcheck (pAll l0).1 (fun x hx => by have := hs x hx; omega) (by omega)).get
    have hp := parse_any A0 c0 l0 w hr0 hc0 hc.1 (by omega) k _ hk h9
    have hi := parseOk_iff l0
    by_cases ho : parseOk l0 = true
    · rw [if_pos (hi.1 ho), if_pos (hi.1 ho)] at hp
      rw [if_pos ho] at h
      obtain ⟨rfl, rfl⟩ := Prod.mk.inj (Option.some.inj h)
      exact hp
    · rw [if_neg (fun k => ho (hi.2 k)), if_neg (fun k => ho (hi.2 k))] at hp
      rw [if_neg ho] at h
      obtain ⟨rfl, rfl⟩ := Prod.mk.inj (Option.some.inj h)
      exact hp
  · cases h
theorem parse_once {b c : List Int} (hb : parseOk b = true) (hc : parseOk (b ++ c) = true) : c = [] := by
  rw [parseOk_iff] at hb hc
  obtain ⟨hg, _⟩ := good_of hb.2.1
  have h1 := pAll_laid (pAll b).1 c hg.len (hg.inD (by omega))
  rw [hb.2.2] at h1
  rw [h1] at hc
  have := of_decide_eq_true hc.1
  rcases c with _ | ⟨x, c⟩
  · rfl
  · exact absurd (.inr (by simp)) this
end Go.Proofs.Ytaedlmeaconflaa.P
end
section
set_option linter.unusedVariables false
set_option linter.unusedSimpArgs false
namespace Go.Proofs.Ytaedlmeaconflaa.P
open Go.RowKit Go.Proofs.YtaedlmeaconflaaW.PrintWords Go.Proofs.YtaedlmeaconflaaW.PrintLast Go.Proofs.YtaedlmeaconflaaW.PrintMore
attribute [local go_sem] max2_int min2_int max_two min_two max_three min_three max_four min_four   -- for this text's walks alone
set_option linter.unusedVariables false
set_option linter.unusedSimpArgs false
mutual
def folkmootlaw06_DepsOnce.j0 : Nat → List Int → Int → Int → Bool → Option (Bool)
 | 0, _, _, _, _ => none
 | k + 1, x0, x1, x2, x42 => if x42 = true then (some false) else ((some (([] : List Int) : List Int)).bind fun y156 => (if y156.length + x0.length < 140737488355328 then ((some (y156 ++ x0 : List Int)).bind fun y159 => (if y159.length < 140737488355328 then ((deps_Parse.f (y159 ++ [x2])).bind fun bt165 => ((folkmootlaw06_num.f bt165.2).bind fun t169 => (if t169 = 60 then (if x1 ≥ 0 then (folkmootlaw06_DepsOnce.j1 k x0 x1 (decide (x1 < (x0.length : Int)))) else (folkmootlaw06_DepsOnce.j1 k x0 x1 false)) else (some false)))) else (none))) else (none)))
def folkmootlaw06_DepsOnce.j1 : Nat → List Int → Int → Bool → Option (Bool)
 | 0, _, _, _ => none
 | k + 1, x0, x1, x63 => if x63 = true then (if 0 ≤ x1 then (if x1 ≤ (x0.length : Int) then ((deps_Parse.f (x0.take (x1 : Int).toNat)).bind fun bt171 => ((folkmootlaw06_num.f bt171.2).bind fun t175 => (if t175 = 60 then ((folkmootlaw06_live.f).bind fun t176 => (some t176)) else (some false)))) else (none)) else (none)) else ((folkmootlaw06_live.f).bind fun t177 => (some t177))
end
def folkmootlaw06_DepsOnce.f (k : Nat) (l0 : List Int) (a1 : Int) (a2 : Int) : Option (Bool) := if (l0.length : Int) > 20000 then ((folkmootlaw06_live.f).bind fun t144 => (some t144)) else ((deps_Parse.f l0).bind fun bt145 => ((folkmootlaw06_num.f bt145.2).bind fun t149 => (if t149 = 0 then ((deps_Put.f bt145.1).bind fun t151 => (if (strOfNums t151).toList = (strOfNums l0).toList then ((deps_Check.f k bt145.1).bind fun t154 => ((folkmootlaw06_num.f t154).bind fun t155 => (folkmootlaw06_DepsOnce.j0 k l0 a1 a2 (t155 != 0)))) else (folkmootlaw06_DepsOnce.j0 k l0 a1 a2 true))) else (if (bt145.1.length : Int) = 0 then ((folkmootlaw06_live.f).bind fun t150 => (some t150)) else (some false)))))
def folkmootlaw06_DepsOnce.T6 : Bool × List (List Nat × List Nat) := (true, [([], []), ([0], [0]), ([1], [1]), ([], []), ([3], [3]), ([2, 4], [2, 4]), ([5, 1], [5]), ([6], [6]), ([7, 6, 6], [6, 7]), ([8, 8, 6], [6, 8]), ([9, 6], [6, 9]), ([6, 10], [6, 10])])
def folkmootlaw06_DepsOnce.B6 : List Nat := [0, 1, 3, 0, 8, 31, 63, 127, 255, 511, 1023, 2047]
theorem folkmootlaw06_DepsOnce.tab6 : rtab .any (opsOf Try.f3 6) = folkmootlaw06_DepsOnce.T6 := by kernel_rfl
theorem folkmootlaw06_DepsOnce.bits6 : waitsOk folkmootlaw06_DepsOnce.T6.2 folkmootlaw06_DepsOnce.B6 = true := by kernel_rfl
set_option maxHeartbeats 8000000 in
set_option maxRecDepth 100000 in
theorem folkmootlaw06_DepsOnce.calls (k : Nat) (A0 : Option Addr) (c0 : Nat) (l0 : List Int) (a1 : Int) (a2 : Int) (r : Bool) (w : World) (hr0 : Kd.C (Kd.int .u8) w A0 l0.length l0) (hc0 : l0.length ≤ c0) (h : folkmootlaw06_DepsOnce.f k l0 a1 a2 = some r) :
  Calls Try.prog 3 #[.slice A0 l0.length c0, .int .i64 a1, .int .u8 a2] w fun e w' => e = .returned (.bool r) ∧ Below w.heap.size w w' := by
 have HR0 := Aside0.mk hr0
 have HC0 := Aside0.mk hc0
 clear hr0 hc0
 have HB := Aside0.mk (Below.refl w.heap.size w)
 have H : (if (l0.length : Int) > 20000 then ((folkmootlaw06_live.f).bind fun t144 => (some t144)) else ((deps_Parse.f l0).bind fun bt145 => ((folkmootlaw06_num.f bt145.2).bind fun t149 => (if t149 = 0 then ((deps_Put.f bt145.1).bind fun t151 => (if (strOfNums t151).toList = (strOfNums l0).toList then ((deps_Check.f k bt145.1).bind fun t154 => ((folkmootlaw06_num.f t154).bind fun t155 => (folkmootlaw06_DepsOnce.j0 k l0 a1 a2 (t155 != 0)))) else (folkmootlaw06_DepsOnce.j0 k l0 a1 a2 true))) else (if (bt145.1.length : Int) = 0 then ((folkmootlaw06_live.f).bind fun t150 => (some t150)) else (some false)))))) = some r := h
 clear h
 by_cases c4 : (l0.length : Int) > 20000
 ·rw [if_pos c4] at H
  have c4b0 : decide (20000 < (l0.length : Int)) = true := decide_eq_true c4
  have c4b1 : decide (20000 < l0.length) = true := decide_eq_true (by omega)
  clear c4
  replace H := Option.bind_eq_some_iff.mp H
  obtain ⟨t144, A50, H⟩ := H
  replace H : (some t144) = some r := H
  have A5 := Aside0.mk A50
  clear A50
  obtain rfl := Option.some.inj H
  go_enter Try.func3, Try.ntmps3
  go_wp2_with (first | ((with_reducible refine gate_callee (f := 4) rfl ?_); refine goesL_ (some 16) rfl rfl Try.func4 (by kernel_rfl) rfl #[] rfl (by (try simp only [List.map_toArray, List.map_cons, List.map_nil]); first | done | rfl | (simp only [List.length_drop, List.length_take]; rfl)) ?_; (with_reducible refine (folkmootlaw06_live.calls  t144 _ A5.out).mono ?_); rintro e w6 ⟨rfl, hb⟩; refine ⟨_, rfl, ?_⟩; have n0_ := Aside0.mk (below_step (by repeat (first | (with_reducible first | exact HB.out | apply below_alloc | apply pw_below_drewN | apply below_drew1) | exact HB.out)) hb); clear HB; have HB := n0_; clear n0_; (try clear hb); (try clear hb2); (try clear hk); (try clear hi)))
  go_ret
  exact ⟨by first | rfl | (simp [errW_none, errW_some] <;> rfl) | (simp [*, errW_none, errW_some] <;> rfl), by repeat (first | (with_reducible first | exact HB.out | apply below_alloc | apply pw_below_drewN | apply below_drew1) | exact HB.out)⟩
 ·rw [if_neg c4] at H
  have c4b0 : decide (20000 < (l0.length : Int)) = false := decide_eq_false c4
  have c4b1 : decide (20000 < l0.length) = false := decide_eq_false (by omega)
  clear c4
  replace H := Option.bind_eq_some_iff.mp H
  obtain ⟨⟨t145, t146⟩, A70, H⟩ := H
  replace H : ((folkmootlaw06_num.f t146).bind fun t149 => (if t149 = 0 then ((deps_Put.f t145).bind fun t151 => (if (strOfNums t151).toList = (strOfNums l0).toList then ((deps_Check.f k t145).bind fun t154 => ((folkmootlaw06_num.f t154).bind fun t155 => (folkmootlaw06_DepsOnce.j0 k l0 a1 a2 (t155 != 0)))) else (folkmootlaw06_DepsOnce.j0 k l0 a1 a2 true))) else (if (t145.length : Int) = 0 then ((folkmootlaw06_live.f).bind fun t150 => (some t150)) else (some false)))) = some r := H
  have A7 := Aside0.mk A70
  clear A70
  replace H := Option.bind_eq_some_iff.mp H
  obtain ⟨t149, A80, H⟩ := H
  replace H : (if t149 = 0 then ((deps_Put.f t145).bind fun t151 => (if (strOfNums t151).toList = (strOfNums l0).toList then ((deps_Check.f k t145).bind fun t154 => ((folkmootlaw06_num.f t154).bind fun t155 => (folkmootlaw06_DepsOnce.j0 k l0 a1 a2 (t155 != 0)))) else (folkmootlaw06_DepsOnce.j0 k l0 a1 a2 true))) else (if (t145.length : Int) = 0 then ((folkmootlaw06_live.f).bind fun t150 => (some t150)) else (some false))) = some r := H
  have A8 := Aside0.mk A80
  clear A80
  by_cases c9 : t149 = 0
  ·rw [if_pos c9] at H
   have c9b0 : (t149 == 0) = true := beq_iff_eq.mpr c9
   have c9b1 : (t149 != 0) = false := bne_eq_false_iff_eq.mpr c9
   clear c9
   have HC10 := Aside0.mk H
   clear H
   go_enter Try.func3, Try.ntmps3
   go_upto_region 6 with (first | ((with_reducible refine gate_callee (f := 5) rfl ?_); refine goesL_ (some 19) rfl rfl Try.func5 (by kernel_rfl) rfl #[.slice A0 l0.length c0] rfl (by (try simp only [List.map_toArray, List.map_cons, List.map_nil]); first | done | rfl | (simp only [List.length_drop, List.length_take]; rfl)) ?_; (with_reducible refine (deps_Parse.calls _ _ l0 t145 t146 _ ?side1 ?side2 A7.out).mono ?_); (case side1 => repeat (first | exact HR0.out | (with_reducible refine Kd.C_alloc ?_ _) | (with_reducible refine Kd.C_drewN ?_ _) | (with_reducible refine Kd.C_drew ?_))); (case side2 => exact HC0.out); rintro e w11 ⟨v147, rfl, ho0, hb⟩; refine ⟨_, rfl, ?_⟩; have n0_ := Aside0.mk (Kd.S_lower ho0 (below_size (by repeat (first | (with_reducible first | exact HB.out | apply below_alloc | apply pw_below_drewN | apply below_drew1) | exact HB.out)))); have n1_ := Aside0.mk (below_step (by repeat (first | (with_reducible first | exact HB.out | apply below_alloc | apply pw_below_drewN | apply below_drew1) | exact HB.out)) hb); clear HB; have HO148 := n0_; have HB := n1_; clear n0_ n1_; (try clear hb); (try clear hb2); (try clear hk); (try clear hi); (try clear ho0)) | ((with_reducible refine gate_callee (f := 6) rfl ?_); refine goesL_ (some 23) rfl rfl Try.func6 (by kernel_rfl) rfl #[.int .i64 t146] rfl (by (try simp only [List.map_toArray, List.map_cons, List.map_nil]); first | done | rfl | (simp only [List.length_drop, List.length_take]; rfl)) ?_; (with_reducible refine (folkmootlaw06_num.calls t146 t149 _ A8.out).mono ?_); rintro e w' ⟨rfl, ⟨nd, rfl⟩⟩; refine ⟨_, rfl, ?_⟩))
   (try simp only [Act.put, List.setIfInBounds_toArray, List.set_cons_zero, List.set_cons_succ])
   go_cut [42] (fun v42 wc => ∃ (kq : Nat) (x42_9 : Bool), v42 = .bool x42_9 ∧ Aside0 (folkmootlaw06_DepsOnce.j0 kq l0 a1 a2 x42_9 = some r) ∧ Aside0 (kq ≤ k) ∧ Aside0 (Below w.heap.size w wc))
   case first =>
    have H := HC10.out
    clear HC10
    replace H := Option.bind_eq_some_iff.mp H
    obtain ⟨t151, A120, H⟩ := H
    replace H : (if (strOfNums t151).toList = (strOfNums l0).toList then ((deps_Check.f k t145).bind fun t154 => ((folkmootlaw06_num.f t154).bind fun t155 => (folkmootlaw06_DepsOnce.j0 k l0 a1 a2 (t155 != 0)))) else (folkmootlaw06_DepsOnce.j0 k l0 a1 a2 true)) = some r := H
    have A12 := Aside0.mk A120
    clear A120
    by_cases c13 : (strOfNums t151).toList = (strOfNums l0).toList
    ·rw [if_pos c13] at H
     have c13b0 : ((strOfNums t151).toList == (strOfNums l0).toList) = true := beq_iff_eq.mpr c13
     have c13b1 : ((strOfNums t151).toList != (strOfNums l0).toList) = false := bne_eq_false_iff_eq.mpr c13
     clear c13
     (first | rw [c13b0] | (simp only [i64_w, i32_w]; rw [c13b0]) | skip)
     replace H := Option.bind_eq_some_iff.mp H
     obtain ⟨t154, A140, H⟩ := H
     replace H : ((folkmootlaw06_num.f t154).bind fun t155 => (folkmootlaw06_DepsOnce.j0 k l0 a1 a2 (t155 != 0))) = some r := H
     have A14 := Aside0.mk A140
     clear A140
     replace H := Option.bind_eq_some_iff.mp H
     obtain ⟨t155, A150, H⟩ := H
     replace H : (folkmootlaw06_DepsOnce.j0 k l0 a1 a2 (t155 != 0)) = some r := H
     have A15 := Aside0.mk A150
     clear A150
     have H' := Aside0.mk H
     clear H
     obtain ⟨Ao16, co16, eo16⟩ := Kd.S_slice HO148.out
     subst eo16
     try go_wp2
     have n0_ := Aside0.mk (Kd.S_drew (Kd.S_drewN HO148.out nd))
     have n1_ := Aside0.mk (below_drew1 (pw_below_drewN HB.out nd))
     clear HO148
     clear HB
     have HO148 := n0_
     have HB := n1_
     clear n0_ n1_
     refine start_ (n := 12) (S := (fun w' => Kd.C (Kd.int .u8) w' A0 l0.length l0)) (ds := []) #[false,false,false,false,false,false,false,false,false,false,false,false] (by kernel_rfl) rfl rfl (by first | exact Kd.C_below HR0.out HB.out | exact Kd.C_drew (Kd.C_below HR0.out HB.out)) (fun hHeld => ?_); refine with_tabW folkmootlaw06_DepsOnce.tab6 folkmootlaw06_DepsOnce.bits6 (fun HT_ HW_ => ?_)
     generalize (w11.drewN nd).drew = w17 at HO148 HB hHeld ⊢
     refine pure_ (i := 0) (N := some 31) (v := ?_) (a' := ?_) #[true,false,false,false,false,false,false,false,false,false,false,false] rfl rfl (any_of HT_.out (by kernel_rfl)) (fun _ _ _ h => h) (Or.inl ⟨by rfl, ?_⟩) ?_ ?_
     rotate_left
     ·intro w'
      go_simp
      with_reducible rfl
     rotate_left
     ·simp only [Act.put, List.setIfInBounds_toArray, List.set_cons_zero, List.set_cons_succ, i64_w, i32_w]
      rfl
     refine pure_ (i := 3) (N := some 34) (v := ?_) (a' := ?_) #[true,false,false,true,false,false,false,false,false,false,false,false] rfl rfl (any_of HT_.out (by kernel_rfl)) (fun _ _ _ h => h) (Or.inl ⟨by rfl, ?_⟩) ?_ ?_
     rotate_left
     ·intro w'
      go_simp
      with_reducible rfl
     rotate_left
     ·simp only [Act.put, List.setIfInBounds_toArray, List.set_cons_zero, List.set_cons_succ, i64_w, i32_w]
      rfl
     refine take_ (i := 4) (N := some 35) (v := ?_) (a' := ?_) #[true,false,false,true,true,false,false,false,false,false,false,false] rfl rfl (take_ofW HT_.out HW_.out (by kernel_rfl)) (fun _ _ _ h => h) (Or.inl ⟨by rfl, ?_⟩) hHeld ?_ ?_
     rotate_left
     ·intro w' hSw
      have hcvS := Kd.C_string (P := Try.prog) (A := A0) (c := c0) Try.underlying22 Try.underlying5 Try.underlying9 hSw
      go_simp
      with_reducible rfl
     rotate_left
     ·simp only [Act.put, List.setIfInBounds_toArray, List.set_cons_zero, List.set_cons_succ, i64_w, i32_w]
      rfl
     refine one_ (i := 1) (N := some 32) #[true,true,false,true,true,false,false,false,false,false,false,false] rfl rfl (one_of HT_.out (by kernel_rfl)) (by decide) (fun K hK => ?_)
     refine goes_ Try.func7 (by kernel_rfl) rfl #[.slice Ao16 t145.length co16] (by rfl) rfl rfl (by (try simp only [List.map_toArray, List.map_cons, List.map_nil]); first | done | rfl | (simp only [List.length_drop, List.length_take]; rfl)) ?_
     with_reducible refine (deps_Put.calls _ _ t145 t151 _ ?side1 ?side2 A12.out).mono ?_
     (case side1 => repeat (first | exact (Kd.S_reads' HO148.out).2.2 | (with_reducible refine Kd.C_alloc ?_ _) | (with_reducible refine Kd.C_drewN ?_ _) | (with_reducible refine Kd.C_drew ?_)))
     (case side2 => exact (Kd.S_reads' HO148.out).2.1)
     rintro e w18 ⟨v152, rfl, ho0, hb⟩
     refine ⟨_, rfl, ?_⟩
     have n0_ := Aside0.mk (Kd.S_below (by (with_reducible repeat (first | apply Kd.S_alloc | apply Kd.S_drewN | apply Kd.S_drew)); exact HO148.out) hb)
     have n1_ := Aside0.mk (Kd.R_lower ho0 (below_size (by repeat (first | (with_reducible first | exact HB.out | apply below_alloc | apply pw_below_drewN | apply below_drew1) | exact HB.out))))
     have n2_ := Aside0.mk (below_step (by repeat (first | (with_reducible first | exact HB.out | apply below_alloc | apply pw_below_drewN | apply below_drew1) | exact HB.out)) hb)
     clear HO148
     clear HB
     have HO148 := n0_
     have HO153 := n1_
     have HB := n2_
     clear n0_ n1_ n2_
     (try clear hb)
     (try clear hb2)
     (try clear hk)
     (try clear hi)
     (try clear ho0)
     have hcv20 := Kd.C_string (P := Try.prog) (A := A0) (c := c0) Try.underlying22 Try.underlying5 Try.underlying9 (Kd.C_below HR0.out HB.out)
     refine hK.out _ _ (by first | exact Kd.C_below HR0.out HB.out | exact Kd.C_drewN (Kd.C_below HR0.out HB.out) nd) (fun hHeld => ?_)
     clear hK K
     refine norm_ (a' := ?_) ?_ ?_
     rotate_left
     ·show Act.put _ (some 32) _ = _
      simp only [Act.put, List.setIfInBounds_toArray, List.set_cons_zero, List.set_cons_succ, i64_w, i32_w]
      rfl
     refine one_ (i := 2) (N := some 33) #[true,true,true,true,true,false,false,false,false,false,false,false] rfl rfl (one_of HT_.out (by kernel_rfl)) (by decide) (fun K hK => ?_)
     have hcv19 := own_string (P := Try.prog) Try.underlying22 Try.underlying5 Try.underlying9 (Kd.own_of_R HO153.out)
     refine value_ (w1 := ?_) (v := ?_) (by rfl) rfl ?_ ?_
     rotate_left 2
     ·go_simp
      constructor
      ·rfl
      ·rfl
     clear hcv19
     refine hK.out _ _ (by first | exact Kd.C_below HR0.out HB.out | exact Kd.C_drewN (Kd.C_below HR0.out HB.out) nd) (fun hHeld => ?_)
     clear hK K
     refine norm_ (a' := ?_) ?_ ?_
     rotate_left
     ·show Act.put _ (some 33) _ = _
      simp only [Act.put, List.setIfInBounds_toArray, List.set_cons_zero, List.set_cons_succ, i64_w, i32_w]
      rfl
     refine pure_ (i := 5) (N := some 36) (v := ?_) (a' := ?_) #[true,true,true,true,true,true,false,false,false,false,false,false] rfl rfl (any_of HT_.out (by kernel_rfl)) (fun _ _ _ h => h) (Or.inl ⟨by rfl, ?_⟩) ?_ ?_
     rotate_left
     ·intro w'
      go_simp
      with_reducible rfl
     rotate_left
     ·simp only [Act.put, List.setIfInBounds_toArray, List.set_cons_zero, List.set_cons_succ, i64_w, i32_w]
      rfl
     refine pure_ (i := 6) (N := some 37) (v := ?_) (a' := ?_) #[true,true,true,true,true,true,true,false,false,false,false,false] rfl rfl (any_of HT_.out (by kernel_rfl)) (fun _ _ _ h => h) (Or.inl ⟨by rfl, ?_⟩) ?_ ?_
     rotate_left
     ·intro w'
      go_simp
      with_reducible rfl
     rotate_left
     ·simp only [Act.put, List.setIfInBounds_toArray, List.set_cons_zero, List.set_cons_succ, i64_w, i32_w]
      rfl
     refine pure_ (i := 7) (N := some 38) (v := ?_) (a' := ?_) #[true,true,true,true,true,true,true,true,false,false,false,false] rfl rfl (any_of HT_.out (by kernel_rfl)) (fun _ _ _ h => h) (Or.inl ⟨by rfl, ?_⟩) ?_ ?_
     rotate_left
     ·intro w'
      go_simp
      with_reducible rfl
     rotate_left
     ·simp only [Act.put, List.setIfInBounds_toArray, List.set_cons_zero, List.set_cons_succ, i64_w, i32_w]
      rfl
     refine one_ (i := 8) (N := some 39) #[true,true,true,true,true,true,true,true,true,false,false,false] rfl rfl (one_of HT_.out (by kernel_rfl)) (by decide) (fun K hK => ?_)
     refine goes_ Try.func8 (by kernel_rfl) rfl #[.slice Ao16 t145.length co16] (by rfl) rfl rfl (by (try simp only [List.map_toArray, List.map_cons, List.map_nil]); first | done | rfl | (simp only [List.length_drop, List.length_take]; rfl)) ?_
     with_reducible refine (deps_Check.calls k _ _ t145 t154 _ ?side1 ?side2 A14.out).mono ?_
     (case side1 => repeat (first | exact (Kd.S_reads' HO148.out).2.2 | (with_reducible refine Kd.C_alloc ?_ _) | (with_reducible refine Kd.C_drewN ?_ _) | (with_reducible refine Kd.C_drew ?_)))
     (case side2 => exact (Kd.S_reads' HO148.out).2.1)
     rintro e w22 ⟨rfl, hb⟩
     refine ⟨_, rfl, ?_⟩
     have n0_ := Aside0.mk (Kd.S_below (by (with_reducible repeat (first | apply Kd.S_alloc | apply Kd.S_drewN | apply Kd.S_drew)); exact HO148.out) hb)
     have n1_ := Aside0.mk (Kd.R_below (by (with_reducible repeat (first | apply Kd.R_alloc | apply Kd.R_drewN | apply Kd.R_drew)); exact HO153.out) hb)
     have n2_ := Aside0.mk (below_step (by repeat (first | (with_reducible first | exact HB.out | apply below_alloc | apply pw_below_drewN | apply below_drew1) | exact HB.out)) hb)
     clear HO148
     clear HO153
     clear HB
     have HO148 := n0_
     have HO153 := n1_
     have HB := n2_
     clear n0_ n1_ n2_
     (try clear hb)
     (try clear hb2)
     (try clear hk)
     (try clear hi)
     refine hK.out _ _ (by first | exact Kd.C_below HR0.out HB.out | exact Kd.C_drewN (Kd.C_below HR0.out HB.out) nd) (fun hHeld => ?_)
     clear hK K
     refine norm_ (a' := ?_) ?_ ?_
     rotate_left
     ·show Act.put _ (some 39) _ = _
      simp only [Act.put, List.setIfInBounds_toArray, List.set_cons_zero, List.set_cons_succ, i64_w, i32_w]
      rfl
     refine one_ (i := 9) (N := some 40) #[true,true,true,true,true,true,true,true,true,true,false,false] rfl rfl (one_of HT_.out (by kernel_rfl)) (by decide) (fun K hK => ?_)
     refine goes_ Try.func6 (by kernel_rfl) rfl #[.int .i64 t154] (by rfl) rfl rfl (by (try simp only [List.map_toArray, List.map_cons, List.map_nil]); first | done | rfl | (simp only [List.length_drop, List.length_take]; rfl)) ?_
     with_reducible refine (folkmootlaw06_num.calls t154 t155 _ A15.out).mono ?_
     rintro e w' ⟨rfl, ⟨nd, rfl⟩⟩
     refine ⟨_, rfl, ?_⟩
     refine hK.out _ _ (by first | exact Kd.C_below HR0.out HB.out | exact Kd.C_drewN (Kd.C_below HR0.out HB.out) nd) (fun hHeld => ?_)
     clear hK K
     refine norm_ (a' := ?_) ?_ ?_
     rotate_left
     ·show Act.put _ (some 40) _ = _
      simp only [Act.put, List.setIfInBounds_toArray, List.set_cons_zero, List.set_cons_succ, i64_w, i32_w]
      rfl
     refine pure_ (i := 10) (N := some 41) (v := ?_) (a' := ?_) #[true,true,true,true,true,true,true,true,true,true,true,false] rfl rfl (any_of HT_.out (by kernel_rfl)) (fun _ _ _ h => h) (Or.inl ⟨by rfl, ?_⟩) ?_ ?_
     rotate_left
     ·intro w'
      go_simp
      with_reducible rfl
     rotate_left
     ·simp only [Act.put, List.setIfInBounds_toArray, List.set_cons_zero, List.set_cons_succ, i64_w, i32_w]
      rfl
     refine pure_ (i := 11) (N := some 42) (v := ?_) (a' := ?_) #[true,true,true,true,true,true,true,true,true,true,true,true] rfl rfl (any_of HT_.out (by kernel_rfl)) (fun _ _ _ h => h) (Or.inl ⟨by rfl, ?_⟩) ?_ ?_
     rotate_left
     ·intro w'
      go_simp
      with_reducible rfl
     rotate_left
     ·simp only [Act.put, List.setIfInBounds_toArray, List.set_cons_zero, List.set_cons_succ, i64_w, i32_w]
      rfl
     refine done_ (done_of HT_.out (by kernel_rfl)) ?_
     try go_wp2
     first
     | (go_meet; case rel => exact ⟨_, ((t155 != 0)), (by first | rfl | (simp; done) | (simp [*]; done)), H', ⟨by first | omega | exact Nat.le_refl _⟩, ⟨by repeat (first | (with_reducible first | exact HB.out | apply below_alloc | apply pw_below_drewN | apply below_drew1) | exact HB.out)⟩⟩)
     | (refine Met.intro ?_; go_step; (repeat apply Exists.intro); refine ⟨?_, ?_⟩; rotate_left; (focus (simp only [c9b0, c13b0]; try rfl)); exact ⟨_, ((t155 != 0)), (by first | rfl | (simp; done) | (simp [*]; done)), H', ⟨by first | omega | exact Nat.le_refl _⟩, ⟨by repeat (first | (with_reducible first | exact HB.out | apply below_alloc | apply pw_below_drewN | apply below_drew1) | exact HB.out)⟩⟩)
    ·rw [if_neg c13] at H
     have c13b0 : ((strOfNums t151).toList == (strOfNums l0).toList) = false := beq_eq_false_iff_ne.mpr c13
     have c13b1 : ((strOfNums t151).toList != (strOfNums l0).toList) = true := bne_iff_ne.mpr c13
     (first | rw [c13b0] | (simp only [i64_w, i32_w]; rw [c13b0]) | skip)
     have H' := Aside0.mk H
     clear H
     obtain ⟨Ao23, co23, eo23⟩ := Kd.S_slice HO148.out
     subst eo23
     try go_wp2
     have n0_ := Aside0.mk (Kd.S_drew (Kd.S_drewN HO148.out nd))
     have n1_ := Aside0.mk (below_drew1 (pw_below_drewN HB.out nd))
     clear HO148
     clear HB
     have HO148 := n0_
     have HB := n1_
     clear n0_ n1_
     refine start_ (n := 12) (S := (fun w' => Kd.C (Kd.int .u8) w' A0 l0.length l0)) (ds := []) #[false,false,false,false,false,false,false,false,false,false,false,false] (by kernel_rfl) rfl rfl (by first | exact Kd.C_below HR0.out HB.out | exact Kd.C_drew (Kd.C_below HR0.out HB.out)) (fun hHeld => ?_); refine with_tabW folkmootlaw06_DepsOnce.tab6 folkmootlaw06_DepsOnce.bits6 (fun HT_ HW_ => ?_)
     generalize (w11.drewN nd).drew = w24 at HO148 HB hHeld ⊢
     refine pure_ (i := 0) (N := some 31) (v := ?_) (a' := ?_) #[true,false,false,false,false,false,false,false,false,false,false,false] rfl rfl (any_of HT_.out (by kernel_rfl)) (fun _ _ _ h => h) (Or.inl ⟨by rfl, ?_⟩) ?_ ?_
     rotate_left
     ·intro w'
      go_simp
      with_reducible rfl
     rotate_left
     ·simp only [Act.put, List.setIfInBounds_toArray, List.set_cons_zero, List.set_cons_succ, i64_w, i32_w]
      rfl
     refine pure_ (i := 3) (N := some 34) (v := ?_) (a' := ?_) #[true,false,false,true,false,false,false,false,false,false,false,false] rfl rfl (any_of HT_.out (by kernel_rfl)) (fun _ _ _ h => h) (Or.inl ⟨by rfl, ?_⟩) ?_ ?_
     rotate_left
     ·intro w'
      go_simp
      with_reducible rfl
     rotate_left
     ·simp only [Act.put, List.setIfInBounds_toArray, List.set_cons_zero, List.set_cons_succ, i64_w, i32_w]
      rfl
     refine take_ (i := 4) (N := some 35) (v := ?_) (a' := ?_) #[true,false,false,true,true,false,false,false,false,false,false,false] rfl rfl (take_ofW HT_.out HW_.out (by kernel_rfl)) (fun _ _ _ h => h) (Or.inl ⟨by rfl, ?_⟩) hHeld ?_ ?_
     rotate_left
     ·intro w' hSw
      have hcvS := Kd.C_string (P := Try.prog) (A := A0) (c := c0) Try.underlying22 Try.underlying5 Try.underlying9 hSw
      go_simp
      with_reducible rfl
     rotate_left
     ·simp only [Act.put, List.setIfInBounds_toArray, List.set_cons_zero, List.set_cons_succ, i64_w, i32_w]
      rfl
     refine one_ (i := 1) (N := some 32) #[true,true,false,true,true,false,false,false,false,false,false,false] rfl rfl (one_of HT_.out (by kernel_rfl)) (by decide) (fun K hK => ?_)
     refine goes_ Try.func7 (by kernel_rfl) rfl #[.slice Ao23 t145.length co23] (by rfl) rfl rfl (by (try simp only [List.map_toArray, List.map_cons, List.map_nil]); first | done | rfl | (simp only [List.length_drop, List.length_take]; rfl)) ?_
     with_reducible refine (deps_Put.calls _ _ t145 t151 _ ?side1 ?side2 A12.out).mono ?_
     (case side1 => repeat (first | exact (Kd.S_reads' HO148.out).2.2 | (with_reducible refine Kd.C_alloc ?_ _) | (with_reducible refine Kd.C_drewN ?_ _) | (with_reducible refine Kd.C_drew ?_)))
     (case side2 => exact (Kd.S_reads' HO148.out).2.1)
     rintro e w25 ⟨v152, rfl, ho0, hb⟩
     refine ⟨_, rfl, ?_⟩
     have n0_ := Aside0.mk (Kd.S_below (by (with_reducible repeat (first | apply Kd.S_alloc | apply Kd.S_drewN | apply Kd.S_drew)); exact HO148.out) hb)
     have n1_ := Aside0.mk (Kd.R_lower ho0 (below_size (by repeat (first | (with_reducible first | exact HB.out | apply below_alloc | apply pw_below_drewN | apply below_drew1) | exact HB.out))))
     have n2_ := Aside0.mk (below_step (by repeat (first | (with_reducible first | exact HB.out | apply below_alloc | apply pw_below_drewN | apply below_drew1) | exact HB.out)) hb)
     clear HO148
     clear HB
     have HO148 := n0_
     have HO153 := n1_
     have HB := n2_
     clear n0_ n1_ n2_
     (try clear hb)
     (try clear hb2)
     (try clear hk)
     (try clear hi)
     (try clear ho0)
     have hcv27 := Kd.C_string (P := Try.prog) (A := A0) (c := c0) Try.underlying22 Try.underlying5 Try.underlying9 (Kd.C_below HR0.out HB.out)
     refine hK.out _ _ (by first | exact Kd.C_below HR0.out HB.out | exact Kd.C_drewN (Kd.C_below HR0.out HB.out) nd) (fun hHeld => ?_)
     clear hK K
     refine norm_ (a' := ?_) ?_ ?_
     rotate_left
     ·show Act.put _ (some 32) _ = _
      simp only [Act.put, List.setIfInBounds_toArray, List.set_cons_zero, List.set_cons_succ, i64_w, i32_w]
      rfl
     refine one_ (i := 2) (N := some 33) #[true,true,true,true,true,false,false,false,false,false,false,false] rfl rfl (one_of HT_.out (by kernel_rfl)) (by decide) (fun K hK => ?_)
     have hcv26 := own_string (P := Try.prog) Try.underlying22 Try.underlying5 Try.underlying9 (Kd.own_of_R HO153.out)
     refine value_ (w1 := ?_) (v := ?_) (by rfl) rfl ?_ ?_
     rotate_left 2
     ·go_simp
      constructor
      ·rfl
      ·rfl
     clear hcv26
     refine hK.out _ _ (by first | exact Kd.C_below HR0.out HB.out | exact Kd.C_drewN (Kd.C_below HR0.out HB.out) nd) (fun hHeld => ?_)
     clear hK K
     refine norm_ (a' := ?_) ?_ ?_
     rotate_left
     ·show Act.put _ (some 33) _ = _
      simp only [Act.put, List.setIfInBounds_toArray, List.set_cons_zero, List.set_cons_succ, i64_w, i32_w]
      rfl
     refine pure_ (i := 5) (N := some 36) (v := ?_) (a' := ?_) #[true,true,true,true,true,true,false,false,false,false,false,false] rfl rfl (any_of HT_.out (by kernel_rfl)) (fun _ _ _ h => h) (Or.inl ⟨by rfl, ?_⟩) ?_ ?_
     rotate_left
     ·intro w'
      go_simp
      with_reducible rfl
     rotate_left
     ·simp only [Act.put, List.setIfInBounds_toArray, List.set_cons_zero, List.set_cons_succ, i64_w, i32_w]
      rfl
     refine pure_ (i := 6) (N := some 37) (v := ?_) (a' := ?_) #[true,true,true,true,true,true,true,false,false,false,false,false] rfl rfl (any_of HT_.out (by kernel_rfl)) (fun _ _ _ h => h) (Or.inl ⟨by rfl, ?_⟩) ?_ ?_
     rotate_left
     ·intro w'
      go_simp
      with_reducible rfl
     rotate_left
     ·simp only [Act.put, List.setIfInBounds_toArray, List.set_cons_zero, List.set_cons_succ, i64_w, i32_w]
      rfl
     refine pure_ (i := 7) (N := some 38) (v := undef) (a' := ?_) #[true,true,true,true,true,true,true,true,false,false,false,false] rfl rfl (any_of HT_.out (by kernel_rfl)) (fun _ _ _ h => h) (Or.inr ⟨by rfl, rfl⟩) ?_ ?_
     rotate_left
     ·simp only [Act.put, List.setIfInBounds_toArray, List.set_cons_zero, List.set_cons_succ, i64_w, i32_w]
      rfl
     refine pure_ (i := 8) (N := some 39) (v := undef) (a' := ?_) #[true,true,true,true,true,true,true,true,true,false,false,false] rfl rfl (any_of HT_.out (by kernel_rfl)) (fun _ _ _ h => h) (Or.inr ⟨by rfl, rfl⟩) ?_ ?_
     rotate_left
     ·simp only [Act.put, List.setIfInBounds_toArray, List.set_cons_zero, List.set_cons_succ, i64_w, i32_w]
      rfl
     refine pure_ (i := 9) (N := some 40) (v := undef) (a' := ?_) #[true,true,true,true,true,true,true,true,true,true,false,false] rfl rfl (any_of HT_.out (by kernel_rfl)) (fun _ _ _ h => h) (Or.inr ⟨by rfl, rfl⟩) ?_ ?_
     rotate_left
     ·simp only [Act.put, List.setIfInBounds_toArray, List.set_cons_zero, List.set_cons_succ, i64_w, i32_w]
      rfl
     refine pure_ (i := 10) (N := some 41) (v := undef) (a' := ?_) #[true,true,true,true,true,true,true,true,true,true,true,false] rfl rfl (any_of HT_.out (by kernel_rfl)) (fun _ _ _ h => h) (Or.inr ⟨by rfl, rfl⟩) ?_ ?_
     rotate_left
     ·simp only [Act.put, List.setIfInBounds_toArray, List.set_cons_zero, List.set_cons_succ, i64_w, i32_w]
      rfl
     refine pure_ (i := 11) (N := some 42) (v := ?_) (a' := ?_) #[true,true,true,true,true,true,true,true,true,true,true,true] rfl rfl (any_of HT_.out (by kernel_rfl)) (fun _ _ _ h => h) (Or.inl ⟨by rfl, ?_⟩) ?_ ?_
     rotate_left
     ·intro w'
      go_simp
      with_reducible rfl
     rotate_left
     ·simp only [Act.put, List.setIfInBounds_toArray, List.set_cons_zero, List.set_cons_succ, i64_w, i32_w]
      rfl
     refine done_ (done_of HT_.out (by kernel_rfl)) ?_
     try go_wp2
     first
     | (go_meet; case rel => exact ⟨_, (true), (by first | rfl | (simp; done) | (simp [*]; done)), H', ⟨by first | omega | exact Nat.le_refl _⟩, ⟨by repeat (first | (with_reducible first | exact HB.out | apply below_alloc | apply pw_below_drewN | apply below_drew1) | exact HB.out)⟩⟩)
     | (refine Met.intro ?_; go_step; (repeat apply Exists.intro); refine ⟨?_, ?_⟩; rotate_left; (focus (simp only [c9b0, c13b0]; try rfl)); exact ⟨_, (true), (by first | rfl | (simp; done) | (simp [*]; done)), H', ⟨by first | omega | exact Nat.le_refl _⟩, ⟨by repeat (first | (with_reducible first | exact HB.out | apply below_alloc | apply pw_below_drewN | apply below_drew1) | exact HB.out)⟩⟩)
   case rest =>
    clear HC10
    try clear c1
    try clear hcv1
    try clear p2
    try clear hcv2
    try clear c3
    try clear c4
    try clear c4b0
    try clear c4b1
    try clear c5
    try clear c6
    try clear c7
    try clear c8
    try clear c9
    try clear c9b0
    try clear c9b1
    try clear c13
    try clear c13b0
    try clear c13b1
    try clear hcv19
    try clear hcv20
    try clear hcv26
    try clear hcv27
    obtain ⟨kq, x42_9, rfl, HA, HJ9, HB⟩ := hcut
    cases kq with
    | zero => exact absurd HA.out (by simp [folkmootlaw06_DepsOnce.j0])
    | succ kj9 =>
     have H := HA.out
     clear HA
     simp only [folkmootlaw06_DepsOnce.j0] at H
     by_cases c29 : x42_9 = true
     ·subst c29
      have H1 : (some false) = some r := by rw [if_pos rfl] at H; exact H
      clear H
      have H := H1
      clear H1
      obtain rfl := Option.some.inj H
      go_wp2
      go_ret
      exact ⟨by first | rfl | (simp [errW_none, errW_some] <;> rfl) | (simp [*, errW_none, errW_some] <;> rfl), by repeat (first | (with_reducible first | exact HB.out | apply below_alloc | apply pw_below_drewN | apply below_drew1) | exact HB.out)⟩
     ·replace c29 := Bool.eq_false_iff.mpr c29
      subst c29
      have H1 : ((some (([] : List Int) : List Int)).bind fun y156 => (if y156.length + l0.length < 140737488355328 then ((some (y156 ++ l0 : List Int)).bind fun y159 => (if y159.length < 140737488355328 then ((deps_Parse.f (y159 ++ [a2])).bind fun bt165 => ((folkmootlaw06_num.f bt165.2).bind fun t169 => (if t169 = 60 then (if a1 ≥ 0 then (folkmootlaw06_DepsOnce.j1 kj9 l0 a1 (decide (a1 < (l0.length : Int)))) else (folkmootlaw06_DepsOnce.j1 kj9 l0 a1 false)) else (some false)))) else (none))) else (none))) = some r := by rw [if_neg (show ¬ (false = true) by decide)] at H; exact H
      clear H
      have H := H1
      clear H1
      obtain ⟨y156, hy156⟩ : ∃ y_ : List Int, y_ = (([] : List Int)) := ⟨_, rfl⟩
      replace H : (if y156.length + l0.length < 140737488355328 then ((some (y156 ++ l0 : List Int)).bind fun y159 => (if y159.length < 140737488355328 then ((deps_Parse.f (y159 ++ [a2])).bind fun bt165 => ((folkmootlaw06_num.f bt165.2).bind fun t169 => (if t169 = 60 then (if a1 ≥ 0 then (folkmootlaw06_DepsOnce.j1 kj9 l0 a1 (decide (a1 < (l0.length : Int)))) else (folkmootlaw06_DepsOnce.j1 kj9 l0 a1 false)) else (some false)))) else (none))) else (none)) = some r := by first | (rw [hy156]; with_reducible exact H) | (have H2_ := (Option.bind_some _ _).symm.trans H; rw [hy156]; with_reducible exact H2_) | (have H2_ := (Option.bind_some _ _).symm.trans H; with_reducible exact H2_) | with_reducible exact H | (rw [hy156]; exact H) | exact H
      have Ny156 := Aside0.mk hy156
      clear hy156
      by_cases c30 : y156.length + l0.length < 140737488355328
      ·rw [if_pos c30] at H
       have LMc30 := Aside0.mk c30
       clear c30
       obtain ⟨y159, hy159⟩ : ∃ y_ : List Int, y_ = (y156 ++ l0) := ⟨_, rfl⟩
       replace H : (if y159.length < 140737488355328 then ((deps_Parse.f (y159 ++ [a2])).bind fun bt165 => ((folkmootlaw06_num.f bt165.2).bind fun t169 => (if t169 = 60 then (if a1 ≥ 0 then (folkmootlaw06_DepsOnce.j1 kj9 l0 a1 (decide (a1 < (l0.length : Int)))) else (folkmootlaw06_DepsOnce.j1 kj9 l0 a1 false)) else (some false)))) else (none)) = some r := by first | (rw [hy159]; with_reducible exact H) | (have H2_ := (Option.bind_some _ _).symm.trans H; rw [hy159]; with_reducible exact H2_) | (have H2_ := (Option.bind_some _ _).symm.trans H; with_reducible exact H2_) | with_reducible exact H | (rw [hy159]; exact H) | exact H
       have Ny159 := Aside0.mk hy159
       clear hy159
       by_cases c31 : y159.length < 140737488355328
       ·rw [if_pos c31] at H
        have LMc31 := Aside0.mk c31
        clear c31
        obtain ⟨y162, hy162⟩ : ∃ y_ : List Int, y_ = (y159 ++ [a2]) := ⟨_, rfl⟩
        replace H : ((deps_Parse.f y162).bind fun bt165 => ((folkmootlaw06_num.f bt165.2).bind fun t169 => (if t169 = 60 then (if a1 ≥ 0 then (folkmootlaw06_DepsOnce.j1 kj9 l0 a1 (decide (a1 < (l0.length : Int)))) else (folkmootlaw06_DepsOnce.j1 kj9 l0 a1 false)) else (some false)))) = some r := by first | (rw [hy162]; with_reducible exact H) | (have H2_ := (Option.bind_some _ _).symm.trans H; rw [hy162]; with_reducible exact H2_) | (have H2_ := (Option.bind_some _ _).symm.trans H; with_reducible exact H2_) | with_reducible exact H | (rw [hy162]; exact H) | exact H
        have Ny162 := Aside0.mk hy162
        clear hy162
        replace H := Option.bind_eq_some_iff.mp H
        obtain ⟨⟨t165, t166⟩, A320, H⟩ := H
        replace H : ((folkmootlaw06_num.f t166).bind fun t169 => (if t169 = 60 then (if a1 ≥ 0 then (folkmootlaw06_DepsOnce.j1 kj9 l0 a1 (decide (a1 < (l0.length : Int)))) else (folkmootlaw06_DepsOnce.j1 kj9 l0 a1 false)) else (some false))) = some r := H
        have A32 := Aside0.mk A320
        clear A320
        replace H := Option.bind_eq_some_iff.mp H
        obtain ⟨t169, A330, H⟩ := H
        replace H : (if t169 = 60 then (if a1 ≥ 0 then (folkmootlaw06_DepsOnce.j1 kj9 l0 a1 (decide (a1 < (l0.length : Int)))) else (folkmootlaw06_DepsOnce.j1 kj9 l0 a1 false)) else (some false)) = some r := H
        have A33 := Aside0.mk A330
        clear A330
        by_cases c34 : t169 = 60
        ·rw [if_pos c34] at H
         have c34b0 : (t169 == 60) = true := beq_iff_eq.mpr c34
         have c34b1 : (t169 != 60) = false := bne_eq_false_iff_eq.mpr c34
         clear c34
         have HC35 := Aside0.mk H
         clear H
         go_upto_region 11 with (first | ((with_reducible refine gate_dst (N := 44) rfl ?_); (try (refine gate_guard (by rfl) ?_; dsimp only)); refine Kd.R_lit (Kd.int .u8) _ 5 ?hg (N := 44) ?hd (xs := ([] : List Int)) (inner := []) (ok := fun _ => True) (okp := fun _ => True) ?hr ?hp (fun _ hk => hk) trivial (Below.refl _ _) (Nat.le_refl _) (by simp) ?_; (case hd => rfl); (case hg => rfl); (case hr => first | (go_simp; done) | (go_simp; rfl)); (case hp => exact (Reps.none _ _)); intro v157 w36 ho37 hb hg_ hnew_; clear hg_ hnew_; (first | rw [← Ny156.out] at ho37 | (simp only [Int.reduceToNat] at ho37; rw [← Ny156.out] at ho37)); have n0_ := Aside0.mk (Kd.R_lower ho37 (below_size (by repeat (first | (with_reducible first | exact HB.out | apply below_alloc | apply pw_below_drewN | apply below_drew1) | exact HB.out)))); have n1_ := Aside0.mk (below_step (by repeat (first | (with_reducible first | exact HB.out | apply below_alloc | apply pw_below_drewN | apply below_drew1) | exact HB.out)) hb); clear HB; have HO158 := n0_; have HB := n1_; clear n0_ n1_; clear hb ho37) | ((with_reducible refine gate_builtin (b := .append) (xs := #[.tmp 44, .tmp 45]) rfl ?_); (try (refine gate_guard (by rfl) ?_; dsimp only)); at_builtin; refine Kd.R_append_rows (Kd.int .u8) (w0 := w) w.heap.size rfl (.tmp 44) (.tmp 45) 22 5 (.int .u8 0) 1 rfl Try.underlying22 info5 rfl (by decide) (by omega) v157 y156 l0 _ _ _ (fun _ => True) (fun _ => False) rfl rfl ?aO ?aR (fun _ _ h => h) (fun _ h => h.elim) ?aF ?aB ?aS ?aL ?_; (case aR => repeat (first | exact (Kd.C_below HR0.out HB.out) | (with_reducible refine Kd.C_alloc ?_ _) | (with_reducible refine Kd.C_drewN ?_ _) | (with_reducible refine Kd.C_drew ?_))); (case aB => exact (by repeat (first | (with_reducible first | exact HB.out | apply below_alloc | apply pw_below_drewN | apply below_drew1) | exact HB.out))); (case aF => exact (fun _ _ => trivial)); (case aO => exact (by (with_reducible repeat (first | apply Kd.R_alloc | apply Kd.R_drewN | apply Kd.R_drew)); exact HO158.out)); (case aS => exact (below_size (by repeat (first | (with_reducible first | exact HB.out | apply below_alloc | apply pw_below_drewN | apply below_drew1) | exact HB.out)))); (case aL => have := LMc30.out; omega); intro v160 w38 ho hb hg hat; rw [← Ny159.out] at ho; have n0_ := Aside0.mk (hb); have n1_ := Aside0.mk (ho); clear HB; clear HO158; have HB := n0_; have HO161 := n1_; clear n0_ n1_; clear ho hb hg hat) | ((with_reducible refine gate_builtin (b := .append) (xs := #[.tmp 46, .tmp 48]) rfl ?_); (try (refine gate_guard (by rfl) ?_; dsimp only)); at_builtin; refine Kd.R_append (Kd.int .u8) (w0 := w) w.heap.size rfl (.tmp 46) (.tmp 48) 22 5 (.int .u8 0) 1 rfl Try.underlying22 info5 rfl (by decide) (by omega) v160 y159 a2 [.int .u8 a2] (fun _ => True) (fun _ => False) rfl rfl ?aP (fun _ hk => hk.elim) ?aF ?aO ?aB ?aS ?aL ?_; (case aP => exact rfl); (case aB => exact (by repeat (first | (with_reducible first | exact HB.out | apply below_alloc | apply pw_below_drewN | apply below_drew1) | exact HB.out))); (case aF => exact (fun _ _ => trivial)); (case aO => exact (by (with_reducible repeat (first | apply Kd.R_alloc | apply Kd.R_drewN | apply Kd.R_drew)); exact HO161.out)); (case aS => exact (below_size (by repeat (first | (with_reducible first | exact HB.out | apply below_alloc | apply pw_below_drewN | apply below_drew1) | exact HB.out)))); (case aL => have := LMc31.out; omega); intro v163 w39 ho hb hg hat; rw [← Ny162.out] at ho; have n0_ := Aside0.mk (hb); have n1_ := Aside0.mk (ho); clear HB; clear HO161; have HB := n0_; have HO164 := n1_; clear n0_ n1_; clear ho hb hg hat; obtain ⟨Ao40, co40, eo40⟩ := Kd.R_slice HO164.out; subst eo40) | ((with_reducible refine gate_callee (f := 5) rfl ?_); refine goesL_ (some 50) rfl rfl Try.func5 (by kernel_rfl) rfl #[.slice Ao40 y162.length co40] rfl (by (try simp only [List.map_toArray, List.map_cons, List.map_nil]); first | done | rfl | (simp only [List.length_drop, List.length_take]; rfl)) ?_; (with_reducible refine (deps_Parse.calls _ _ y162 t165 t166 _ ?side1 ?side2 A32.out).mono ?_); (case side1 => repeat (first | exact (Kd.R_reads' HO164.out).2.2 | (with_reducible refine Kd.C_alloc ?_ _) | (with_reducible refine Kd.C_drewN ?_ _) | (with_reducible refine Kd.C_drew ?_))); (case side2 => exact (Kd.R_reads' HO164.out).2.1); rintro e w41 ⟨v167, rfl, ho0, hb⟩; refine ⟨_, rfl, ?_⟩; have n0_ := Aside0.mk (Kd.R_below (by (with_reducible repeat (first | apply Kd.R_alloc | apply Kd.R_drewN | apply Kd.R_drew)); exact HO164.out) hb); have n1_ := Aside0.mk (Kd.S_lower ho0 (below_size (by repeat (first | (with_reducible first | exact HB.out | apply below_alloc | apply pw_below_drewN | apply below_drew1) | exact HB.out)))); have n2_ := Aside0.mk (below_step (by repeat (first | (with_reducible first | exact HB.out | apply below_alloc | apply pw_below_drewN | apply below_drew1) | exact HB.out)) hb); clear HO164; clear HB; have HO164 := n0_; have HO168 := n1_; have HB := n2_; clear n0_ n1_ n2_; (try clear hb); (try clear hb2); (try clear hk); (try clear hi); (try clear ho0)) | ((with_reducible refine gate_callee (f := 6) rfl ?_); refine goesL_ (some 54) rfl rfl Try.func6 (by kernel_rfl) rfl #[.int .i64 t166] rfl (by (try simp only [List.map_toArray, List.map_cons, List.map_nil]); first | done | rfl | (simp only [List.length_drop, List.length_take]; rfl)) ?_; (with_reducible refine (folkmootlaw06_num.calls t166 t169 _ A33.out).mono ?_); rintro e w' ⟨rfl, ⟨nd, rfl⟩⟩; refine ⟨_, rfl, ?_⟩))
         (try simp only [Act.put, List.setIfInBounds_toArray, List.set_cons_zero, List.set_cons_succ])
         go_cut [63] (fun v63 wc => ∃ (kq : Nat) (x63_34 : Bool), v63 = .bool x63_34 ∧ Aside0 (folkmootlaw06_DepsOnce.j1 kq l0 a1 x63_34 = some r) ∧ Aside0 (kq ≤ kj9) ∧ Aside0 (Below w.heap.size w wc))
         case first =>
          have H := HC35.out
          clear HC35
          by_cases c42 : a1 ≥ 0
          ·rw [if_pos c42] at H
           have c42b0 : decide (0 ≤ a1) = true := decide_eq_true c42
           clear c42
           (first | rw [c42b0] | (simp only [i64_w, i32_w]; rw [c42b0]) | skip)
           have H' := Aside0.mk H
           clear H
           go_wp2
           first
           | (go_meet; case rel => exact ⟨_, (decide (a1 < (l0.length : Int))), (by first | rfl | (simp; done) | (simp [*]; done)), H', ⟨by have := HJ9.out; first | omega | exact Nat.le_refl _⟩, ⟨by repeat (first | (with_reducible first | exact HB.out | apply below_alloc | apply pw_below_drewN | apply below_drew1) | exact HB.out)⟩⟩)
           | (refine Met.intro ?_; go_step; (repeat apply Exists.intro); refine ⟨?_, ?_⟩; rotate_left; (focus (simp only [c9b0, c34b0]; try rfl)); exact ⟨_, (decide (a1 < (l0.length : Int))), (by first | rfl | (simp; done) | (simp [*]; done)), H', ⟨by have := HJ9.out; first | omega | exact Nat.le_refl _⟩, ⟨by repeat (first | (with_reducible first | exact HB.out | apply below_alloc | apply pw_below_drewN | apply below_drew1) | exact HB.out)⟩⟩)
          ·rw [if_neg c42] at H
           have c42b0 : decide (0 ≤ a1) = false := decide_eq_false c42
           clear c42
           (first | rw [c42b0] | (simp only [i64_w, i32_w]; rw [c42b0]) | skip)
           have H' := Aside0.mk H
           clear H
           go_wp2
           first
           | (go_meet; case rel => exact ⟨_, (false), (by first | rfl | (simp; done) | (simp [*]; done)), H', ⟨by have := HJ9.out; first | omega | exact Nat.le_refl _⟩, ⟨by repeat (first | (with_reducible first | exact HB.out | apply below_alloc | apply pw_below_drewN | apply below_drew1) | exact HB.out)⟩⟩)
           | (refine Met.intro ?_; go_step; (repeat apply Exists.intro); refine ⟨?_, ?_⟩; rotate_left; (focus (simp only [c9b0, c34b0]; try rfl)); exact ⟨_, (false), (by first | rfl | (simp; done) | (simp [*]; done)), H', ⟨by have := HJ9.out; first | omega | exact Nat.le_refl _⟩, ⟨by repeat (first | (with_reducible first | exact HB.out | apply below_alloc | apply pw_below_drewN | apply below_drew1) | exact HB.out)⟩⟩)
         case rest =>
          clear HC35
          try clear c1
          try clear hcv1
          try clear c2
          try clear p2
          try clear hcv2
          try clear c3
          try clear c4
          try clear c4b0
          try clear c4b1
          try clear c5
          try clear c6
          try clear c7
          try clear c8
          try clear c9
          try clear c9b0
          try clear c9b1
          try clear c13
          try clear c13b0
          try clear c13b1
          try clear hcv19
          try clear hcv20
          try clear hcv26
          try clear hcv27
          try clear c29
          try clear c30
          try clear c31
          try clear c34
          try clear c34b0
          try clear c34b1
          try clear c42
          try clear c42b0
          try clear p2
          obtain ⟨kq, x63_34, rfl, HA, HJ34, HB⟩ := hcut
          cases kq with
          | zero => exact absurd HA.out (by simp [folkmootlaw06_DepsOnce.j1])
          | succ kj34 =>
           have H := HA.out
           clear HA
           simp only [folkmootlaw06_DepsOnce.j1] at H
           by_cases c43 : x63_34 = true
           ·subst c43
            have H1 : (if 0 ≤ a1 then (if a1 ≤ (l0.length : Int) then ((deps_Parse.f (l0.take (a1 : Int).toNat)).bind fun bt171 => ((folkmootlaw06_num.f bt171.2).bind fun t175 => (if t175 = 60 then ((folkmootlaw06_live.f).bind fun t176 => (some t176)) else (some false)))) else (none)) else (none)) = some r := by rw [if_pos rfl] at H; exact H
            clear H
            have H := H1
            clear H1
            by_cases c44 : 0 ≤ a1
            ·rw [if_pos c44] at H
             have c44b0 := eq_true c44
             have c44b1 : decide (0 ≤ a1) = true := decide_eq_true c44
             clear c44
             by_cases c45 : a1 ≤ (l0.length : Int)
             ·rw [if_pos c45] at H
              have c45b0 := eq_true c45
              have c45b1 : decide (a1 ≤ (l0.length : Int)) = true := decide_eq_true c45
              clear c45
              replace H := Option.bind_eq_some_iff.mp H
              obtain ⟨⟨t171, t172⟩, A460, H⟩ := H
              replace H : ((folkmootlaw06_num.f t172).bind fun t175 => (if t175 = 60 then ((folkmootlaw06_live.f).bind fun t176 => (some t176)) else (some false))) = some r := H
              have A46 := Aside0.mk A460
              clear A460
              replace H := Option.bind_eq_some_iff.mp H
              obtain ⟨t175, A470, H⟩ := H
              replace H : (if t175 = 60 then ((folkmootlaw06_live.f).bind fun t176 => (some t176)) else (some false)) = some r := H
              have A47 := Aside0.mk A470
              clear A470
              by_cases c48 : t175 = 60
              ·rw [if_pos c48] at H
               have c48b0 : (t175 == 60) = true := beq_iff_eq.mpr c48
               have c48b1 : (t175 != 60) = false := bne_eq_false_iff_eq.mpr c48
               clear c48
               replace H := Option.bind_eq_some_iff.mp H
               obtain ⟨t176, A490, H⟩ := H
               replace H : (some t176) = some r := H
               have A49 := Aside0.mk A490
               clear A490
               obtain rfl := Option.some.inj H
               obtain ⟨i050, hi050, _, hsz50, _⟩ := info_parts info5
               obtain ⟨hcut50, hA50, hC50⟩ := print_take_of (P := Try.prog) (Value.int .u8) 0 22 5 .i64 Try.underlying22 hi050 hsz50 A0 c0 l0 a1 (of_decide_eq_true (by first | (with_reducible assumption) | assumption)) (of_decide_eq_true (by first | (with_reducible assumption) | assumption)) HC0.out
               have HR170 := Aside0.mk (Kd.C_of_reads (h1 := fun _ => rfl) (hA50 _ (Kd.reads_of_C HR0.out)))
               have HC170 := Aside0.mk hC50
               clear hA50 hC50 hi050 hsz50
               go_wp2_with (first | ((with_reducible refine gate_callee (f := 5) rfl ?_); refine goesL_ (some 68) rfl rfl Try.func5 (by kernel_rfl) rfl #[.slice A0 (l0.take (a1 : Int).toNat).length c0] rfl (by (try simp only [List.map_toArray, List.map_cons, List.map_nil]); first | done | (rw [show (l0.take (a1 : Int).toNat).length = a1.toNat from (by rw [List.length_take]; have h_ : (a1 : Int) ≤ (l0.length : Int) := of_decide_eq_true (by first | (with_reducible assumption) | assumption); omega)] <;> rfl) | rfl | (simp only [List.length_drop, List.length_take]; rfl)) ?_; (with_reducible refine (deps_Parse.calls _ _ (l0.take (a1 : Int).toNat) t171 t172 _ ?side1 ?side2 A46.out).mono ?_); (case side1 => repeat (first | exact (Kd.C_below HR170.out HB.out) | (with_reducible refine Kd.C_alloc ?_ _) | (with_reducible refine Kd.C_drewN ?_ _) | (with_reducible refine Kd.C_drew ?_))); (case side2 => exact HC170.out); rintro e w51 ⟨v173, rfl, ho0, hb⟩; refine ⟨_, rfl, ?_⟩; have n0_ := Aside0.mk (Kd.S_lower ho0 (below_size (by repeat (first | (with_reducible first | exact HB.out | apply below_alloc | apply pw_below_drewN | apply below_drew1) | exact HB.out)))); have n1_ := Aside0.mk (below_step (by repeat (first | (with_reducible first | exact HB.out | apply below_alloc | apply pw_below_drewN | apply below_drew1) | exact HB.out)) hb); clear HB; have HO174 := n0_; have HB := n1_; clear n0_ n1_; (try clear hb); (try clear hb2); (try clear hk); (try clear hi); (try clear ho0)) | ((with_reducible refine gate_callee (f := 6) rfl ?_); refine goesL_ (some 72) rfl rfl Try.func6 (by kernel_rfl) rfl #[.int .i64 t172] rfl (by (try simp only [List.map_toArray, List.map_cons, List.map_nil]); first | done | rfl | (simp only [List.length_drop, List.length_take]; rfl)) ?_; (with_reducible refine (folkmootlaw06_num.calls t172 t175 _ A47.out).mono ?_); rintro e w' ⟨rfl, ⟨nd, rfl⟩⟩; refine ⟨_, rfl, ?_⟩) | (go_at_call 4; (with_reducible refine (folkmootlaw06_live.calls  t176 _ A49.out).mono ?_); rintro e w52 ⟨rfl, hb⟩; have n0_ := Aside0.mk (Kd.S_below (by (with_reducible repeat (first | apply Kd.S_alloc | apply Kd.S_drewN | apply Kd.S_drew)); exact HO174.out) hb); have n1_ := Aside0.mk (below_step (by repeat (first | (with_reducible first | exact HB.out | apply below_alloc | apply pw_below_drewN | apply below_drew1) | exact HB.out)) hb); clear HO174; clear HB; have HO174 := n0_; have HB := n1_; clear n0_ n1_; (try clear hb); (try clear hb2); (try clear hk); (try clear hi)))
               go_ret
               exact ⟨by first | rfl | (simp [errW_none, errW_some] <;> rfl) | (simp [*, errW_none, errW_some] <;> rfl), by repeat (first | (with_reducible first | exact HB.out | apply below_alloc | apply pw_below_drewN | apply below_drew1) | exact HB.out)⟩
              ·rw [if_neg c48] at H
               have c48b0 : (t175 == 60) = false := beq_eq_false_iff_ne.mpr c48
               have c48b1 : (t175 != 60) = true := bne_iff_ne.mpr c48
               obtain rfl := Option.some.inj H
               obtain ⟨i053, hi053, _, hsz53, _⟩ := info_parts info5
               obtain ⟨hcut53, hA53, hC53⟩ := print_take_of (P := Try.prog) (Value.int .u8) 0 22 5 .i64 Try.underlying22 hi053 hsz53 A0 c0 l0 a1 (of_decide_eq_true (by first | (with_reducible assumption) | assumption)) (of_decide_eq_true (by first | (with_reducible assumption) | assumption)) HC0.out
               have HR170 := Aside0.mk (Kd.C_of_reads (h1 := fun _ => rfl) (hA53 _ (Kd.reads_of_C HR0.out)))
               have HC170 := Aside0.mk hC53
               clear hA53 hC53 hi053 hsz53
               go_wp2_with (first | ((with_reducible refine gate_callee (f := 5) rfl ?_); refine goesL_ (some 68) rfl rfl Try.func5 (by kernel_rfl) rfl #[.slice A0 (l0.take (a1 : Int).toNat).length c0] rfl (by (try simp only [List.map_toArray, List.map_cons, List.map_nil]); first | done | (rw [show (l0.take (a1 : Int).toNat).length = a1.toNat from (by rw [List.length_take]; have h_ : (a1 : Int) ≤ (l0.length : Int) := of_decide_eq_true (by first | (with_reducible assumption) | assumption); omega)] <;> rfl) | rfl | (simp only [List.length_drop, List.length_take]; rfl)) ?_; (with_reducible refine (deps_Parse.calls _ _ (l0.take (a1 : Int).toNat) t171 t172 _ ?side1 ?side2 A46.out).mono ?_); (case side1 => repeat (first | exact (Kd.C_below HR170.out HB.out) | (with_reducible refine Kd.C_alloc ?_ _) | (with_reducible refine Kd.C_drewN ?_ _) | (with_reducible refine Kd.C_drew ?_))); (case side2 => exact HC170.out); rintro e w54 ⟨v173, rfl, ho0, hb⟩; refine ⟨_, rfl, ?_⟩; have n0_ := Aside0.mk (Kd.S_lower ho0 (below_size (by repeat (first | (with_reducible first | exact HB.out | apply below_alloc | apply pw_below_drewN | apply below_drew1) | exact HB.out)))); have n1_ := Aside0.mk (below_step (by repeat (first | (with_reducible first | exact HB.out | apply below_alloc | apply pw_below_drewN | apply below_drew1) | exact HB.out)) hb); clear HB; have HO174 := n0_; have HB := n1_; clear n0_ n1_; (try clear hb); (try clear hb2); (try clear hk); (try clear hi); (try clear ho0)) | ((with_reducible refine gate_callee (f := 6) rfl ?_); refine goesL_ (some 72) rfl rfl Try.func6 (by kernel_rfl) rfl #[.int .i64 t172] rfl (by (try simp only [List.map_toArray, List.map_cons, List.map_nil]); first | done | rfl | (simp only [List.length_drop, List.length_take]; rfl)) ?_; (with_reducible refine (folkmootlaw06_num.calls t172 t175 _ A47.out).mono ?_); rintro e w' ⟨rfl, ⟨nd, rfl⟩⟩; refine ⟨_, rfl, ?_⟩))
               go_ret
               exact ⟨by first | rfl | (simp [errW_none, errW_some] <;> rfl) | (simp [*, errW_none, errW_some] <;> rfl), by repeat (first | (with_reducible first | exact HB.out | apply below_alloc | apply pw_below_drewN | apply below_drew1) | exact HB.out)⟩
             ·rw [if_neg c45] at H
              exact absurd H (by simp)
            ·rw [if_neg c44] at H
             exact absurd H (by simp)
           ·replace c43 := Bool.eq_false_iff.mpr c43
            subst c43
            have H1 : ((folkmootlaw06_live.f).bind fun t177 => (some t177)) = some r := by rw [if_neg (show ¬ (false = true) by decide)] at H; exact H
            clear H
            have H := H1
            clear H1
            replace H := Option.bind_eq_some_iff.mp H
            obtain ⟨t177, A550, H⟩ := H
            replace H : (some t177) = some r := H
            have A55 := Aside0.mk A550
            clear A550
            obtain rfl := Option.some.inj H
            go_wp2_with (first | ((with_reducible refine gate_callee (f := 4) rfl ?_); refine goesL_ (some 77) rfl rfl Try.func4 (by kernel_rfl) rfl #[] rfl (by (try simp only [List.map_toArray, List.map_cons, List.map_nil]); first | done | rfl | (simp only [List.length_drop, List.length_take]; rfl)) ?_; (with_reducible refine (folkmootlaw06_live.calls  t177 _ A55.out).mono ?_); rintro e w56 ⟨rfl, hb⟩; refine ⟨_, rfl, ?_⟩; have n0_ := Aside0.mk (below_step (by repeat (first | (with_reducible first | exact HB.out | apply below_alloc | apply pw_below_drewN | apply below_drew1) | exact HB.out)) hb); clear HB; have HB := n0_; clear n0_; (try clear hb); (try clear hb2); (try clear hk); (try clear hi)))
            go_ret
            exact ⟨by first | rfl | (simp [errW_none, errW_some] <;> rfl) | (simp [*, errW_none, errW_some] <;> rfl), by repeat (first | (with_reducible first | exact HB.out | apply below_alloc | apply pw_below_drewN | apply below_drew1) | exact HB.out)⟩
        ·rw [if_neg c34] at H
         have c34b0 : (t169 == 60) = false := beq_eq_false_iff_ne.mpr c34
         have c34b1 : (t169 != 60) = true := bne_iff_ne.mpr c34
         obtain rfl := Option.some.inj H
         go_wp2_with (first | ((with_reducible refine gate_dst (N := 44) rfl ?_); (try (refine gate_guard (by rfl) ?_; dsimp only)); refine Kd.R_lit (Kd.int .u8) _ 5 ?hg (N := 44) ?hd (xs := ([] : List Int)) (inner := []) (ok := fun _ => True) (okp := fun _ => True) ?hr ?hp (fun _ hk => hk) trivial (Below.refl _ _) (Nat.le_refl _) (by simp) ?_; (case hd => rfl); (case hg => rfl); (case hr => first | (go_simp; done) | (go_simp; rfl)); (case hp => exact (Reps.none _ _)); intro v157 w57 ho58 hb hg_ hnew_; clear hg_ hnew_; (first | rw [← Ny156.out] at ho58 | (simp only [Int.reduceToNat] at ho58; rw [← Ny156.out] at ho58)); have n0_ := Aside0.mk (Kd.R_lower ho58 (below_size (by repeat (first | (with_reducible first | exact HB.out | apply below_alloc | apply pw_below_drewN | apply below_drew1) | exact HB.out)))); have n1_ := Aside0.mk (below_step (by repeat (first | (with_reducible first | exact HB.out | apply below_alloc | apply pw_below_drewN | apply below_drew1) | exact HB.out)) hb); clear HB; have HO158 := n0_; have HB := n1_; clear n0_ n1_; clear hb ho58) | ((with_reducible refine gate_builtin (b := .append) (xs := #[.tmp 44, .tmp 45]) rfl ?_); (try (refine gate_guard (by rfl) ?_; dsimp only)); at_builtin; refine Kd.R_append_rows (Kd.int .u8) (w0 := w) w.heap.size rfl (.tmp 44) (.tmp 45) 22 5 (.int .u8 0) 1 rfl Try.underlying22 info5 rfl (by decide) (by omega) v157 y156 l0 _ _ _ (fun _ => True) (fun _ => False) rfl rfl ?aO ?aR (fun _ _ h => h) (fun _ h => h.elim) ?aF ?aB ?aS ?aL ?_; (case aR => repeat (first | exact (Kd.C_below HR0.out HB.out) | (with_reducible refine Kd.C_alloc ?_ _) | (with_reducible refine Kd.C_drewN ?_ _) | (with_reducible refine Kd.C_drew ?_))); (case aB => exact (by repeat (first | (with_reducible first | exact HB.out | apply below_alloc | apply pw_below_drewN | apply below_drew1) | exact HB.out))); (case aF => exact (fun _ _ => trivial)); (case aO => exact (by (with_reducible repeat (first | apply Kd.R_alloc | apply Kd.R_drewN | apply Kd.R_drew)); exact HO158.out)); (case aS => exact (below_size (by repeat (first | (with_reducible first | exact HB.out | apply below_alloc | apply pw_below_drewN | apply below_drew1) | exact HB.out)))); (case aL => have := LMc30.out; omega); intro v160 w59 ho hb hg hat; rw [← Ny159.out] at ho; have n0_ := Aside0.mk (hb); have n1_ := Aside0.mk (ho); clear HB; clear HO158; have HB := n0_; have HO161 := n1_; clear n0_ n1_; clear ho hb hg hat) | ((with_reducible refine gate_builtin (b := .append) (xs := #[.tmp 46, .tmp 48]) rfl ?_); (try (refine gate_guard (by rfl) ?_; dsimp only)); at_builtin; refine Kd.R_append (Kd.int .u8) (w0 := w) w.heap.size rfl (.tmp 46) (.tmp 48) 22 5 (.int .u8 0) 1 rfl Try.underlying22 info5 rfl (by decide) (by omega) v160 y159 a2 [.int .u8 a2] (fun _ => True) (fun _ => False) rfl rfl ?aP (fun _ hk => hk.elim) ?aF ?aO ?aB ?aS ?aL ?_; (case aP => exact rfl); (case aB => exact (by repeat (first | (with_reducible first | exact HB.out | apply below_alloc | apply pw_below_drewN | apply below_drew1) | exact HB.out))); (case aF => exact (fun _ _ => trivial)); (case aO => exact (by (with_reducible repeat (first | apply Kd.R_alloc | apply Kd.R_drewN | apply Kd.R_drew)); exact HO161.out)); (case aS => exact (below_size (by repeat (first | (with_reducible first | exact HB.out | apply below_alloc | apply pw_below_drewN | apply below_drew1) | exact HB.out)))); (case aL => have := LMc31.out; omega); intro v163 w60 ho hb hg hat; rw [← Ny162.out] at ho; have n0_ := Aside0.mk (hb); have n1_ := Aside0.mk (ho); clear HB; clear HO161; have HB := n0_; have HO164 := n1_; clear n0_ n1_; clear ho hb hg hat; obtain ⟨Ao61, co61, eo61⟩ := Kd.R_slice HO164.out; subst eo61) | ((with_reducible refine gate_callee (f := 5) rfl ?_); refine goesL_ (some 50) rfl rfl Try.func5 (by kernel_rfl) rfl #[.slice Ao61 y162.length co61] rfl (by (try simp only [List.map_toArray, List.map_cons, List.map_nil]); first | done | rfl | (simp only [List.length_drop, List.length_take]; rfl)) ?_; (with_reducible refine (deps_Parse.calls _ _ y162 t165 t166 _ ?side1 ?side2 A32.out).mono ?_); (case side1 => repeat (first | exact (Kd.R_reads' HO164.out).2.2 | (with_reducible refine Kd.C_alloc ?_ _) | (with_reducible refine Kd.C_drewN ?_ _) | (with_reducible refine Kd.C_drew ?_))); (case side2 => exact (Kd.R_reads' HO164.out).2.1); rintro e w62 ⟨v167, rfl, ho0, hb⟩; refine ⟨_, rfl, ?_⟩; have n0_ := Aside0.mk (Kd.R_below (by (with_reducible repeat (first | apply Kd.R_alloc | apply Kd.R_drewN | apply Kd.R_drew)); exact HO164.out) hb); have n1_ := Aside0.mk (Kd.S_lower ho0 (below_size (by repeat (first | (with_reducible first | exact HB.out | apply below_alloc | apply pw_below_drewN | apply below_drew1) | exact HB.out)))); have n2_ := Aside0.mk (below_step (by repeat (first | (with_reducible first | exact HB.out | apply below_alloc | apply pw_below_drewN | apply below_drew1) | exact HB.out)) hb); clear HO164; clear HB; have HO164 := n0_; have HO168 := n1_; have HB := n2_; clear n0_ n1_ n2_; (try clear hb); (try clear hb2); (try clear hk); (try clear hi); (try clear ho0)) | ((with_reducible refine gate_callee (f := 6) rfl ?_); refine goesL_ (some 54) rfl rfl Try.func6 (by kernel_rfl) rfl #[.int .i64 t166] rfl (by (try simp only [List.map_toArray, List.map_cons, List.map_nil]); first | done | rfl | (simp only [List.length_drop, List.length_take]; rfl)) ?_; (with_reducible refine (folkmootlaw06_num.calls t166 t169 _ A33.out).mono ?_); rintro e w' ⟨rfl, ⟨nd, rfl⟩⟩; refine ⟨_, rfl, ?_⟩))
         go_ret
         exact ⟨by first | rfl | (simp [errW_none, errW_some] <;> rfl) | (simp [*, errW_none, errW_some] <;> rfl), by repeat (first | (with_reducible first | exact HB.out | apply below_alloc | apply pw_below_drewN | apply below_drew1) | exact HB.out)⟩
       ·rw [if_neg c31] at H
        exact absurd H (by simp)
      ·rw [if_neg c30] at H
       exact absurd H (by simp)
  ·rw [if_neg c9] at H
   have c9b0 : (t149 == 0) = false := beq_eq_false_iff_ne.mpr c9
   have c9b1 : (t149 != 0) = true := bne_iff_ne.mpr c9
   by_cases c63 : (t145.length : Int) = 0
   ·rw [if_pos c63] at H
    have c63b0 : ((t145.length : Int) == 0) = true := beq_iff_eq.mpr c63
    have c63b1 : ((t145.length : Int) != 0) = false := bne_eq_false_iff_eq.mpr c63
    clear c63
    replace H := Option.bind_eq_some_iff.mp H
    obtain ⟨t150, A640, H⟩ := H
    replace H : (some t150) = some r := H
    have A64 := Aside0.mk A640
    clear A640
    obtain rfl := Option.some.inj H
    go_enter Try.func3, Try.ntmps3
    go_wp2_with (first | ((with_reducible refine gate_callee (f := 5) rfl ?_); refine goesL_ (some 19) rfl rfl Try.func5 (by kernel_rfl) rfl #[.slice A0 l0.length c0] rfl (by (try simp only [List.map_toArray, List.map_cons, List.map_nil]); first | done | rfl | (simp only [List.length_drop, List.length_take]; rfl)) ?_; (with_reducible refine (deps_Parse.calls _ _ l0 t145 t146 _ ?side1 ?side2 A7.out).mono ?_); (case side1 => repeat (first | exact HR0.out | (with_reducible refine Kd.C_alloc ?_ _) | (with_reducible refine Kd.C_drewN ?_ _) | (with_reducible refine Kd.C_drew ?_))); (case side2 => exact HC0.out); rintro e w65 ⟨v147, rfl, ho0, hb⟩; refine ⟨_, rfl, ?_⟩; have n0_ := Aside0.mk (Kd.S_lower ho0 (below_size (by repeat (first | (with_reducible first | exact HB.out | apply below_alloc | apply pw_below_drewN | apply below_drew1) | exact HB.out)))); have n1_ := Aside0.mk (below_step (by repeat (first | (with_reducible first | exact HB.out | apply below_alloc | apply pw_below_drewN | apply below_drew1) | exact HB.out)) hb); clear HB; have HO148 := n0_; have HB := n1_; clear n0_ n1_; (try clear hb); (try clear hb2); (try clear hk); (try clear hi); (try clear ho0)) | ((with_reducible refine gate_callee (f := 6) rfl ?_); refine goesL_ (some 23) rfl rfl Try.func6 (by kernel_rfl) rfl #[.int .i64 t146] rfl (by (try simp only [List.map_toArray, List.map_cons, List.map_nil]); first | done | rfl | (simp only [List.length_drop, List.length_take]; rfl)) ?_; (with_reducible refine (folkmootlaw06_num.calls t146 t149 _ A8.out).mono ?_); rintro e w' ⟨rfl, ⟨nd, rfl⟩⟩; refine ⟨_, rfl, ?_⟩; obtain ⟨Ao66, co66, eo66⟩ := Kd.S_slice HO148.out; subst eo66) | (go_at_call 4; (with_reducible refine (folkmootlaw06_live.calls  t150 _ A64.out).mono ?_); rintro e w67 ⟨rfl, hb⟩; have n0_ := Aside0.mk (Kd.S_below (by (with_reducible repeat (first | apply Kd.S_alloc | apply Kd.S_drewN | apply Kd.S_drew)); exact HO148.out) hb); have n1_ := Aside0.mk (below_step (by repeat (first | (with_reducible first | exact HB.out | apply below_alloc | apply pw_below_drewN | apply below_drew1) | exact HB.out)) hb); clear HO148; clear HB; have HO148 := n0_; have HB := n1_; clear n0_ n1_; (try clear hb); (try clear hb2); (try clear hk); (try clear hi)))
    go_ret
    exact ⟨by first | rfl | (simp [errW_none, errW_some] <;> rfl) | (simp [*, errW_none, errW_some] <;> rfl), by repeat (first | (with_reducible first | exact HB.out | apply below_alloc | apply pw_below_drewN | apply below_drew1) | exact HB.out)⟩
   ·rw [if_neg c63] at H
    have c63b0 : ((t145.length : Int) == 0) = false := beq_eq_false_iff_ne.mpr c63
    have c63b1 : ((t145.length : Int) != 0) = true := bne_iff_ne.mpr c63
    have c63b2 : ¬ (t145 = []) := fun h_ => c63 (by rw [h_]; rfl)
    obtain rfl := Option.some.inj H
    go_enter Try.func3, Try.ntmps3
    go_wp2_with (first | ((with_reducible refine gate_callee (f := 5) rfl ?_); refine goesL_ (some 19) rfl rfl Try.func5 (by kernel_rfl) rfl #[.slice A0 l0.length c0] rfl (by (try simp only [List.map_toArray, List.map_cons, List.map_nil]); first | done | rfl | (simp only [List.length_drop, List.length_take]; rfl)) ?_; (with_reducible refine (deps_Parse.calls _ _ l0 t145 t146 _ ?side1 ?side2 A7.out).mono ?_); (case side1 => repeat (first | exact HR0.out | (with_reducible refine Kd.C_alloc ?_ _) | (with_reducible refine Kd.C_drewN ?_ _) | (with_reducible refine Kd.C_drew ?_))); (case side2 => exact HC0.out); rintro e w68 ⟨v147, rfl, ho0, hb⟩; refine ⟨_, rfl, ?_⟩; have n0_ := Aside0.mk (Kd.S_lower ho0 (below_size (by repeat (first | (with_reducible first | exact HB.out | apply below_alloc | apply pw_below_drewN | apply below_drew1) | exact HB.out)))); have n1_ := Aside0.mk (below_step (by repeat (first | (with_reducible first | exact HB.out | apply below_alloc | apply pw_below_drewN | apply below_drew1) | exact HB.out)) hb); clear HB; have HO148 := n0_; have HB := n1_; clear n0_ n1_; (try clear hb); (try clear hb2); (try clear hk); (try clear hi); (try clear ho0)) | ((with_reducible refine gate_callee (f := 6) rfl ?_); refine goesL_ (some 23) rfl rfl Try.func6 (by kernel_rfl) rfl #[.int .i64 t146] rfl (by (try simp only [List.map_toArray, List.map_cons, List.map_nil]); first | done | rfl | (simp only [List.length_drop, List.length_take]; rfl)) ?_; (with_reducible refine (folkmootlaw06_num.calls t146 t149 _ A8.out).mono ?_); rintro e w' ⟨rfl, ⟨nd, rfl⟩⟩; refine ⟨_, rfl, ?_⟩; obtain ⟨Ao69, co69, eo69⟩ := Kd.S_slice HO148.out; subst eo69))
    go_ret
    exact ⟨by first | rfl | (simp [errW_none, errW_some] <;> rfl) | (simp [*, errW_none, errW_some] <;> rfl), by repeat (first | (with_reducible first | exact HB.out | apply below_alloc | apply pw_below_drewN | apply below_drew1) | exact HB.out)⟩
def folkmootlaw06_DepsOnce.Pure : Prop := ∀ (l0 : List Int) (a1 : Int) (a2 : Int), l0.length ≤ maxLen → l0.length * 1 ≤ 140737488351232 → (∀ x ∈ l0, (Lit.int .u8 x).wf = true) → (Lit.int .i64 a1).wf = true → (Lit.int .u8 a2).wf = true → ∃ k, folkmootlaw06_DepsOnce.f k l0 a1 a2 = some true
theorem folkmootlaw06_DepsOnce.walk (P : folkmootlaw06_DepsOnce.Pure) (a0 : Option Addr) (len0 cap0 : Nat) (z0 : List Int) (a1 : Int) (a2 : Int) (w : World) (w0 : (a0 = none ∧ len0 = 0 ∧ cap0 = 0 ∧ z0 = []) ∨ ∃ x, a0 = some x ∧ len0 ≤ cap0 ∧ cap0 ≤ maxLen ∧ z0.length = cap0 ∧ (∀ i, i < z0.length → w.cell? (x.add i) = some (.int .u8 (z0.getD i 0))) ∧ ∀ n ∈ z0, (Lit.int .u8 n).wf = true) (y0 : len0 * 1 ≤ 140737488351232) (w1 : (Lit.int .i64 a1).wf = true) (w2 : (Lit.int .u8 a2).wf = true) :
  Calls Try.prog 3 #[.slice a0 len0 cap0, .int .i64 a1, .int .u8 a2] w fun e w' => e = .returned (.bool true) ∧ Below w.heap.size w w' := by
 obtain ⟨l0, rfl, hr0, hm0, hw0, hc0⟩ := ReadsInt.ofRowC w0
 obtain ⟨k, h⟩ := P l0 a1 a2 hm0 y0 hw0 w1 w2
 refine (folkmootlaw06_DepsOnce.calls k _ _ l0 a1 a2 true w (Kd.C_of_reads (d := (0 : Int)) (h1 := fun _ => rfl) hr0) hc0 h).mono ?_
 rintro e w' ⟨rfl, hd⟩
 exact ⟨rfl, hd⟩
end Go.Proofs.Ytaedlmeaconflaa.P
end
section
set_option linter.unusedVariables false
set_option linter.unusedSimpArgs false
namespace Go.Proofs.Ytaedlmeaconflaa.Pure
open Go.RowKit Go.Proofs.Ytaedlmeaconflaa.P Go.Proofs.YtaedlmeaconflaaW.PrintWords Go.Proofs.YtaedlmeaconflaaW.PrintLast
theorem depsOnce_ev (b : List Int) (cut more : Int) (hb : bytesOk b) (hl : b.length ≤ 9223372036854775807) (hm : 0 ≤ more ∧ more < 256) : P.Ev (fun k => folkmootlaw06_DepsOnce.f k b cut more) true := by
  have hlive : P.Ev (fun _ => (folkmootlaw06_live.f).bind fun t => some t) true := P.Ev.bind1 rfl (P.Ev.some _)
  unfold folkmootlaw06_DepsOnce.f
  refine P.Ev.cond (fun _ => hlive) (fun hs => ?_)
  have hpf : deps_Parse.f b = some (if parseOk b = true then ((pAll b).1, 0) else ([], 60)) := by unfold deps_Parse.f; rw [if_pos ⟨hb, by omega⟩]
  refine P.Ev.bind1 hpf ?_
  by_cases ho : parseOk b = true
  · rw [if_pos ho]
    have hi := (parseOk_iff b).1 ho
    obtain ⟨hg, _⟩ := good_of hi.2.1
    have hput : deps_Put.f (pAll b).1 = some b := by
      unfold deps_Put.f
      rw [if_pos, hi.2.2]
      have h1 := hg.len
      have h2 : (laidDeps (pAll b).1).length = b.length := by rw [hi.2.2]
      unfold laidDeps at h2
      rw [List.length_append] at h2
      exact ⟨by omega, by omega⟩
    refine P.Ev.bind1 rfl (P.Ev.yes rfl (P.Ev.bind1 hput (P.Ev.yes rfl ?_)))
    refine P.Ev.bind (ev_dcheck (pAll b).1 (fun x hx => by have := len_allD hx; have := hg.all; omega) (by have := hg.len; omega)) (P.Ev.bind1 rfl ?_)
    rw [hi.2.1]
    refine P.Ev.succ ?_
    simp only [folkmootlaw06_DepsOnce.j0]
    have hbm : bytesOk (b ++ [more]) := fun x hx => by
      rcases List.mem_append.1 hx with h | h
      · exact hb x h
      · rw [List.mem_singleton.1 h]; exact hm
    have hno : ¬ parseOk (b ++ [more]) = true := fun h => by have := parse_once ho h; cases this
    have hp2 : deps_Parse.f (([] ++ b) ++ [more]) = some ([], 60) := by
      rw [List.nil_append]
      unfold deps_Parse.f
      rw [if_pos ⟨hbm, by rw [List.length_append]; simp; omega⟩, if_neg hno]
    refine P.Ev.no (by decide) (P.Ev.bind1 rfl (P.Ev.yes (by simp; omega) (P.Ev.bind1 rfl (P.Ev.yes (by simp; omega) (P.Ev.bind1 hp2 (P.Ev.bind1 rfl (P.Ev.yes rfl ?_)))))))
    have hfin : ∀ q, (q = true → 0 ≤ cut ∧ cut < (b.length : Int)) → P.Ev (fun k => folkmootlaw06_DepsOnce.j1 k b cut q) true := fun q hq => by
      refine P.Ev.succ ?_
      simp only [folkmootlaw06_DepsOnce.j1]
      refine P.Ev.cond (fun h => ?_) (fun _ => hlive)
      obtain ⟨h0, h1⟩ := hq h
      have hne : b.drop cut.toNat ≠ [] := fun e => by
        have := List.length_drop (i := cut.toNat) (l := b)
        rw [e, List.length_nil] at this
        omega
      have hno2 : ¬ parseOk (b.take cut.toNat) = true := fun h2 => by
        refine hne (parse_once h2 ?_)
        rw [List.take_append_drop]; exact ho
      have hp3 : deps_Parse.f (b.take cut.toNat) = some ([], 60) := by
        unfold deps_Parse.f
        rw [if_pos ⟨bytesOk_take hb _, by rw [List.length_take]; omega⟩, if_neg hno2]
      exact P.Ev.yes h0 (P.Ev.yes (by omega) (P.Ev.bind1 hp3 (P.Ev.bind1 rfl (P.Ev.yes rfl hlive))))
    refine P.Ev.cond (fun h => hfin _ fun k => ⟨h, of_decide_eq_true k⟩) (fun _ => hfin _ fun k => by cases k)
  · rw [if_neg ho]
    exact P.Ev.bind1 rfl (P.Ev.no (by decide) (P.Ev.yes rfl hlive))
theorem DepsOnce : folkmootlaw06_DepsOnce.Pure := by
  intro l0 a1 a2 hl _ hw _ h2
  have hb : ∀ x : Int, (Lit.int .u8 x).wf = true → 0 ≤ x ∧ x < 256 := fun x h => by
    simp [Lit.wf, IntKind.min, IntKind.max, IntKind.bits, IntKind.signed] at h
    omega
  exact (depsOnce_ev l0 a1 a2 (fun x hx => hb x (hw x hx)) (by unfold maxLen at hl; omega) (hb a2 h2)).get
end Go.Proofs.Ytaedlmeaconflaa.Pure
end
