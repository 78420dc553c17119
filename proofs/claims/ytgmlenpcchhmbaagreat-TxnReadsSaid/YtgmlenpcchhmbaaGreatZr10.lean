/- what the claim's row stands on, part 10. -/
import Derived.Test.YtgmlenpcchhmbaaGreatZr9
import Derived.Test.YtgmlenpcchhmbaaGreatZr5
import Derived.Test.YtgmlenpcchhmbaaGreatZr4
import Derived.Test.YtgmlenpcchhmbaaGreatZr6
import Derived.Test.YtgmlenpcchhmbaaGreatZr7
import Derived.Test.YtgmlenpcchhmbaaGreatZr8
import Derived.Test.YtgmlenpcchhmbaaGreatZr2
import Derived.Test.YtgmlenpcchhmbaaGreatZr3
section
set_option linter.unusedVariables false
set_option linter.unusedSimpArgs false
namespace Go.Proofs.YtgmlenpcchhmbaaGreat.P
def floorP (P : ByteArray → Bool) (p : List ByteArray) (k : ByteArray) : Bool := p.foldl (fun b m => if klt k m = true then b else P m) false
theorem floor_snoc (P : ByteArray → Bool) (p : List ByteArray) (m k : ByteArray) : floorP P (p ++ [m]) k = if klt k m = true then floorP P p k else P m := by unfold floorP; rw [List.foldl_append]; rfl
theorem floor_at (P : ByteArray → Bool) : ∀ (n : Nat) (p : List ByteArray), p.length = n → RiseK p → ∀ k, ((∀ m ∈ p, klt k m = true) ∧ floorP P p k = false) ∨ ∃ m ∈ p, klt k m = false ∧ (∀ x ∈ p, klt m x = true → klt k x = true) ∧ floorP P p k = P m
  | 0, [], _, _, k => .inl ⟨fun m hm => by (cases hm), rfl⟩
  | 0, _ :: _, h, _, _ => by simp at h
  | n + 1, p, hn, hr, k => by
    rcases List.eq_nil_or_concat p with rfl | ⟨q, m, rfl⟩
    · simp at hn
    rw [List.concat_eq_append] at *
    have hp := List.pairwise_append.1 hr
    rw [floor_snoc]
    by_cases h : klt k m = true
    · rw [if_pos h]
      rcases floor_at P n q (by simpa using hn) hp.1 k with ⟨h1, h2⟩ | ⟨x, hx, h1, h2, h3⟩
      · refine .inl ⟨fun y hy => ?_, h2⟩
        rcases List.mem_append.1 hy with hy | hy
        · exact h1 y hy
        · rw [List.mem_singleton.1 hy]; exact h
      · refine .inr ⟨x, List.mem_append_left _ hx, h1, fun y hy hxy => ?_, h3⟩
        rcases List.mem_append.1 hy with hy | hy
        · exact h2 y hy hxy
        · rw [List.mem_singleton.1 hy]; exact h
    · rw [if_neg h]
      refine .inr ⟨m, by simp, Bool.eq_false_iff.2 h, fun y hy hmy => ?_, rfl⟩
      rcases List.mem_append.1 hy with hy | hy
      · have := hp.2.2 y hy m (by simp)
        rw [klt_asymm this] at hmy; cases hmy
      · rw [List.mem_singleton.1 hy, klt_irrefl] at hmy; cases hmy
theorem hasS_const {Ms : List ByteArray} {s : S71} (h0 : s.f0 ∈ Ms) (h1 : s.f1 ≠ emptyB → s.f1 ∈ Ms) {m k : ByteArray} (hm : klt k m = false) (hmk : ∀ x ∈ Ms, klt m x = true → klt k x = true) : hasS s k = hasS s m := by
  rw [Bool.eq_iff_iff, hasS_iff, hasS_iff]
  have e0 : klt k s.f0 = false ↔ klt m s.f0 = false := by
    constructor
    · intro h
      cases g : klt m s.f0 with
      | false => rfl
      | true => rw [hmk _ h0 g] at h; cases h
    · intro h; exact kle_trans h hm
  rw [e0]
  refine and_congr_right fun _ => ?_
  by_cases hne : s.f1 = emptyB
  · simp only [hne, true_or]
  simp only [hne, false_or]
  constructor
  · intro h; exact kle_klt hm h
  · intro h; exact hmk _ (h1 hne) h
theorem hasSs_const {Ms : List ByteArray} {l : List S71} (h : ∀ s ∈ l, s.f0 ∈ Ms ∧ (s.f1 ≠ emptyB → s.f1 ∈ Ms)) {m k : ByteArray} (hm : klt k m = false) (hmk : ∀ x ∈ Ms, klt m x = true → klt k x = true) : hasSs l k = hasSs l m := by
  unfold hasSs
  rw [Bool.eq_iff_iff, List.any_eq_true, List.any_eq_true]
  constructor
  · rintro ⟨s, hs, e⟩; exact ⟨s, hs, by rw [← hasS_const (h s hs).1 (h s hs).2 hm hmk]; exact e⟩
  · rintro ⟨s, hs, e⟩; exact ⟨s, hs, by rw [hasS_const (h s hs).1 (h s hs).2 hm hmk]; exact e⟩
theorem hasSs_ahead {Ms : List ByteArray} {l : List S71} (h : ∀ s ∈ l, s.f0 ∈ Ms) {k : ByteArray} (hk : ∀ x ∈ Ms, klt k x = true) : hasSs l k = false := by
  cases e : hasSs l k with
  | false => rfl
  | true =>
    obtain ⟨s, hs, e⟩ := List.any_eq_true.1 e
    have := ((hasS_iff s k).1 e).1
    rw [hk _ (h s hs)] at this; cases this
def setTo (out : List S71) (m : ByteArray) : List S71 := match out.getLast? with
  | none => out
  | some t => out.dropLast ++ [⟨t.f0, m⟩]
theorem setTo_snoc (init : List S71) (t : S71) (m : ByteArray) : setTo (init ++ [t]) m = init ++ [⟨t.f0, m⟩] := by unfold setTo; simp
def stepM (P : ByteArray → Bool) (st : Bool × List S71) (m : ByteArray) : Bool × List S71 :=
  (P m, if P m = true then (if st.1 = true then st.2 else st.2 ++ [⟨m, emptyB⟩]) else (if st.1 = true then setTo st.2 m else st.2))
def setM (P : ByteArray → Bool) (ms : List ByteArray) : Bool × List S71 := ms.foldl (stepM P) (false, [])
structure InvM (P : ByteArray → Bool) (p : List ByteArray) (st : Bool × List S71) : Prop where
  canon : CanonU st.2
  f0 : ∀ s ∈ st.2, s.f0 ∈ p
  f1 : ∀ s ∈ st.2, s.f1 ≠ emptyB → s.f1 ∈ p
  opn : st.1 = true → ∃ init f, st.2 = init ++ [⟨f, emptyB⟩]
  shut : st.1 = false → ∀ s ∈ st.2, s.f1 ≠ emptyB
  has : ∀ k, hasSs st.2 k = floorP P p k
theorem klt_nil (k : ByteArray) : klt k emptyB = false := by
  unfold klt
  show Op.bytesLess k.data.toList [] = false
  cases k.data.toList <;> rfl
theorem inv_step {P : ByteArray → Bool} {p : List ByteArray} {st : Bool × List S71} {m : ByteArray} (hr : RiseK (p ++ [m])) (h : InvM P p st) : InvM P (p ++ [m]) (stepM P st m) := by
  obtain ⟨o, out⟩ := st
  have hp := List.pairwise_append.1 hr
  have hlt : ∀ x ∈ p, klt x m = true := fun x hx => hp.2.2 x hx m (by simp)
  have up : ∀ {x : ByteArray}, x ∈ p → x ∈ p ++ [m] := fun hx => List.mem_append_left _ hx
  cases hP : P m with
  | true =>
    cases o with
    | true =>
      have e : stepM P (true, out) m = (true, out) := by unfold stepM; rw [hP]; rfl
      rw [e]
      refine ⟨h.canon, fun s hs => up (h.f0 s hs), fun s hs g => up (h.f1 s hs g), h.opn, h.shut, fun k => ?_⟩
      rw [floor_snoc, hP]
      split
      · exact h.has k
      · rename_i hk
        obtain ⟨init, f, e2⟩ := h.opn rfl
        have e3 : out = init ++ [⟨f, emptyB⟩] := e2
        show hasSs out k = true
        rw [e3, hasSs_app, hasSs_one]
        have hf : klt k f = false := kle_trans (klt_asymm (hlt f (h.f0 ⟨f, emptyB⟩ (by rw [e2]; simp)))) (Bool.eq_false_iff.2 hk)
        rw [(hasS_iff ⟨f, emptyB⟩ k).2 ⟨hf, .inl rfl⟩, Bool.or_true]
    | false =>
      have e : stepM P (false, out) m = (true, out ++ [⟨m, emptyB⟩]) := by unfold stepM; rw [hP]; rfl
      rw [e]
      refine ⟨⟨fun s hs => ?_, List.pairwise_append.2 ⟨h.canon.2, List.pairwise_singleton _ _, fun a ha b hb => ?_⟩⟩, fun s hs => ?_, fun s hs g => ?_, fun _ => ⟨out, m, rfl⟩, fun g => (by cases g), fun k => ?_⟩
      · rcases List.mem_append.1 hs with hs | hs
        · exact h.canon.1 s hs
        · rw [List.mem_singleton.1 hs]; exact noneS_false.2 (.inl rfl)
      · rw [List.mem_singleton.1 hb]
        exact ⟨h.shut rfl a ha, hlt _ (h.f1 a ha (h.shut rfl a ha))⟩
      · rcases List.mem_append.1 hs with hs | hs
        · exact up (h.f0 s hs)
        · rw [List.mem_singleton.1 hs]; simp
      · rcases List.mem_append.1 hs with hs | hs
        · exact up (h.f1 s hs g)
        · rw [List.mem_singleton.1 hs] at g; exact absurd rfl g
      · show hasSs (out ++ [⟨m, emptyB⟩]) k = _
        rw [hasSs_app, hasSs_one, floor_snoc, hP, show hasSs out k = _ from h.has k]
        by_cases hk : klt k m = true
        · rw [if_pos hk]
          have : hasS ⟨m, emptyB⟩ k = false := by
            cases g : hasS ⟨m, emptyB⟩ k with
            | false => rfl
            | true => have := ((hasS_iff _ _).1 g).1; rw [show klt k m = false from this] at hk; cases hk
          rw [this, Bool.or_false]
        · rw [if_neg hk, (hasS_iff ⟨m, emptyB⟩ k).2 ⟨Bool.eq_false_iff.2 hk, .inl rfl⟩, Bool.or_true]
  | false =>
    cases o with
    | false =>
      have e : stepM P (false, out) m = (false, out) := by unfold stepM; rw [hP]; rfl
      rw [e]
      refine ⟨h.canon, fun s hs => up (h.f0 s hs), fun s hs g => up (h.f1 s hs g), h.opn, h.shut, fun k => ?_⟩
      rw [floor_snoc, hP]
      split
      · exact h.has k
      · rename_i hk
        cases g : hasSs out k with
        | false => rfl
        | true =>
          obtain ⟨s, hs, g⟩ := List.any_eq_true.1 g
          have h1 := h.shut rfl s hs
          have h2 := ((hasS_iff s k).1 g).2.resolve_left h1
          have h3 := hlt _ (h.f1 s hs h1)
          exact absurd (klt_trans h2 h3) hk
    | true =>
      obtain ⟨init, f, e2⟩ := h.opn rfl
      have e3 : out = init ++ [⟨f, emptyB⟩] := e2
      subst e3
      have e : stepM P (true, init ++ [⟨f, emptyB⟩]) m = (false, init ++ [⟨f, m⟩]) := by
        unfold stepM
        rw [hP]
        show (false, setTo (init ++ [⟨f, emptyB⟩]) m) = _
        rw [setTo_snoc]
      rw [e]
      have hfm : klt f m = true := hlt f (h.f0 ⟨f, emptyB⟩ (by simp))
      have hme : m ≠ emptyB := fun g => by rw [g, klt_nil] at hfm; cases hfm
      have hpc := List.pairwise_append.1 h.canon.2
      have hin : ∀ s ∈ init, s.f1 ≠ emptyB ∧ klt s.f1 f = true := fun s hs => hpc.2.2 s hs ⟨f, emptyB⟩ (by simp)
      refine ⟨⟨fun s hs => ?_, List.pairwise_append.2 ⟨hpc.1, List.pairwise_singleton _ _, fun a ha b hb => ?_⟩⟩, fun s hs => ?_, fun s hs g => ?_, fun g => (by cases g), fun _ s hs => ?_, fun k => ?_⟩
      · rcases List.mem_append.1 hs with hs | hs
        · exact h.canon.1 s (List.mem_append_left _ hs)
        · rw [List.mem_singleton.1 hs]; exact noneS_false.2 (.inr hfm)
      · rw [List.mem_singleton.1 hb]; exact hin a ha
      · rcases List.mem_append.1 hs with hs | hs
        · exact up (h.f0 s (List.mem_append_left _ hs))
        · rw [List.mem_singleton.1 hs]; exact up (h.f0 ⟨f, emptyB⟩ (by simp))
      · rcases List.mem_append.1 hs with hs | hs
        · exact up (h.f1 s (List.mem_append_left _ hs) g)
        · rw [List.mem_singleton.1 hs]; simp
      · rcases List.mem_append.1 hs with hs | hs
        · exact (hin s hs).1
        · rw [List.mem_singleton.1 hs]; exact hme
      · show hasSs (init ++ [⟨f, m⟩]) k = _
        have ho : hasSs (init ++ [⟨f, emptyB⟩]) k = _ := h.has k
        rw [hasSs_app, hasSs_one] at ho
        rw [hasSs_app, hasSs_one, floor_snoc, hP, ← ho]
        by_cases hk : klt k m = true
        · rw [if_pos hk]
          congr 1
          rw [Bool.eq_iff_iff, hasS_iff, hasS_iff]
          simp [hk]
        · rw [if_neg hk]
          have h1 : hasSs init k = false := by
            cases g : hasSs init k with
            | false => rfl
            | true =>
              obtain ⟨s, hs, g⟩ := List.any_eq_true.1 g
              have h2 := ((hasS_iff s k).1 g).2.resolve_left (hin s hs).1
              exact absurd (klt_trans (klt_trans h2 (hin s hs).2) hfm) hk
          have h2 : hasS ⟨f, m⟩ k = false := by
            cases g : hasS ⟨f, m⟩ k with
            | false => rfl
            | true =>
              rcases ((hasS_iff _ _).1 g).2 with g | g
              · exact absurd g hme
              · exact absurd g hk
          rw [h1, h2]; rfl
theorem inv_fold {P : ByteArray → Bool} : ∀ (ms p : List ByteArray) (st : Bool × List S71), RiseK (p ++ ms) → InvM P p st → InvM P (p ++ ms) (ms.foldl (stepM P) st)
  | [], p, st, _, h => by rw [List.append_nil]; exact h
  | m :: ms, p, st, hr, h => by
    have e : p ++ m :: ms = (p ++ [m]) ++ ms := by simp
    rw [e] at hr ⊢
    exact inv_fold ms (p ++ [m]) _ hr (inv_step (List.pairwise_append.1 hr).1 h)
theorem setM_inv (P : ByteArray → Bool) (ms : List ByteArray) (hr : RiseK ms) : InvM P ms (setM P ms) := by
  have h0 : InvM P [] (false, []) := ⟨⟨fun s hs => by (cases hs), List.Pairwise.nil⟩, fun s hs => by (cases hs), fun s hs => by (cases hs), fun g => (by cases g), fun _ s hs => by (cases hs), fun k => rfl⟩
  have := inv_fold (P := P) ms [] (false, []) hr h0
  exact this
theorem setM_ok (a b : List S71) (q : Bool → Bool → Bool) (hq : q false false = false) :
    CanonU (setM (fun k => q (hasSs a k) (hasSs b k)) (marksL (a ++ b))).2 ∧ ∀ k, hasSs (setM (fun k => q (hasSs a k) (hasSs b k)) (marksL (a ++ b))).2 k = q (hasSs a k) (hasSs b k) := by
  have hi := setM_inv (fun k => q (hasSs a k) (hasSs b k)) (marksL (a ++ b)) (marks_rise _)
  refine ⟨hi.canon, fun k => ?_⟩
  rw [hi.has]
  have ha : ∀ s ∈ a, s.f0 ∈ marksL (a ++ b) ∧ (s.f1 ≠ emptyB → s.f1 ∈ marksL (a ++ b)) := fun s hs => ⟨(marks_mem _ _).2 ⟨s, List.mem_append_left _ hs, .inl rfl⟩, fun g => (marks_mem _ _).2 ⟨s, List.mem_append_left _ hs, .inr ⟨g, rfl⟩⟩⟩
  have hb : ∀ s ∈ b, s.f0 ∈ marksL (a ++ b) ∧ (s.f1 ≠ emptyB → s.f1 ∈ marksL (a ++ b)) := fun s hs => ⟨(marks_mem _ _).2 ⟨s, List.mem_append_right _ hs, .inl rfl⟩, fun g => (marks_mem _ _).2 ⟨s, List.mem_append_right _ hs, .inr ⟨g, rfl⟩⟩⟩
  rcases floor_at (fun k => q (hasSs a k) (hasSs b k)) _ (marksL (a ++ b)) rfl (marks_rise _) k with ⟨h1, h2⟩ | ⟨m, hm, h1, h2, h3⟩
  · rw [h2, hasSs_ahead (fun s hs => (ha s hs).1) h1, hasSs_ahead (fun s hs => (hb s hs).1) h1, hq]
  · rw [h3, hasSs_const ha h1 h2, hasSs_const hb h1 h2]
theorem setM_union (l : List S71) : (setM (fun k => hasSs l k || hasSs [] k) (marksL (l ++ []))).2 = unionT l := by
  obtain ⟨h1, h2⟩ := setM_ok l [] (· || ·) rfl
  have hp := List.mergeSort_perm (l.filter fun x => !emptyS x) fun x y => !klt y.f0 x.f0
  have hs := List.pairwise_mergeSort (le := fun (x y : S71) => !klt y.f0 x.f0) (fun a b c h1 h2 => by
      simp only [Bool.not_eq_true'] at *
      exact kle_trans h1 h2) (fun a b => by
      cases h : klt b.f0 a.f0 with
      | false => rfl
      | true => simp [klt_asymm h]) (l.filter fun x => !emptyS x)
  obtain ⟨g1, g2, _⟩ := unionT_of hp (hs.imp fun h => by simpa using h)
  refine canon_ext h1 g1 fun k => ?_
  rw [h2, g2]
  show (hasSs l k || hasSs [] k) = _
  rw [show hasSs [] k = false from rfl, Bool.or_false]
end Go.Proofs.YtgmlenpcchhmbaaGreat.P
end
section
set_option linter.unusedVariables false
set_option linter.unusedSimpArgs false

end
section
set_option linter.unusedVariables false
set_option linter.unusedSimpArgs false
namespace Go.Proofs.YtgmlenpcchhmbaaGreat.P
open Go.RowKit Go.Proofs.YtgmlenpcchhmbaaGreatW.PrintWords Go.Proofs.YtgmlenpcchhmbaaGreatW.PrintLast
theorem setTo_set {out : List S71} (h : out ≠ []) (m : ByteArray) : out.set (out.length - 1) ⟨(rd_T71 out ((out.length - 1 : Nat) : Int)).f0, m⟩ = setTo out m := by
  rcases List.eq_nil_or_concat out with e | ⟨init, t, e⟩
  · exact absurd e h
  · rw [List.concat_eq_append] at e
    subst e
    rw [setTo_snoc]
    have e1 : (init ++ [t]).length - 1 = init.length := by simp
    have e2 : rd_T71 (init ++ [t]) ((init.length : Nat) : Int) = t := by unfold rd_T71; rw [Int.toNat_natCast, List.getD_eq_getElem?_getD]; simp
    rw [e1, e2, List.set_append_right _ _ (Nat.le_refl _)]
    simp
theorem r3set_l0 (a b : List S71) (want : Int) (q : Bool → Bool → Bool) (hw : (want = 0 ∧ ∀ x y, q x y = (x || y)) ∨ (want = 1 ∧ ∀ x y, q x y = (x && y))) (ms : List ByteArray) (ha : a.length ≤ 1000000) (hb : b.length ≤ 1000000) (hm : ms.length ≤ 1000000) :
    ∀ (m i : Nat) (o : Bool) (out : List S71), i + m = ms.length → out.length ≤ i → (o = true → out ≠ []) → Ev (fun k => folkmootref03_set.l0 k a b want ms out o (i : Int)) (((ms.drop i).foldl (stepM fun k => q (hasSs a k) (hasSs b k)) (o, out)).2)
  | 0, i, o, out, h, _, _ => by
    refine Ev.succ ?_
    simp only [folkmootref03_set.l0]
    rw [List.drop_of_length_le (by omega)]
    exact Ev.no (by omega) (Ev.some _)
  | m + 1, i, o, out, h, hol, ho => by
    have hi : i < ms.length := by omega
    have ih := fun o out => r3set_l0 a b want q hw ms ha hb hm m (i + 1) o out (by omega)
    have hrd : rdOf ByteArray.empty ms (i : Int) = ms[i] := by
      unfold rdOf
      rw [Int.toNat_natCast, List.getD_eq_getElem?_getD, List.getElem?_eq_getElem hi]; rfl
    have hd : ms.drop i = ms[i] :: ms.drop (i + 1) := List.drop_eq_getElem_cons hi
    rw [hd, List.foldl_cons]
    generalize hP : (fun k => q (hasSs a k) (hasSs b k)) = P at ih ⊢
    have hPm : P ms[i] = q (hasSs a ms[i]) (hasSs b ms[i]) := by rw [← hP]
    have hj3 : Ev (fun k => folkmootref03_set.j3 k a b want ms out o (i : Int) (P ms[i])) (((ms.drop (i + 1)).foldl (stepM P) (stepM P (o, out) ms[i])).2) := by
      refine Ev.succ ?_
      simp only [folkmootref03_set.j3]
      cases hp : P ms[i] with
      | true =>
        refine Ev.yes (by simp) (Ev.succ ?_)
        simp only [folkmootref03_set.j4]
        rw [hrd, w64_succ (by omega)]
        cases o with
        | true =>
          have e : stepM P (true, out) ms[i] = (true, out) := by unfold stepM; rw [hp]; rfl
          rw [e]
          exact Ev.no (by simp) (Ev.yes (by simp) (ih true out (by omega) (fun _ => ho rfl)))
        | false =>
          have e : stepM P (false, out) ms[i] = (true, out ++ [⟨ms[i], emptyB⟩]) := by unfold stepM; rw [hp]; rfl
          rw [e]
          exact Ev.yes (by simp) (Ev.yes (by omega) (Ev.yes (by omega) (Ev.yes (by omega) (Ev.bind1 rfl (Ev.yes (by simp) (ih true (out ++ [⟨ms[i], emptyB⟩]) (by rw [List.length_append]; simp only [List.length_cons, List.length_nil]; omega) (fun _ => by simp)))))))
      | false =>
        refine Ev.no (by simp) (Ev.succ ?_)
        simp only [folkmootref03_set.j4]
        rw [hrd, w64_succ (by omega)]
        cases o with
        | true =>
          have e : stepM P (true, out) ms[i] = (false, setTo out ms[i]) := by unfold stepM; rw [hp]; rfl
          rw [e, ← setTo_set (ho rfl)]
          have hlen : 0 < out.length := List.length_pos_iff.2 (ho rfl)
          have hw1 : wrap64 ((out.length : Int) - 1) = ((out.length - 1 : Nat) : Int) := by unfold wrap64; omega
          rw [hw1, Int.toNat_natCast]
          exact Ev.no (by simp) (Ev.no (by simp) (Ev.yes (by simp) (Ev.yes (by omega) (Ev.yes (by omega) (Ev.yes (by omega) (Ev.yes (by omega) (ih false _ (by rw [List.length_set]; omega) (fun g => by cases g))))))))
        | false =>
          have e : stepM P (false, out) ms[i] = (false, out) := by unfold stepM; rw [hp]; rfl
          rw [e]
          exact Ev.no (by simp) (Ev.no (by simp) (Ev.no (by simp) (ih false out (by omega) (fun g => by cases g))))
    have hj1 : Ev (fun k => folkmootref03_set.j1 k a b want ms out o (i : Int) (hasSs a ms[i]) (hasSs b ms[i]) (hasSs a ms[i] || hasSs b ms[i])) (((ms.drop (i + 1)).foldl (stepM P) (stepM P (o, out) ms[i])).2) := by
      refine Ev.succ ?_
      simp only [folkmootref03_set.j1]
      have hj2 : ∀ x : Bool, x = P ms[i] → Ev (fun k => folkmootref03_set.j2 k a b want ms out o (i : Int) (hasSs a ms[i]) (hasSs b ms[i]) x) (((ms.drop (i + 1)).foldl (stepM P) (stepM P (o, out) ms[i])).2) := fun x hx => by
        refine Ev.succ ?_
        simp only [folkmootref03_set.j2]
        subst hx
        exact Ev.no (by omega) hj3
      rcases hw with ⟨rfl, hq⟩ | ⟨rfl, hq⟩
      · exact Ev.no (by omega) (hj2 _ (by rw [hPm, hq]))
      · refine Ev.yes rfl (Ev.cond (fun e => hj2 _ (by rw [hPm, hq, e, Bool.true_and])) (fun e => hj2 _ (by rw [hPm, hq, Bool.eq_false_iff.2 e, Bool.false_and])))
    refine Ev.succ ?_
    simp only [folkmootref03_set.l0]
    rw [hrd]
    refine Ev.yes (by omega) (Ev.yes (by omega) (Ev.bind (ev_has a _ (by omega)) (Ev.bind (ev_has b _ (by omega)) (Ev.cond (fun e => ?_) (fun e => ?_)))))
    · rw [e, Bool.true_or] at hj1; rw [e]; exact hj1
    · rw [Bool.eq_false_iff.2 e, Bool.false_or] at hj1; rw [Bool.eq_false_iff.2 e]; exact hj1
theorem ev_r3set (a b : List S71) (want : Int) (q : Bool → Bool → Bool) (hw : (want = 0 ∧ ∀ x y, q x y = (x || y)) ∨ (want = 1 ∧ ∀ x y, q x y = (x && y))) (hl : a.length + b.length ≤ 10000) :
    Ev (fun k => folkmootref03_set.f k a b want) (setM (fun k => q (hasSs a k) (hasSs b k)) (marksL (a ++ b))).2 := by
  unfold folkmootref03_set.f
  have hm := marks_len (a ++ b)
  rw [List.length_append] at hm
  have hf : folkmootref03_marks.f ([] ++ a ++ b) = some (marksL (a ++ b)) := by
    unfold folkmootref03_marks.f
    rw [List.nil_append, if_pos (by rw [List.length_append]; omega)]
  have h0 := r3set_l0 a b want q hw (marksL (a ++ b)) (by omega) (by omega) (by omega) (marksL (a ++ b)).length 0 false [] (by omega) (by simp) (fun g => by cases g)
  rw [List.drop_zero] at h0
  exact Ev.bind1 rfl (Ev.yes (by simp only [List.length_nil]; omega) (Ev.bind1 rfl (Ev.yes (by simp only [List.nil_append]; omega) (Ev.bind1 hf h0))))
theorem ev_r3union (l : List S71) (hl : l.length ≤ 10000) : Ev (fun k => folkmootref03_Union.f k l) (unionT l) := by
  unfold folkmootref03_Union.f
  refine Ev.bind (ev_r3set l [] 0 (· || ·) (.inl ⟨rfl, fun _ _ => rfl⟩) (by simp only [List.length_nil]; omega)) ?_
  rw [setM_union]
  exact Ev.some _
theorem r3same_l0 (d : List S71) (hd : d.length ≤ 1000000) : ∀ (m i : Nat), i + m = d.length → Ev (fun k => folkmootref03_Same.l0 k d d (i : Int)) true
  | 0, i, h => by
    refine Ev.succ ?_
    simp only [folkmootref03_Same.l0]
    exact Ev.no (by omega) (Ev.some _)
  | m + 1, i, h => by
    refine Ev.succ ?_
    simp only [folkmootref03_Same.l0]
    rw [w64_succ (by omega)]
    exact Ev.yes (by omega) (Ev.yes (by omega) (Ev.yes (by omega) (Ev.no (by simp) (r3same_l0 d hd m (i + 1) (by omega)))))
theorem ev_r3same (d : List S71) (hd : d.length ≤ 1000000) : Ev (fun k => folkmootref03_Same.f k d d) true := by
  unfold folkmootref03_Same.f
  exact Ev.yes rfl (r3same_l0 d hd d.length 0 (by omega))
end Go.Proofs.YtgmlenpcchhmbaaGreat.P
end
section
set_option linter.unusedVariables false
set_option linter.unusedSimpArgs false
namespace Go.Proofs.YtgmlenpcchhmbaaGreat.P
theorem agree_of {d e : List S61} (hd : SortK (d.map toA)) (he : SortK (e.map toA)) (R : List S71) (h : ∀ k, hasSs R k = true → getL (d.map toA) k = getL (e.map toA) k) : Agree R (startT d) (startT e) := by
  refine ⟨start_ok d, start_ok e, rfl, fun k hk => ?_⟩
  rw [start_d hd, start_d he]
  rcases hk with hk | hk
  · exact h k hk
  · cases hk
end Go.Proofs.YtgmlenpcchhmbaaGreat.P
end
section
set_option linter.unusedVariables false
set_option linter.unusedSimpArgs false
namespace Go.Proofs.YtgmlenpcchhmbaaGreat.P
open Go.RowKit Go.Proofs.YtgmlenpcchhmbaaGreatW.PrintWords Go.Proofs.YtgmlenpcchhmbaaGreatW.PrintLast Go.Proofs.YtgmlenpcchhmbaaGreatW.PrintMore
attribute [local go_sem] max2_int min2_int max_two min_two max_three min_three max_four min_four   -- for this text's walks alone
def txn_All.f (k : Nat) (l0 : List (S63)) : Option ((List (S71))) := (txn_Reads.f k l0).bind fun t775 => ((txn_Writes.f k l0).bind fun t778 => (if t775.length + t778.length < 4398046511104 then ((span_Union.f (t775 ++ t778)).bind fun t784 => (some t784)) else (none)))
set_option maxHeartbeats 8000000 in
set_option maxRecDepth 100000 in
theorem txn_All.calls (k : Nat) (A0 : Option Addr) (c0 : Nat) (l0 : List (S63)) (r : List (S71)) (w : World) (hr0 : Kd.C k63 w A0 l0.length l0) (hc0 : l0.length ≤ c0) (h : txn_All.f k l0 = some r) :
  Calls Tryz.prog 42 #[.slice A0 l0.length c0] w fun e w' => ∃ v0_ : Value, e = .returned (v0_) ∧ Kd.R k71 71 w' w.heap.size (fun _ => True) v0_ r ∧ Below w.heap.size w w' := by
 have HR0 := Aside0.mk hr0
 have HC0 := Aside0.mk hc0
 clear hr0 hc0
 have HB := Aside0.mk (Below.refl w.heap.size w)
 have H : ((txn_Reads.f k l0).bind fun t775 => ((txn_Writes.f k l0).bind fun t778 => (if t775.length + t778.length < 4398046511104 then ((span_Union.f (t775 ++ t778)).bind fun t784 => (some t784)) else (none)))) = some r := h
 clear h
 replace H := Option.bind_eq_some_iff.mp H
 obtain ⟨t775, A20, H⟩ := H
 replace H : ((txn_Writes.f k l0).bind fun t778 => (if t775.length + t778.length < 4398046511104 then ((span_Union.f (t775 ++ t778)).bind fun t784 => (some t784)) else (none))) = some r := H
 have A2 := Aside0.mk A20
 clear A20
 replace H := Option.bind_eq_some_iff.mp H
 obtain ⟨t778, A30, H⟩ := H
 replace H : (if t775.length + t778.length < 4398046511104 then ((span_Union.f (t775 ++ t778)).bind fun t784 => (some t784)) else (none)) = some r := H
 have A3 := Aside0.mk A30
 clear A30
 by_cases c4 : t775.length + t778.length < 4398046511104
 ·rw [if_pos c4] at H
  have LMc4 := Aside0.mk c4
  clear c4
  obtain ⟨y781, hy781⟩ : ∃ y_ : List (S71), y_ = (t775 ++ t778) := ⟨_, rfl⟩
  replace H : ((span_Union.f y781).bind fun t784 => (some t784)) = some r := by first | (rw [hy781]; with_reducible exact H) | (have H2_ := (Option.bind_some _ _).symm.trans H; rw [hy781]; with_reducible exact H2_) | (have H2_ := (Option.bind_some _ _).symm.trans H; with_reducible exact H2_) | with_reducible exact H | (rw [hy781]; exact H) | exact H
  have Ny781 := Aside0.mk hy781
  clear hy781
  replace H := Option.bind_eq_some_iff.mp H
  obtain ⟨t784, A50, H⟩ := H
  replace H : (some t784) = some r := H
  have A5 := Aside0.mk A50
  clear A50
  obtain rfl := Option.some.inj H
  go_enter Tryz.func42, Tryz.ntmps42
  go_wp2_with (first | ((with_reducible refine gate_callee (f := 38) rfl ?_); refine goesL_ (some 4) rfl rfl Tryz.func38 (by kernel_rfl) rfl #[.slice A0 l0.length c0] rfl (by (try simp only [List.map_toArray, List.map_cons, List.map_nil]); first | done | rfl | (simp only [List.length_drop, List.length_take]; rfl)) ?_; (with_reducible refine (txn_Reads.calls k _ _ l0 t775 _ ?side1 ?side2 A2.out).mono ?_); (case side1 => repeat (first | exact HR0.out | (with_reducible refine Kd.C_alloc ?_ _) | (with_reducible refine Kd.C_drewN ?_ _) | (with_reducible refine Kd.C_drew ?_))); (case side2 => exact HC0.out); rintro e w6 ⟨v776, rfl, ho0, hb⟩; refine ⟨_, rfl, ?_⟩; have n0_ := Aside0.mk (Kd.R_lower ho0 (below_size bB_)); have n1_ := Aside0.mk (below_step bB_ hb); clear HB; have HO777 := n0_; have HB := n1_; clear n0_ n1_; (try clear hb); (try clear hb2); (try clear hk); (try clear hi); (try clear ho0)) | ((with_reducible refine gate_callee (f := 39) rfl ?_); refine goesL_ (some 6) rfl rfl Tryz.func39 (by kernel_rfl) rfl #[.slice A0 l0.length c0] rfl (by (try simp only [List.map_toArray, List.map_cons, List.map_nil]); first | done | rfl | (simp only [List.length_drop, List.length_take]; rfl)) ?_; (with_reducible refine (txn_Writes.calls k _ _ l0 t778 _ ?side1 ?side2 A3.out).mono ?_); (case side1 => repeat (first | exact (Kd.C_below HR0.out HB.out) | (with_reducible refine Kd.C_alloc ?_ _) | (with_reducible refine Kd.C_drewN ?_ _) | (with_reducible refine Kd.C_drew ?_))); (case side2 => exact HC0.out); rintro e w7 ⟨v779, rfl, ho0, hb⟩; refine ⟨_, rfl, ?_⟩; have n0_ := Aside0.mk (Kd.R_elder' (rR_ HO777.out) (Kd.R_base ho0) hb); have n1_ := Aside0.mk (Kd.R_lower (Kd.R_new' ho0 (Kd.R_lt (rR_ HO777.out))) (below_size bB_)); have n2_ := Aside0.mk (below_step bB_ hb); clear HO777; clear HB; have HO777 := n0_; have HO780 := n1_; have HB := n2_; clear n0_ n1_ n2_; (try clear hb); (try clear hb2); (try clear hk); (try clear hi); (try clear ho0); obtain ⟨Ao9, co9, eo9⟩ := Kd.R_slice HO780.out; subst eo9) | ((with_reducible refine gate_builtin (b := .append) (xs := #[.tmp 4, .tmp 6]) rfl ?_); at_builtin; refine Kd.R_append_rows k71 (w0 := w) w.heap.size rfl (.tmp 4) (.tmp 6) 40 71 (.agg #[(.string ⟨#[]⟩), (.string ⟨#[]⟩)]) 32 rfl Tryz.underlying40 info71 rfl (by decide) (by omega) v776 t775 t778 _ _ _ (fun k_ => some k_ ≠ (.slice Ao9 t778.length co9 : Value).ownBlock) (fun _ => False) rfl rfl ?aO ?aR (fun _ _ h => h) (fun _ h => h.elim) ?aF ?aB ?aS ?aL ?_; (case aR => repeat (first | exact (Kd.R_reads' HO780.out).2.2 | (with_reducible refine Kd.C_alloc ?_ _) | (with_reducible refine Kd.C_drewN ?_ _) | (with_reducible refine Kd.C_drew ?_))); (case aB => exact bB_); (case aF => exact (fun k_ hk => Kd.fresh' (Kd.R_lt (rR_ HO780.out)) k_ hk)); (case aO => exact (by (with_reducible repeat (first | apply Kd.R_alloc | apply Kd.R_drewN | apply Kd.R_drew)); exact Kd.R_mono HO777.out (fun _ hk => hk.2))); (case aS => exact (below_size bB_)); (case aL => have := LMc4.out; omega); intro v782 w8 ho hb hg hat; rw [← Ny781.out] at ho; have n0_ := Aside0.mk (Kd.R_after (ok := (fun _ => True)) (rR_ HO780.out) hg hat); have n1_ := Aside0.mk (hb); have n2_ := Aside0.mk (ho); clear HO780; clear HB; clear HO777; have HO780 := n0_; have HB := n1_; have HO783 := n2_; clear n0_ n1_ n2_; clear ho hb hg hat; obtain ⟨Ao10, co10, eo10⟩ := Kd.R_slice HO783.out; subst eo10) | ((with_reducible refine gate_callee (f := 88) rfl ?_); refine goesL_ (some 8) rfl rfl Tryz.func88 (by kernel_rfl) rfl #[.slice Ao10 y781.length co10] rfl (by (try simp only [List.map_toArray, List.map_cons, List.map_nil]); first | done | rfl | (simp only [List.length_drop, List.length_take]; rfl)) ?_; (with_reducible refine (span_Union.calls _ _ y781 t784 _ ?side1 ?side2 A5.out).mono ?_); (case side1 => repeat (first | exact (Kd.R_reads' HO783.out).2.2 | (with_reducible refine Kd.C_alloc ?_ _) | (with_reducible refine Kd.C_drewN ?_ _) | (with_reducible refine Kd.C_drew ?_))); (case side2 => exact (Kd.R_reads' HO783.out).2.1); rintro e w11 ⟨v785, rfl, ho0, hb⟩; refine ⟨_, rfl, ?_⟩; have n0_ := Aside0.mk (Kd.R_elder' (rR_ HO780.out) (Kd.R_base ho0) hb); have n1_ := Aside0.mk (Kd.R_elder' (rR_ HO783.out) (Kd.R_base ho0) hb); have n2_ := Aside0.mk (Kd.R_lower (Kd.R_new' (Kd.R_new' ho0 (Kd.R_lt (rR_ HO780.out))) (Kd.R_lt (rR_ HO783.out))) (below_size bB_)); have n3_ := Aside0.mk (below_step bB_ hb); clear HO780; clear HO783; clear HB; have HO780 := n0_; have HO783 := n1_; have HO786 := n2_; have HB := n3_; clear n0_ n1_ n2_ n3_; (try clear hb); (try clear hb2); (try clear hk); (try clear hi); (try clear ho0)))
  go_ret
  exact ⟨_, by first | rfl | (rw [bl_gt] <;> rfl) | (simp [errW_none, errW_some] <;> rfl) | (simp [*, errW_none, errW_some] <;> rfl), by (with_reducible repeat (first | apply Kd.R_alloc | apply Kd.R_drewN | apply Kd.R_drew)); exact Kd.R_mono HO786.out (fun _ hk => trivial), bB_⟩
 ·rw [if_neg c4] at H
  exact absurd H (by simp)
end Go.Proofs.YtgmlenpcchhmbaaGreat.P
end
section
set_option linter.unusedVariables false
set_option linter.unusedSimpArgs false
namespace Go.Proofs.YtgmlenpcchhmbaaGreat.P
open Go.RowKit Go.Proofs.YtgmlenpcchhmbaaGreatW.PrintWords Go.Proofs.YtgmlenpcchhmbaaGreatW.PrintLast Go.Proofs.YtgmlenpcchhmbaaGreatW.PrintMore
attribute [local go_sem] max2_int min2_int max_two min_two max_three min_three max_four min_four   -- for this text's walks alone
mutual
def folkmootlaw08_TxnReads.j0 : Nat → List (S63) → List (S61) → List (S61) → Bool → Option (Bool)
 | 0, _, _, _, _ => none
 | k + 1, x0, x1, x2, x35 => if x35 = true then ((folkmootlaw08_live.f).bind fun t793 => (some t793)) else ((txn_Eval.f x0 x1).bind fun bt794 => ((txn_Eval.f x0 x2).bind fun bt800 => ((txn_Writes.f k x0).bind fun t806 => (if (t806.length : Int) = 0 then (if (bt794.1.length : Int) = 0 then (folkmootlaw08_TxnReads.j1 k x0 bt794.1 bt794.2 bt800.1 bt800.2 ((bt800.1.length : Int) != 0)) else (folkmootlaw08_TxnReads.j1 k x0 bt794.1 bt794.2 bt800.1 bt800.2 true)) else (folkmootlaw08_TxnReads.j1 k x0 bt794.1 bt794.2 bt800.1 bt800.2 false)))))
def folkmootlaw08_TxnReads.j1 : Nat → List (S63) → List (S69) → List (S65) → List (S69) → List (S65) → Bool → Option (Bool)
 | 0, _, _, _, _, _, _ => none
 | k + 1, x0, x7, x8, x9, x10, x62 => if x62 = true then (some false) else ((txn_Reads.f k x0).bind fun t809 => (if (t809.length : Int) = 0 then ((folkmootref08_Answers.f k x8 x10).bind fun t812 => (if t812 = true then ((folkmootref08_WritesSame.f k x7 x9).bind fun t813 => (folkmootlaw08_TxnReads.j2 k x0 (!t813))) else (folkmootlaw08_TxnReads.j2 k x0 true))) else (folkmootlaw08_TxnReads.j2 k x0 false)))
def folkmootlaw08_TxnReads.j2 : Nat → List (S63) → Bool → Option (Bool)
 | 0, _, _ => none
 | k + 1, x0, x78 => if x78 = true then (some false) else ((txn_Reads.f k x0).bind fun t814 => ((txn_Writes.f k x0).bind fun t817 => (if t814.length + t817.length < 4398046511104 then ((folkmootref03_Union.f k (t814 ++ t817)).bind fun t823 => ((txn_All.f k x0).bind fun t826 => ((folkmootref03_Same.f k t823 t826).bind fun t829 => (if t829 = true then ((folkmootlaw08_live.f).bind fun t830 => (some t830)) else (some false))))) else (none))))
end
def folkmootlaw08_TxnReads.f (k : Nat) (l0 : List (S63)) (l1 : List (S61)) (l2 : List (S61)) : Option (Bool) := (folkmootlaw08_small.f k l0 l1).bind fun t787 => (if t787 = true then ((folkmootlaw08_small.f k ([] : List (S63)) l2).bind fun t788 => (if t788 = true then ((txn_Check.f l0).bind fun t789 => ((folkmootlaw08_num.f t789).bind fun t790 => (if t790 = 0 then ((folkmootref08_Data.f k l1).bind fun t791 => (if t791 = true then ((folkmootref08_Data.f k l2).bind fun t792 => (folkmootlaw08_TxnReads.j0 k l0 l1 l2 (!t792))) else (folkmootlaw08_TxnReads.j0 k l0 l1 l2 true))) else (folkmootlaw08_TxnReads.j0 k l0 l1 l2 true)))) else (folkmootlaw08_TxnReads.j0 k l0 l1 l2 true))) else (folkmootlaw08_TxnReads.j0 k l0 l1 l2 true))
set_option maxHeartbeats 8000000 in
set_option maxRecDepth 100000 in
theorem folkmootlaw08_TxnReads.calls (k : Nat) (A0 : Option Addr) (c0 : Nat) (l0 : List (S63)) (A1 : Option Addr) (c1 : Nat) (l1 : List (S61)) (A2 : Option Addr) (c2 : Nat) (l2 : List (S61)) (r : Bool) (w : World) (hr0 : Kd.C k63 w A0 l0.length l0) (hc0 : l0.length ≤ c0) (hr1 : Kd.C k61 w A1 l1.length l1) (hc1 : l1.length ≤ c1) (hr2 : Kd.C k61 w A2 l2.length l2) (hc2 : l2.length ≤ c2) (h : folkmootlaw08_TxnReads.f k l0 l1 l2 = some r) :
  Calls Tryz.prog 10 #[.slice A0 l0.length c0, .slice A1 l1.length c1, .slice A2 l2.length c2] w fun e w' => e = .returned (.bool r) ∧ Below w.heap.size w w' := by
 have HR0 := Aside0.mk hr0
 have HC0 := Aside0.mk hc0
 clear hr0 hc0
 have HR1 := Aside0.mk hr1
 have HC1 := Aside0.mk hc1
 clear hr1 hc1
 have HR2 := Aside0.mk hr2
 have HC2 := Aside0.mk hc2
 clear hr2 hc2
 have HB := Aside0.mk (Below.refl w.heap.size w)
 have H : ((folkmootlaw08_small.f k l0 l1).bind fun t787 => (if t787 = true then ((folkmootlaw08_small.f k ([] : List (S63)) l2).bind fun t788 => (if t788 = true then ((txn_Check.f l0).bind fun t789 => ((folkmootlaw08_num.f t789).bind fun t790 => (if t790 = 0 then ((folkmootref08_Data.f k l1).bind fun t791 => (if t791 = true then ((folkmootref08_Data.f k l2).bind fun t792 => (folkmootlaw08_TxnReads.j0 k l0 l1 l2 (!t792))) else (folkmootlaw08_TxnReads.j0 k l0 l1 l2 true))) else (folkmootlaw08_TxnReads.j0 k l0 l1 l2 true)))) else (folkmootlaw08_TxnReads.j0 k l0 l1 l2 true))) else (folkmootlaw08_TxnReads.j0 k l0 l1 l2 true))) = some r := h
 clear h
 have HC4 := Aside0.mk H
 clear H
 go_enter Tryz.func10, Tryz.ntmps10
 go_upto_region 1 with (fail)
 go_cut [35] (fun v35 wc => ∃ (kq : Nat) (x35_3 : Bool), v35 = .bool x35_3 ∧ Aside0 (folkmootlaw08_TxnReads.j0 kq l0 l1 l2 x35_3 = some r) ∧ Aside0 (kq ≤ k) ∧ Aside0 (Below w.heap.size w wc))
 case first =>
  have H := HC4.out
  clear HC4
  replace H := Option.bind_eq_some_iff.mp H
  obtain ⟨t787, A50, H⟩ := H
  replace H : (if t787 = true then ((folkmootlaw08_small.f k ([] : List (S63)) l2).bind fun t788 => (if t788 = true then ((txn_Check.f l0).bind fun t789 => ((folkmootlaw08_num.f t789).bind fun t790 => (if t790 = 0 then ((folkmootref08_Data.f k l1).bind fun t791 => (if t791 = true then ((folkmootref08_Data.f k l2).bind fun t792 => (folkmootlaw08_TxnReads.j0 k l0 l1 l2 (!t792))) else (folkmootlaw08_TxnReads.j0 k l0 l1 l2 true))) else (folkmootlaw08_TxnReads.j0 k l0 l1 l2 true)))) else (folkmootlaw08_TxnReads.j0 k l0 l1 l2 true))) else (folkmootlaw08_TxnReads.j0 k l0 l1 l2 true)) = some r := H
  have A5 := Aside0.mk A50
  clear A50
  by_cases c6 : t787 = true
  ·subst c6
   have H1 : ((folkmootlaw08_small.f k ([] : List (S63)) l2).bind fun t788 => (if t788 = true then ((txn_Check.f l0).bind fun t789 => ((folkmootlaw08_num.f t789).bind fun t790 => (if t790 = 0 then ((folkmootref08_Data.f k l1).bind fun t791 => (if t791 = true then ((folkmootref08_Data.f k l2).bind fun t792 => (folkmootlaw08_TxnReads.j0 k l0 l1 l2 (!t792))) else (folkmootlaw08_TxnReads.j0 k l0 l1 l2 true))) else (folkmootlaw08_TxnReads.j0 k l0 l1 l2 true)))) else (folkmootlaw08_TxnReads.j0 k l0 l1 l2 true))) = some r := by rw [if_pos rfl] at H; exact H
   clear H
   have H := H1
   clear H1
   replace H := Option.bind_eq_some_iff.mp H
   obtain ⟨t788, A70, H⟩ := H
   replace H : (if t788 = true then ((txn_Check.f l0).bind fun t789 => ((folkmootlaw08_num.f t789).bind fun t790 => (if t790 = 0 then ((folkmootref08_Data.f k l1).bind fun t791 => (if t791 = true then ((folkmootref08_Data.f k l2).bind fun t792 => (folkmootlaw08_TxnReads.j0 k l0 l1 l2 (!t792))) else (folkmootlaw08_TxnReads.j0 k l0 l1 l2 true))) else (folkmootlaw08_TxnReads.j0 k l0 l1 l2 true)))) else (folkmootlaw08_TxnReads.j0 k l0 l1 l2 true)) = some r := H
   have A7 := Aside0.mk A70
   clear A70
   by_cases c8 : t788 = true
   ·subst c8
    have H1 : ((txn_Check.f l0).bind fun t789 => ((folkmootlaw08_num.f t789).bind fun t790 => (if t790 = 0 then ((folkmootref08_Data.f k l1).bind fun t791 => (if t791 = true then ((folkmootref08_Data.f k l2).bind fun t792 => (folkmootlaw08_TxnReads.j0 k l0 l1 l2 (!t792))) else (folkmootlaw08_TxnReads.j0 k l0 l1 l2 true))) else (folkmootlaw08_TxnReads.j0 k l0 l1 l2 true)))) = some r := by rw [if_pos rfl] at H; exact H
    clear H
    have H := H1
    clear H1
    replace H := Option.bind_eq_some_iff.mp H
    obtain ⟨t789, A90, H⟩ := H
    replace H : ((folkmootlaw08_num.f t789).bind fun t790 => (if t790 = 0 then ((folkmootref08_Data.f k l1).bind fun t791 => (if t791 = true then ((folkmootref08_Data.f k l2).bind fun t792 => (folkmootlaw08_TxnReads.j0 k l0 l1 l2 (!t792))) else (folkmootlaw08_TxnReads.j0 k l0 l1 l2 true))) else (folkmootlaw08_TxnReads.j0 k l0 l1 l2 true))) = some r := H
    have A9 := Aside0.mk A90
    clear A90
    replace H := Option.bind_eq_some_iff.mp H
    obtain ⟨t790, A100, H⟩ := H
    replace H : (if t790 = 0 then ((folkmootref08_Data.f k l1).bind fun t791 => (if t791 = true then ((folkmootref08_Data.f k l2).bind fun t792 => (folkmootlaw08_TxnReads.j0 k l0 l1 l2 (!t792))) else (folkmootlaw08_TxnReads.j0 k l0 l1 l2 true))) else (folkmootlaw08_TxnReads.j0 k l0 l1 l2 true)) = some r := H
    have A10 := Aside0.mk A100
    clear A100
    by_cases c11 : t790 = 0
    ·rw [if_pos c11] at H
     have c11b0 : (t790 == 0) = true := beq_iff_eq.mpr c11
     have c11b1 : (t790 != 0) = false := bne_eq_false_iff_eq.mpr c11
     clear c11
     (first | rw [c11b0] | (simp only [i64_w, i32_w]; rw [c11b0]) | skip)
     replace H := Option.bind_eq_some_iff.mp H
     obtain ⟨t791, A120, H⟩ := H
     replace H : (if t791 = true then ((folkmootref08_Data.f k l2).bind fun t792 => (folkmootlaw08_TxnReads.j0 k l0 l1 l2 (!t792))) else (folkmootlaw08_TxnReads.j0 k l0 l1 l2 true)) = some r := H
     have A12 := Aside0.mk A120
     clear A120
     by_cases c13 : t791 = true
     ·subst c13
      have H1 : ((folkmootref08_Data.f k l2).bind fun t792 => (folkmootlaw08_TxnReads.j0 k l0 l1 l2 (!t792))) = some r := by rw [if_pos rfl] at H; exact H
      clear H
      have H := H1
      clear H1
      replace H := Option.bind_eq_some_iff.mp H
      obtain ⟨t792, A140, H⟩ := H
      replace H : (folkmootlaw08_TxnReads.j0 k l0 l1 l2 (!t792)) = some r := H
      have A14 := Aside0.mk A140
      clear A140
      have H' := Aside0.mk H
      clear H
      go_wp2_with (first | ((with_reducible refine gate_callee (f := 13) rfl ?_); refine goesL_ (some 13) rfl rfl Tryz.func13 (by kernel_rfl) rfl #[.slice A0 l0.length c0, .slice A1 l1.length c1] rfl (by (try simp only [List.map_toArray, List.map_cons, List.map_nil]); first | done | rfl | (simp only [List.length_drop, List.length_take]; rfl)) ?_; (with_reducible refine (folkmootlaw08_small.calls k _ _ l0 _ _ l1 true _ ?side1 ?side2 ?side3 ?side4 A5.out).mono ?_); (case side1 => repeat (first | exact (Kd.C_below HR0.out HB.out) | (with_reducible refine Kd.C_alloc ?_ _) | (with_reducible refine Kd.C_drewN ?_ _) | (with_reducible refine Kd.C_drew ?_))); (case side2 => exact HC0.out); (case side3 => repeat (first | exact (Kd.C_below HR1.out HB.out) | (with_reducible refine Kd.C_alloc ?_ _) | (with_reducible refine Kd.C_drewN ?_ _) | (with_reducible refine Kd.C_drew ?_))); (case side4 => exact HC1.out); rintro e w' ⟨rfl, ⟨nd, rfl⟩⟩; refine ⟨_, rfl, ?_⟩) | (go_at_call 13; (refine (folkmootlaw08_small.calls k _ _ ([] : List (S63)) _ _ l2 true _ ?side1 ?side2 ?side3 ?side4 A7.out).mono ?_); (case side1 => exact Kd.C_nil _ _); (case side2 => exact Nat.le_refl _); (case side3 => repeat (first | exact (Kd.C_below HR2.out bB_) | (with_reducible refine Kd.C_alloc ?_ _) | (with_reducible refine Kd.C_drewN ?_ _) | (with_reducible refine Kd.C_drew ?_))); (case side4 => exact HC2.out); rintro e w' ⟨rfl, ⟨nd, rfl⟩⟩) | (go_at_call 18; (with_reducible refine (txn_Check.calls _ _ l0 t789 _ ?side1 ?side2 A9.out).mono ?_); (case side1 => repeat (first | exact (Kd.C_below HR0.out bB_) | (with_reducible refine Kd.C_alloc ?_ _) | (with_reducible refine Kd.C_drewN ?_ _) | (with_reducible refine Kd.C_drew ?_))); (case side2 => exact HC0.out); rintro e w15 ⟨rfl, hb⟩; have n0_ := Aside0.mk (below_step bB_ hb); clear HB; have HB := n0_; clear n0_; (try clear hb); (try clear hb2); (try clear hk); (try clear hi)) | (go_at_call 17; (with_reducible refine (folkmootlaw08_num.calls t789 t790 _ A10.out).mono ?_); rintro e w' ⟨rfl, ⟨nd, rfl⟩⟩) | (go_at_call 24; (with_reducible refine (folkmootref08_Data.calls k _ _ l1 true _ ?side1 ?side2 A12.out).mono ?_); (case side1 => repeat (first | exact (Kd.C_below HR1.out bB_) | (with_reducible refine Kd.C_alloc ?_ _) | (with_reducible refine Kd.C_drewN ?_ _) | (with_reducible refine Kd.C_drew ?_))); (case side2 => exact HC1.out); rintro e w16 ⟨rfl, hb⟩; have n0_ := Aside0.mk (below_step bB_ hb); clear HB; have HB := n0_; clear n0_; (try clear hb); (try clear hb2); (try clear hk); (try clear hi)) | (go_at_call 24; (with_reducible refine (folkmootref08_Data.calls k _ _ l2 t792 _ ?side1 ?side2 A14.out).mono ?_); (case side1 => repeat (first | exact (Kd.C_below HR2.out HB.out) | (with_reducible refine Kd.C_alloc ?_ _) | (with_reducible refine Kd.C_drewN ?_ _) | (with_reducible refine Kd.C_drew ?_))); (case side2 => exact HC2.out); rintro e w17 ⟨rfl, hb⟩; have n0_ := Aside0.mk (below_step bB_ hb); clear HB; have HB := n0_; clear n0_; (try clear hb); (try clear hb2); (try clear hk); (try clear hi)))
      first
      | (go_meet; case rel => exact ⟨_, (!t792), (by first | rfl | (rw [bl_gt] <;> rfl) | (simp; done) | (simp [*]; done)), H', ⟨by first | omega | exact Nat.le_refl _⟩, ⟨bB_⟩⟩)
      | (refine Met.intro ?_; go_step; (repeat apply Exists.intro); refine ⟨?_, ?_⟩; rotate_left; (focus (simp only [c11b0]; try rfl)); exact ⟨_, (!t792), (by first | rfl | (rw [bl_gt] <;> rfl) | (simp; done) | (simp [*]; done)), H', ⟨by first | omega | exact Nat.le_refl _⟩, ⟨bB_⟩⟩)
     ·replace c13 := Bool.eq_false_iff.mpr c13
      subst c13
      have H1 : (folkmootlaw08_TxnReads.j0 k l0 l1 l2 true) = some r := by rw [if_neg (show ¬ (false = true) by decide)] at H; exact H
      clear H
      have H := H1
      clear H1
      have H' := Aside0.mk H
      clear H
      go_wp2_with (first | ((with_reducible refine gate_callee (f := 13) rfl ?_); refine goesL_ (some 13) rfl rfl Tryz.func13 (by kernel_rfl) rfl #[.slice A0 l0.length c0, .slice A1 l1.length c1] rfl (by (try simp only [List.map_toArray, List.map_cons, List.map_nil]); first | done | rfl | (simp only [List.length_drop, List.length_take]; rfl)) ?_; (with_reducible refine (folkmootlaw08_small.calls k _ _ l0 _ _ l1 true _ ?side1 ?side2 ?side3 ?side4 A5.out).mono ?_); (case side1 => repeat (first | exact (Kd.C_below HR0.out HB.out) | (with_reducible refine Kd.C_alloc ?_ _) | (with_reducible refine Kd.C_drewN ?_ _) | (with_reducible refine Kd.C_drew ?_))); (case side2 => exact HC0.out); (case side3 => repeat (first | exact (Kd.C_below HR1.out HB.out) | (with_reducible refine Kd.C_alloc ?_ _) | (with_reducible refine Kd.C_drewN ?_ _) | (with_reducible refine Kd.C_drew ?_))); (case side4 => exact HC1.out); rintro e w' ⟨rfl, ⟨nd, rfl⟩⟩; refine ⟨_, rfl, ?_⟩) | (go_at_call 13; (refine (folkmootlaw08_small.calls k _ _ ([] : List (S63)) _ _ l2 true _ ?side1 ?side2 ?side3 ?side4 A7.out).mono ?_); (case side1 => exact Kd.C_nil _ _); (case side2 => exact Nat.le_refl _); (case side3 => repeat (first | exact (Kd.C_below HR2.out bB_) | (with_reducible refine Kd.C_alloc ?_ _) | (with_reducible refine Kd.C_drewN ?_ _) | (with_reducible refine Kd.C_drew ?_))); (case side4 => exact HC2.out); rintro e w' ⟨rfl, ⟨nd, rfl⟩⟩) | (go_at_call 18; (with_reducible refine (txn_Check.calls _ _ l0 t789 _ ?side1 ?side2 A9.out).mono ?_); (case side1 => repeat (first | exact (Kd.C_below HR0.out bB_) | (with_reducible refine Kd.C_alloc ?_ _) | (with_reducible refine Kd.C_drewN ?_ _) | (with_reducible refine Kd.C_drew ?_))); (case side2 => exact HC0.out); rintro e w18 ⟨rfl, hb⟩; have n0_ := Aside0.mk (below_step bB_ hb); clear HB; have HB := n0_; clear n0_; (try clear hb); (try clear hb2); (try clear hk); (try clear hi)) | (go_at_call 17; (with_reducible refine (folkmootlaw08_num.calls t789 t790 _ A10.out).mono ?_); rintro e w' ⟨rfl, ⟨nd, rfl⟩⟩) | (go_at_call 24; (with_reducible refine (folkmootref08_Data.calls k _ _ l1 false _ ?side1 ?side2 A12.out).mono ?_); (case side1 => repeat (first | exact (Kd.C_below HR1.out bB_) | (with_reducible refine Kd.C_alloc ?_ _) | (with_reducible refine Kd.C_drewN ?_ _) | (with_reducible refine Kd.C_drew ?_))); (case side2 => exact HC1.out); rintro e w19 ⟨rfl, hb⟩; have n0_ := Aside0.mk (below_step bB_ hb); clear HB; have HB := n0_; clear n0_; (try clear hb); (try clear hb2); (try clear hk); (try clear hi)))
      first
      | (go_meet; case rel => exact ⟨_, (true), (by first | rfl | (rw [bl_gt] <;> rfl) | (simp; done) | (simp [*]; done)), H', ⟨by first | omega | exact Nat.le_refl _⟩, ⟨bB_⟩⟩)
      | (refine Met.intro ?_; go_step; (repeat apply Exists.intro); refine ⟨?_, ?_⟩; rotate_left; (focus (simp only [c11b0]; try rfl)); exact ⟨_, (true), (by first | rfl | (rw [bl_gt] <;> rfl) | (simp; done) | (simp [*]; done)), H', ⟨by first | omega | exact Nat.le_refl _⟩, ⟨bB_⟩⟩)
    ·rw [if_neg c11] at H
     have c11b0 : (t790 == 0) = false := beq_eq_false_iff_ne.mpr c11
     have c11b1 : (t790 != 0) = true := bne_iff_ne.mpr c11
     (first | rw [c11b0] | (simp only [i64_w, i32_w]; rw [c11b0]) | skip)
     have H' := Aside0.mk H
     clear H
     go_wp2_with (first | ((with_reducible refine gate_callee (f := 13) rfl ?_); refine goesL_ (some 13) rfl rfl Tryz.func13 (by kernel_rfl) rfl #[.slice A0 l0.length c0, .slice A1 l1.length c1] rfl (by (try simp only [List.map_toArray, List.map_cons, List.map_nil]); first | done | rfl | (simp only [List.length_drop, List.length_take]; rfl)) ?_; (with_reducible refine (folkmootlaw08_small.calls k _ _ l0 _ _ l1 true _ ?side1 ?side2 ?side3 ?side4 A5.out).mono ?_); (case side1 => repeat (first | exact (Kd.C_below HR0.out HB.out) | (with_reducible refine Kd.C_alloc ?_ _) | (with_reducible refine Kd.C_drewN ?_ _) | (with_reducible refine Kd.C_drew ?_))); (case side2 => exact HC0.out); (case side3 => repeat (first | exact (Kd.C_below HR1.out HB.out) | (with_reducible refine Kd.C_alloc ?_ _) | (with_reducible refine Kd.C_drewN ?_ _) | (with_reducible refine Kd.C_drew ?_))); (case side4 => exact HC1.out); rintro e w' ⟨rfl, ⟨nd, rfl⟩⟩; refine ⟨_, rfl, ?_⟩) | (go_at_call 13; (refine (folkmootlaw08_small.calls k _ _ ([] : List (S63)) _ _ l2 true _ ?side1 ?side2 ?side3 ?side4 A7.out).mono ?_); (case side1 => exact Kd.C_nil _ _); (case side2 => exact Nat.le_refl _); (case side3 => repeat (first | exact (Kd.C_below HR2.out bB_) | (with_reducible refine Kd.C_alloc ?_ _) | (with_reducible refine Kd.C_drewN ?_ _) | (with_reducible refine Kd.C_drew ?_))); (case side4 => exact HC2.out); rintro e w' ⟨rfl, ⟨nd, rfl⟩⟩) | (go_at_call 18; (with_reducible refine (txn_Check.calls _ _ l0 t789 _ ?side1 ?side2 A9.out).mono ?_); (case side1 => repeat (first | exact (Kd.C_below HR0.out bB_) | (with_reducible refine Kd.C_alloc ?_ _) | (with_reducible refine Kd.C_drewN ?_ _) | (with_reducible refine Kd.C_drew ?_))); (case side2 => exact HC0.out); rintro e w20 ⟨rfl, hb⟩; have n0_ := Aside0.mk (below_step bB_ hb); clear HB; have HB := n0_; clear n0_; (try clear hb); (try clear hb2); (try clear hk); (try clear hi)) | (go_at_call 17; (with_reducible refine (folkmootlaw08_num.calls t789 t790 _ A10.out).mono ?_); rintro e w' ⟨rfl, ⟨nd, rfl⟩⟩))
     first
     | (go_meet; case rel => exact ⟨_, (true), (by first | rfl | (rw [bl_gt] <;> rfl) | (simp; done) | (simp [*]; done)), H', ⟨by first | omega | exact Nat.le_refl _⟩, ⟨bB_⟩⟩)
     | (refine Met.intro ?_; go_step; (repeat apply Exists.intro); refine ⟨?_, ?_⟩; rotate_left; (focus (simp only [c11b0]; try rfl)); exact ⟨_, (true), (by first | rfl | (rw [bl_gt] <;> rfl) | (simp; done) | (simp [*]; done)), H', ⟨by first | omega | exact Nat.le_refl _⟩, ⟨bB_⟩⟩)
   ·replace c8 := Bool.eq_false_iff.mpr c8
    subst c8
    have H1 : (folkmootlaw08_TxnReads.j0 k l0 l1 l2 true) = some r := by rw [if_neg (show ¬ (false = true) by decide)] at H; exact H
    clear H
    have H := H1
    clear H1
    have H' := Aside0.mk H
    clear H
    go_wp2_with (first | ((with_reducible refine gate_callee (f := 13) rfl ?_); refine goesL_ (some 13) rfl rfl Tryz.func13 (by kernel_rfl) rfl #[.slice A0 l0.length c0, .slice A1 l1.length c1] rfl (by (try simp only [List.map_toArray, List.map_cons, List.map_nil]); first | done | rfl | (simp only [List.length_drop, List.length_take]; rfl)) ?_; (with_reducible refine (folkmootlaw08_small.calls k _ _ l0 _ _ l1 true _ ?side1 ?side2 ?side3 ?side4 A5.out).mono ?_); (case side1 => repeat (first | exact (Kd.C_below HR0.out HB.out) | (with_reducible refine Kd.C_alloc ?_ _) | (with_reducible refine Kd.C_drewN ?_ _) | (with_reducible refine Kd.C_drew ?_))); (case side2 => exact HC0.out); (case side3 => repeat (first | exact (Kd.C_below HR1.out HB.out) | (with_reducible refine Kd.C_alloc ?_ _) | (with_reducible refine Kd.C_drewN ?_ _) | (with_reducible refine Kd.C_drew ?_))); (case side4 => exact HC1.out); rintro e w' ⟨rfl, ⟨nd, rfl⟩⟩; refine ⟨_, rfl, ?_⟩) | (go_at_call 13; (refine (folkmootlaw08_small.calls k _ _ ([] : List (S63)) _ _ l2 false _ ?side1 ?side2 ?side3 ?side4 A7.out).mono ?_); (case side1 => exact Kd.C_nil _ _); (case side2 => exact Nat.le_refl _); (case side3 => repeat (first | exact (Kd.C_below HR2.out bB_) | (with_reducible refine Kd.C_alloc ?_ _) | (with_reducible refine Kd.C_drewN ?_ _) | (with_reducible refine Kd.C_drew ?_))); (case side4 => exact HC2.out); rintro e w' ⟨rfl, ⟨nd, rfl⟩⟩))
    go_meet
    case rel => exact ⟨_, (true), (by first | rfl | (rw [bl_gt] <;> rfl) | (simp; done) | (simp [*]; done)), H', ⟨by first | omega | exact Nat.le_refl _⟩, ⟨bB_⟩⟩
  ·replace c6 := Bool.eq_false_iff.mpr c6
   subst c6
   have H1 : (folkmootlaw08_TxnReads.j0 k l0 l1 l2 true) = some r := by rw [if_neg (show ¬ (false = true) by decide)] at H; exact H
   clear H
   have H := H1
   clear H1
   have H' := Aside0.mk H
   clear H
   go_wp2_with (first | ((with_reducible refine gate_callee (f := 13) rfl ?_); refine goesL_ (some 13) rfl rfl Tryz.func13 (by kernel_rfl) rfl #[.slice A0 l0.length c0, .slice A1 l1.length c1] rfl (by (try simp only [List.map_toArray, List.map_cons, List.map_nil]); first | done | rfl | (simp only [List.length_drop, List.length_take]; rfl)) ?_; (with_reducible refine (folkmootlaw08_small.calls k _ _ l0 _ _ l1 false _ ?side1 ?side2 ?side3 ?side4 A5.out).mono ?_); (case side1 => repeat (first | exact (Kd.C_below HR0.out HB.out) | (with_reducible refine Kd.C_alloc ?_ _) | (with_reducible refine Kd.C_drewN ?_ _) | (with_reducible refine Kd.C_drew ?_))); (case side2 => exact HC0.out); (case side3 => repeat (first | exact (Kd.C_below HR1.out HB.out) | (with_reducible refine Kd.C_alloc ?_ _) | (with_reducible refine Kd.C_drewN ?_ _) | (with_reducible refine Kd.C_drew ?_))); (case side4 => exact HC1.out); rintro e w' ⟨rfl, ⟨nd, rfl⟩⟩; refine ⟨_, rfl, ?_⟩))
   go_meet
   case rel => exact ⟨_, (true), (by first | rfl | (rw [bl_gt] <;> rfl) | (simp; done) | (simp [*]; done)), H', ⟨by first | omega | exact Nat.le_refl _⟩, ⟨bB_⟩⟩
 case rest =>
  clear HC4
  try clear c1
  try clear c2
  try clear p2
  try clear c6
  try clear c8
  try clear c10
  try clear c11
  try clear c11b0
  try clear c11b1
  try clear c13
  obtain ⟨kq, x35_3, rfl, HA, HJ3, HB⟩ := hcut
  cases kq with
  | zero => exact absurd HA.out (by simp [folkmootlaw08_TxnReads.j0])
  | succ kj3 =>
   have H := HA.out
   clear HA
   simp only [folkmootlaw08_TxnReads.j0] at H
   by_cases c21 : x35_3 = true
   ·subst c21
    have H1 : ((folkmootlaw08_live.f).bind fun t793 => (some t793)) = some r := by rw [if_pos rfl] at H; exact H
    clear H
    have H := H1
    clear H1
    replace H := Option.bind_eq_some_iff.mp H
    obtain ⟨t793, A220, H⟩ := H
    replace H : (some t793) = some r := H
    have A22 := Aside0.mk A220
    clear A220
    obtain rfl := Option.some.inj H
    go_wp2_with (first | ((with_reducible refine gate_callee (f := 14) rfl ?_); refine goesL_ (some 36) rfl rfl Tryz.func14 (by kernel_rfl) rfl #[] rfl (by (try simp only [List.map_toArray, List.map_cons, List.map_nil]); first | done | rfl | (simp only [List.length_drop, List.length_take]; rfl)) ?_; (with_reducible refine (folkmootlaw08_live.calls  t793 _ A22.out).mono ?_); rintro e w23 ⟨rfl, hb⟩; refine ⟨_, rfl, ?_⟩; have n0_ := Aside0.mk (below_step bB_ hb); clear HB; have HB := n0_; clear n0_; (try clear hb); (try clear hb2); (try clear hk); (try clear hi)))
    go_ret
    exact ⟨by first | rfl | (rw [bl_gt] <;> rfl) | (simp [errW_none, errW_some] <;> rfl) | (simp [*, errW_none, errW_some] <;> rfl), bB_⟩
   ·replace c21 := Bool.eq_false_iff.mpr c21
    subst c21
    have H1 : ((txn_Eval.f l0 l1).bind fun bt794 => ((txn_Eval.f l0 l2).bind fun bt800 => ((txn_Writes.f kj3 l0).bind fun t806 => (if (t806.length : Int) = 0 then (if (bt794.1.length : Int) = 0 then (folkmootlaw08_TxnReads.j1 kj3 l0 bt794.1 bt794.2 bt800.1 bt800.2 ((bt800.1.length : Int) != 0)) else (folkmootlaw08_TxnReads.j1 kj3 l0 bt794.1 bt794.2 bt800.1 bt800.2 true)) else (folkmootlaw08_TxnReads.j1 kj3 l0 bt794.1 bt794.2 bt800.1 bt800.2 false))))) = some r := by rw [if_neg (show ¬ (false = true) by decide)] at H; exact H
    clear H
    have H := H1
    clear H1
    replace H := Option.bind_eq_some_iff.mp H
    obtain ⟨⟨t794, t795⟩, A240, H⟩ := H
    replace H : ((txn_Eval.f l0 l2).bind fun bt800 => ((txn_Writes.f kj3 l0).bind fun t806 => (if (t806.length : Int) = 0 then (if (t794.length : Int) = 0 then (folkmootlaw08_TxnReads.j1 kj3 l0 t794 t795 bt800.1 bt800.2 ((bt800.1.length : Int) != 0)) else (folkmootlaw08_TxnReads.j1 kj3 l0 t794 t795 bt800.1 bt800.2 true)) else (folkmootlaw08_TxnReads.j1 kj3 l0 t794 t795 bt800.1 bt800.2 false)))) = some r := H
    have A24 := Aside0.mk A240
    clear A240
    replace H := Option.bind_eq_some_iff.mp H
    obtain ⟨⟨t800, t801⟩, A250, H⟩ := H
    replace H : ((txn_Writes.f kj3 l0).bind fun t806 => (if (t806.length : Int) = 0 then (if (t794.length : Int) = 0 then (folkmootlaw08_TxnReads.j1 kj3 l0 t794 t795 t800 t801 ((t800.length : Int) != 0)) else (folkmootlaw08_TxnReads.j1 kj3 l0 t794 t795 t800 t801 true)) else (folkmootlaw08_TxnReads.j1 kj3 l0 t794 t795 t800 t801 false))) = some r := H
    have A25 := Aside0.mk A250
    clear A250
    have HC26 := Aside0.mk H
    clear H
    go_upto_region 5 with (first | ((with_reducible refine gate_callee (f := 26) rfl ?_); refine goesL_ (some 40) rfl rfl Tryz.func26 (by kernel_rfl) rfl #[.slice A0 l0.length c0, .slice A1 l1.length c1] rfl (by (try simp only [List.map_toArray, List.map_cons, List.map_nil]); first | done | rfl | (simp only [List.length_drop, List.length_take]; rfl)) ?_; (with_reducible refine (txn_Eval.calls _ _ l0 _ _ l1 t794 t795 _ ?side1 ?side2 ?side3 ?side4 A24.out).mono ?_); (case side1 => repeat (first | exact (Kd.C_below HR0.out HB.out) | (with_reducible refine Kd.C_alloc ?_ _) | (with_reducible refine Kd.C_drewN ?_ _) | (with_reducible refine Kd.C_drew ?_))); (case side2 => exact HC0.out); (case side3 => repeat (first | exact (Kd.C_below HR1.out HB.out) | (with_reducible refine Kd.C_alloc ?_ _) | (with_reducible refine Kd.C_drewN ?_ _) | (with_reducible refine Kd.C_drew ?_))); (case side4 => exact HC1.out); rintro e w27 ⟨v796, v798, rfl, ho0, ho1, hb⟩; refine ⟨_, rfl, ?_⟩; have n0_ := Aside0.mk (Kd.R_lower ho0 (below_size bB_)); have n1_ := Aside0.mk (Kd.S_lower ho1 (below_size bB_)); have n2_ := Aside0.mk (below_step bB_ hb); clear HB; have HO797 := n0_; have HO799 := n1_; have HB := n2_; clear n0_ n1_ n2_; (try clear hb); (try clear hb2); (try clear hk); (try clear hi); (try clear ho0); (try clear ho1)) | ((with_reducible refine gate_callee (f := 26) rfl ?_); refine goesL_ (some 46) rfl rfl Tryz.func26 (by kernel_rfl) rfl #[.slice A0 l0.length c0, .slice A2 l2.length c2] rfl (by (try simp only [List.map_toArray, List.map_cons, List.map_nil]); first | done | rfl | (simp only [List.length_drop, List.length_take]; rfl)) ?_; (with_reducible refine (txn_Eval.calls _ _ l0 _ _ l2 t800 t801 _ ?side1 ?side2 ?side3 ?side4 A25.out).mono ?_); (case side1 => repeat (first | exact (Kd.C_below HR0.out HB.out) | (with_reducible refine Kd.C_alloc ?_ _) | (with_reducible refine Kd.C_drewN ?_ _) | (with_reducible refine Kd.C_drew ?_))); (case side2 => exact HC0.out); (case side3 => repeat (first | exact (Kd.C_below HR2.out HB.out) | (with_reducible refine Kd.C_alloc ?_ _) | (with_reducible refine Kd.C_drewN ?_ _) | (with_reducible refine Kd.C_drew ?_))); (case side4 => exact HC2.out); rintro e w28 ⟨v802, v804, rfl, ho0, ho1, hb⟩; refine ⟨_, rfl, ?_⟩; have n0_ := Aside0.mk (Kd.R_elder' (rR_ HO797.out) (Kd.R_base ho0) hb); have n1_ := Aside0.mk (Kd.S_elder' (by (with_reducible repeat (first | apply Kd.S_alloc | apply Kd.S_drewN | apply Kd.S_drew)); exact HO799.out) (Kd.S_base ho1) hb); have n2_ := Aside0.mk (Kd.R_lower (Kd.R_new' ho0 (Kd.R_lt (rR_ HO797.out))) (below_size bB_)); have n3_ := Aside0.mk (Kd.S_lower (Kd.S_new' ho1 (Kd.S_lt (by (with_reducible repeat (first | apply Kd.S_alloc | apply Kd.S_drewN | apply Kd.S_drew)); exact HO799.out))) (below_size bB_)); have n4_ := Aside0.mk (below_step bB_ hb); clear HO797; clear HO799; clear HB; have HO797 := n0_; have HO799 := n1_; have HO803 := n2_; have HO805 := n3_; have HB := n4_; clear n0_ n1_ n2_ n3_ n4_; (try clear hb); (try clear hb2); (try clear hk); (try clear hi); (try clear ho0); (try clear ho1)))
    (try simp only [Act.put, List.setIfInBounds_toArray, List.set_cons_zero, List.set_cons_succ])
    go_cut [62] (fun v62 wc => ∃ (kq : Nat) (x62_25 : Bool), v62 = .bool x62_25 ∧ Aside0 (folkmootlaw08_TxnReads.j1 kq l0 t794 t795 t800 t801 x62_25 = some r) ∧ Aside0 (kq ≤ kj3) ∧ Aside0 (Kd.R k69 69 wc w.heap.size (fun k_ => some k_ ≠ (v802 : Value).ownBlock) v796 t794) ∧ Aside0 (Kd.S k65 65 wc w.heap.size (fun k_ => some k_ ≠ (v804 : Value).ownBlock) v798 t795) ∧ Aside0 (Kd.R k69 69 wc w.heap.size (fun k_ => some k_ ≠ (v796 : Value).ownBlock) v802 t800) ∧ Aside0 (Kd.S k65 65 wc w.heap.size (fun k_ => some k_ ≠ (v798 : Value).ownBlock) v804 t801) ∧ Aside0 (Below w.heap.size w wc))
    case first =>
     have H := HC26.out
     clear HC26
     replace H := Option.bind_eq_some_iff.mp H
     obtain ⟨t806, A290, H⟩ := H
     replace H : (if (t806.length : Int) = 0 then (if (t794.length : Int) = 0 then (folkmootlaw08_TxnReads.j1 kj3 l0 t794 t795 t800 t801 ((t800.length : Int) != 0)) else (folkmootlaw08_TxnReads.j1 kj3 l0 t794 t795 t800 t801 true)) else (folkmootlaw08_TxnReads.j1 kj3 l0 t794 t795 t800 t801 false)) = some r := H
     have A29 := Aside0.mk A290
     clear A290
     by_cases c30 : (t806.length : Int) = 0
     ·rw [if_pos c30] at H
      have c30b0 : ((t806.length : Int) == 0) = true := beq_iff_eq.mpr c30
      have c30b1 : ((t806.length : Int) != 0) = false := bne_eq_false_iff_eq.mpr c30
      clear c30
      (first | rw [c30b0] | (simp only [i64_w, i32_w]; rw [c30b0]) | skip)
      by_cases c31 : (t794.length : Int) = 0
      ·rw [if_pos c31] at H
       have c31b0 : ((t794.length : Int) == 0) = true := beq_iff_eq.mpr c31
       have c31b1 : ((t794.length : Int) != 0) = false := bne_eq_false_iff_eq.mpr c31
       clear c31
       have H' := Aside0.mk H
       clear H
       go_wp2_with (first | ((with_reducible refine gate_callee (f := 39) rfl ?_); refine goesL_ (some 50) rfl rfl Tryz.func39 (by kernel_rfl) rfl #[.slice A0 l0.length c0] rfl (by (try simp only [List.map_toArray, List.map_cons, List.map_nil]); first | done | rfl | (simp only [List.length_drop, List.length_take]; rfl)) ?_; (with_reducible refine (txn_Writes.calls kj3 _ _ l0 t806 _ ?side1 ?side2 A29.out).mono ?_); (case side1 => repeat (first | exact (Kd.C_below HR0.out HB.out) | (with_reducible refine Kd.C_alloc ?_ _) | (with_reducible refine Kd.C_drewN ?_ _) | (with_reducible refine Kd.C_drew ?_))); (case side2 => exact HC0.out); rintro e w32 ⟨v807, rfl, ho0, hb⟩; refine ⟨_, rfl, ?_⟩; have n0_ := Aside0.mk (Kd.R_below (rR_ HO797.out) hb); have n1_ := Aside0.mk (Kd.S_below (by (with_reducible repeat (first | apply Kd.S_alloc | apply Kd.S_drewN | apply Kd.S_drew)); exact HO799.out) hb); have n2_ := Aside0.mk (Kd.R_below (rR_ HO803.out) hb); have n3_ := Aside0.mk (Kd.S_below (by (with_reducible repeat (first | apply Kd.S_alloc | apply Kd.S_drewN | apply Kd.S_drew)); exact HO805.out) hb); have n4_ := Aside0.mk (Kd.R_lower ho0 (below_size bB_)); have n5_ := Aside0.mk (below_step bB_ hb); clear HO797; clear HO799; clear HO803; clear HO805; clear HB; have HO797 := n0_; have HO799 := n1_; have HO803 := n2_; have HO805 := n3_; have HO808 := n4_; have HB := n5_; clear n0_ n1_ n2_ n3_ n4_ n5_; (try clear hb); (try clear hb2); (try clear hk); (try clear hi); (try clear ho0); obtain ⟨Ao33, co33, eo33⟩ := Kd.R_slice HO808.out; subst eo33; obtain ⟨Ao34, co34, eo34⟩ := Kd.R_slice HO797.out; subst eo34; obtain ⟨Ao35, co35, eo35⟩ := Kd.R_slice HO803.out; subst eo35))
       first
       | (go_meet; case rel => exact ⟨_, (((t800.length : Int) != 0)), (by first | rfl | (rw [bl_gt] <;> rfl) | (simp; done) | (simp [*]; done)), H', ⟨by have := HJ3.out; first | omega | exact Nat.le_refl _⟩, ⟨by (with_reducible repeat (first | apply Kd.R_alloc | apply Kd.R_drewN | apply Kd.R_drew)); exact Kd.R_mono HO797.out (fun _ hk => hk.2)⟩, ⟨by (with_reducible repeat (first | apply Kd.S_alloc | apply Kd.S_drewN | apply Kd.S_drew)); exact Kd.S_mono HO799.out (fun _ hk => hk.2)⟩, ⟨by (with_reducible repeat (first | apply Kd.R_alloc | apply Kd.R_drewN | apply Kd.R_drew)); exact Kd.R_mono HO803.out (fun _ hk => hk.2)⟩, ⟨by (with_reducible repeat (first | apply Kd.S_alloc | apply Kd.S_drewN | apply Kd.S_drew)); exact Kd.S_mono HO805.out (fun _ hk => hk.2)⟩, ⟨bB_⟩⟩)
       | (refine Met.intro ?_; go_step; (repeat apply Exists.intro); refine ⟨?_, ?_⟩; rotate_left; (focus (simp only [c30b0, c31b0]; try rfl)); exact ⟨_, (((t800.length : Int) != 0)), (by first | rfl | (rw [bl_gt] <;> rfl) | (simp; done) | (simp [*]; done)), H', ⟨by have := HJ3.out; first | omega | exact Nat.le_refl _⟩, ⟨by (with_reducible repeat (first | apply Kd.R_alloc | apply Kd.R_drewN | apply Kd.R_drew)); exact Kd.R_mono HO797.out (fun _ hk => hk.2)⟩, ⟨by (with_reducible repeat (first | apply Kd.S_alloc | apply Kd.S_drewN | apply Kd.S_drew)); exact Kd.S_mono HO799.out (fun _ hk => hk.2)⟩, ⟨by (with_reducible repeat (first | apply Kd.R_alloc | apply Kd.R_drewN | apply Kd.R_drew)); exact Kd.R_mono HO803.out (fun _ hk => hk.2)⟩, ⟨by (with_reducible repeat (first | apply Kd.S_alloc | apply Kd.S_drewN | apply Kd.S_drew)); exact Kd.S_mono HO805.out (fun _ hk => hk.2)⟩, ⟨bB_⟩⟩)
      ·rw [if_neg c31] at H
       have c31b0 : ((t794.length : Int) == 0) = false := beq_eq_false_iff_ne.mpr c31
       have c31b1 : ((t794.length : Int) != 0) = true := bne_iff_ne.mpr c31
       have c31b2 : ¬ (t794 = []) := fun h_ => c31 (by rw [h_]; rfl)
       have H' := Aside0.mk H
       clear H
       go_wp2_with (first | ((with_reducible refine gate_callee (f := 39) rfl ?_); refine goesL_ (some 50) rfl rfl Tryz.func39 (by kernel_rfl) rfl #[.slice A0 l0.length c0] rfl (by (try simp only [List.map_toArray, List.map_cons, List.map_nil]); first | done | rfl | (simp only [List.length_drop, List.length_take]; rfl)) ?_; (with_reducible refine (txn_Writes.calls kj3 _ _ l0 t806 _ ?side1 ?side2 A29.out).mono ?_); (case side1 => repeat (first | exact (Kd.C_below HR0.out HB.out) | (with_reducible refine Kd.C_alloc ?_ _) | (with_reducible refine Kd.C_drewN ?_ _) | (with_reducible refine Kd.C_drew ?_))); (case side2 => exact HC0.out); rintro e w36 ⟨v807, rfl, ho0, hb⟩; refine ⟨_, rfl, ?_⟩; have n0_ := Aside0.mk (Kd.R_below (rR_ HO797.out) hb); have n1_ := Aside0.mk (Kd.S_below (by (with_reducible repeat (first | apply Kd.S_alloc | apply Kd.S_drewN | apply Kd.S_drew)); exact HO799.out) hb); have n2_ := Aside0.mk (Kd.R_below (rR_ HO803.out) hb); have n3_ := Aside0.mk (Kd.S_below (by (with_reducible repeat (first | apply Kd.S_alloc | apply Kd.S_drewN | apply Kd.S_drew)); exact HO805.out) hb); have n4_ := Aside0.mk (Kd.R_lower ho0 (below_size bB_)); have n5_ := Aside0.mk (below_step bB_ hb); clear HO797; clear HO799; clear HO803; clear HO805; clear HB; have HO797 := n0_; have HO799 := n1_; have HO803 := n2_; have HO805 := n3_; have HO808 := n4_; have HB := n5_; clear n0_ n1_ n2_ n3_ n4_ n5_; (try clear hb); (try clear hb2); (try clear hk); (try clear hi); (try clear ho0); obtain ⟨Ao37, co37, eo37⟩ := Kd.R_slice HO808.out; subst eo37; obtain ⟨Ao38, co38, eo38⟩ := Kd.R_slice HO797.out; subst eo38))
       first
       | (go_meet; case rel => exact ⟨_, (true), (by first | rfl | (rw [bl_gt] <;> rfl) | (simp; done) | (simp [*]; done)), H', ⟨by have := HJ3.out; first | omega | exact Nat.le_refl _⟩, ⟨by (with_reducible repeat (first | apply Kd.R_alloc | apply Kd.R_drewN | apply Kd.R_drew)); exact Kd.R_mono HO797.out (fun _ hk => hk.2)⟩, ⟨by (with_reducible repeat (first | apply Kd.S_alloc | apply Kd.S_drewN | apply Kd.S_drew)); exact Kd.S_mono HO799.out (fun _ hk => hk.2)⟩, ⟨by (with_reducible repeat (first | apply Kd.R_alloc | apply Kd.R_drewN | apply Kd.R_drew)); exact Kd.R_mono HO803.out (fun _ hk => hk.2)⟩, ⟨by (with_reducible repeat (first | apply Kd.S_alloc | apply Kd.S_drewN | apply Kd.S_drew)); exact Kd.S_mono HO805.out (fun _ hk => hk.2)⟩, ⟨bB_⟩⟩)
       | (refine Met.intro ?_; go_step; (repeat apply Exists.intro); refine ⟨?_, ?_⟩; rotate_left; (focus (simp only [c30b0, c31b0]; try rfl)); exact ⟨_, (true), (by first | rfl | (rw [bl_gt] <;> rfl) | (simp; done) | (simp [*]; done)), H', ⟨by have := HJ3.out; first | omega | exact Nat.le_refl _⟩, ⟨by (with_reducible repeat (first | apply Kd.R_alloc | apply Kd.R_drewN | apply Kd.R_drew)); exact Kd.R_mono HO797.out (fun _ hk => hk.2)⟩, ⟨by (with_reducible repeat (first | apply Kd.S_alloc | apply Kd.S_drewN | apply Kd.S_drew)); exact Kd.S_mono HO799.out (fun _ hk => hk.2)⟩, ⟨by (with_reducible repeat (first | apply Kd.R_alloc | apply Kd.R_drewN | apply Kd.R_drew)); exact Kd.R_mono HO803.out (fun _ hk => hk.2)⟩, ⟨by (with_reducible repeat (first | apply Kd.S_alloc | apply Kd.S_drewN | apply Kd.S_drew)); exact Kd.S_mono HO805.out (fun _ hk => hk.2)⟩, ⟨bB_⟩⟩)
     ·rw [if_neg c30] at H
      have c30b0 : ((t806.length : Int) == 0) = false := beq_eq_false_iff_ne.mpr c30
      have c30b1 : ((t806.length : Int) != 0) = true := bne_iff_ne.mpr c30
      have c30b2 : ¬ (t806 = []) := fun h_ => c30 (by rw [h_]; rfl)
      (first | rw [c30b0] | (simp only [i64_w, i32_w]; rw [c30b0]) | skip)
      have H' := Aside0.mk H
      clear H
      go_wp2_with (first | ((with_reducible refine gate_callee (f := 39) rfl ?_); refine goesL_ (some 50) rfl rfl Tryz.func39 (by kernel_rfl) rfl #[.slice A0 l0.length c0] rfl (by (try simp only [List.map_toArray, List.map_cons, List.map_nil]); first | done | rfl | (simp only [List.length_drop, List.length_take]; rfl)) ?_; (with_reducible refine (txn_Writes.calls kj3 _ _ l0 t806 _ ?side1 ?side2 A29.out).mono ?_); (case side1 => repeat (first | exact (Kd.C_below HR0.out HB.out) | (with_reducible refine Kd.C_alloc ?_ _) | (with_reducible refine Kd.C_drewN ?_ _) | (with_reducible refine Kd.C_drew ?_))); (case side2 => exact HC0.out); rintro e w39 ⟨v807, rfl, ho0, hb⟩; refine ⟨_, rfl, ?_⟩; have n0_ := Aside0.mk (Kd.R_below (rR_ HO797.out) hb); have n1_ := Aside0.mk (Kd.S_below (by (with_reducible repeat (first | apply Kd.S_alloc | apply Kd.S_drewN | apply Kd.S_drew)); exact HO799.out) hb); have n2_ := Aside0.mk (Kd.R_below (rR_ HO803.out) hb); have n3_ := Aside0.mk (Kd.S_below (by (with_reducible repeat (first | apply Kd.S_alloc | apply Kd.S_drewN | apply Kd.S_drew)); exact HO805.out) hb); have n4_ := Aside0.mk (Kd.R_lower ho0 (below_size bB_)); have n5_ := Aside0.mk (below_step bB_ hb); clear HO797; clear HO799; clear HO803; clear HO805; clear HB; have HO797 := n0_; have HO799 := n1_; have HO803 := n2_; have HO805 := n3_; have HO808 := n4_; have HB := n5_; clear n0_ n1_ n2_ n3_ n4_ n5_; (try clear hb); (try clear hb2); (try clear hk); (try clear hi); (try clear ho0); obtain ⟨Ao40, co40, eo40⟩ := Kd.R_slice HO808.out; subst eo40))
      first
      | (go_meet; case rel => exact ⟨_, (false), (by first | rfl | (rw [bl_gt] <;> rfl) | (simp; done) | (simp [*]; done)), H', ⟨by have := HJ3.out; first | omega | exact Nat.le_refl _⟩, ⟨by (with_reducible repeat (first | apply Kd.R_alloc | apply Kd.R_drewN | apply Kd.R_drew)); exact Kd.R_mono HO797.out (fun _ hk => hk.2)⟩, ⟨by (with_reducible repeat (first | apply Kd.S_alloc | apply Kd.S_drewN | apply Kd.S_drew)); exact Kd.S_mono HO799.out (fun _ hk => hk.2)⟩, ⟨by (with_reducible repeat (first | apply Kd.R_alloc | apply Kd.R_drewN | apply Kd.R_drew)); exact Kd.R_mono HO803.out (fun _ hk => hk.2)⟩, ⟨by (with_reducible repeat (first | apply Kd.S_alloc | apply Kd.S_drewN | apply Kd.S_drew)); exact Kd.S_mono HO805.out (fun _ hk => hk.2)⟩, ⟨bB_⟩⟩)
      | (refine Met.intro ?_; go_step; (repeat apply Exists.intro); refine ⟨?_, ?_⟩; rotate_left; (focus (simp only [c30b0]; try rfl)); exact ⟨_, (false), (by first | rfl | (rw [bl_gt] <;> rfl) | (simp; done) | (simp [*]; done)), H', ⟨by have := HJ3.out; first | omega | exact Nat.le_refl _⟩, ⟨by (with_reducible repeat (first | apply Kd.R_alloc | apply Kd.R_drewN | apply Kd.R_drew)); exact Kd.R_mono HO797.out (fun _ hk => hk.2)⟩, ⟨by (with_reducible repeat (first | apply Kd.S_alloc | apply Kd.S_drewN | apply Kd.S_drew)); exact Kd.S_mono HO799.out (fun _ hk => hk.2)⟩, ⟨by (with_reducible repeat (first | apply Kd.R_alloc | apply Kd.R_drewN | apply Kd.R_drew)); exact Kd.R_mono HO803.out (fun _ hk => hk.2)⟩, ⟨by (with_reducible repeat (first | apply Kd.S_alloc | apply Kd.S_drewN | apply Kd.S_drew)); exact Kd.S_mono HO805.out (fun _ hk => hk.2)⟩, ⟨bB_⟩⟩)
    case rest =>
     clear HC26
     try clear c1
     try clear c2
     try clear p2
     try clear c3
     try clear c6
     try clear c8
     try clear c10
     try clear c11
     try clear c11b0
     try clear c11b1
     try clear c13
     try clear c14
     try clear c21
     try clear c26
     try clear c30
     try clear c30b0
     try clear c30b1
     try clear c30b2
     try clear c31
     try clear c31b0
     try clear c31b1
     try clear c31b2
     try clear c39
     try clear p2
     obtain ⟨kq, x62_25, rfl, HA, HJ25, HO_7, HO_8, HO_9, HO_10, HB⟩ := hcut
     cases kq with
     | zero => exact absurd HA.out (by simp [folkmootlaw08_TxnReads.j1])
     | succ kj25 =>
      have H := HA.out
      clear HA
      simp only [folkmootlaw08_TxnReads.j1] at H
      by_cases c41 : x62_25 = true
      ·subst c41
       have H1 : (some false) = some r := by rw [if_pos rfl] at H; exact H
       clear H
       have H := H1
       clear H1
       obtain rfl := Option.some.inj H
       go_wp2
       go_ret
       exact ⟨by first | rfl | (rw [bl_gt] <;> rfl) | (simp [errW_none, errW_some] <;> rfl) | (simp [*, errW_none, errW_some] <;> rfl), bB_⟩
      ·replace c41 := Bool.eq_false_iff.mpr c41
       subst c41
       have H1 : ((txn_Reads.f kj25 l0).bind fun t809 => (if (t809.length : Int) = 0 then ((folkmootref08_Answers.f kj25 t795 t801).bind fun t812 => (if t812 = true then ((folkmootref08_WritesSame.f kj25 t794 t800).bind fun t813 => (folkmootlaw08_TxnReads.j2 kj25 l0 (!t813))) else (folkmootlaw08_TxnReads.j2 kj25 l0 true))) else (folkmootlaw08_TxnReads.j2 kj25 l0 false))) = some r := by rw [if_neg (show ¬ (false = true) by decide)] at H; exact H
       clear H
       have H := H1
       clear H1
       have HC42 := Aside0.mk H
       clear H
       go_upto_region 7 with (fail)
       go_cut [78] (fun v78 wc => ∃ (kq : Nat) (x78_41 : Bool), v78 = .bool x78_41 ∧ Aside0 (folkmootlaw08_TxnReads.j2 kq l0 x78_41 = some r) ∧ Aside0 (kq ≤ kj25) ∧ Aside0 (Below w.heap.size w wc))
       case first =>
        have H := HC42.out
        clear HC42
        replace H := Option.bind_eq_some_iff.mp H
        obtain ⟨t809, A430, H⟩ := H
        replace H : (if (t809.length : Int) = 0 then ((folkmootref08_Answers.f kj25 t795 t801).bind fun t812 => (if t812 = true then ((folkmootref08_WritesSame.f kj25 t794 t800).bind fun t813 => (folkmootlaw08_TxnReads.j2 kj25 l0 (!t813))) else (folkmootlaw08_TxnReads.j2 kj25 l0 true))) else (folkmootlaw08_TxnReads.j2 kj25 l0 false)) = some r := H
        have A43 := Aside0.mk A430
        clear A430
        by_cases c44 : (t809.length : Int) = 0
        ·rw [if_pos c44] at H
         have c44b0 : ((t809.length : Int) == 0) = true := beq_iff_eq.mpr c44
         have c44b1 : ((t809.length : Int) != 0) = false := bne_eq_false_iff_eq.mpr c44
         clear c44
         (first | rw [c44b0] | (simp only [i64_w, i32_w]; rw [c44b0]) | skip)
         replace H := Option.bind_eq_some_iff.mp H
         obtain ⟨t812, A450, H⟩ := H
         replace H : (if t812 = true then ((folkmootref08_WritesSame.f kj25 t794 t800).bind fun t813 => (folkmootlaw08_TxnReads.j2 kj25 l0 (!t813))) else (folkmootlaw08_TxnReads.j2 kj25 l0 true)) = some r := H
         have A45 := Aside0.mk A450
         clear A450
         by_cases c46 : t812 = true
         ·subst c46
          have H1 : ((folkmootref08_WritesSame.f kj25 t794 t800).bind fun t813 => (folkmootlaw08_TxnReads.j2 kj25 l0 (!t813))) = some r := by rw [if_pos rfl] at H; exact H
          clear H
          have H := H1
          clear H1
          replace H := Option.bind_eq_some_iff.mp H
          obtain ⟨t813, A470, H⟩ := H
          replace H : (folkmootlaw08_TxnReads.j2 kj25 l0 (!t813)) = some r := H
          have A47 := Aside0.mk A470
          clear A470
          have H' := Aside0.mk H
          clear H
          go_wp2_with (first | ((with_reducible refine gate_callee (f := 38) rfl ?_); refine goesL_ (some 64) rfl rfl Tryz.func38 (by kernel_rfl) rfl #[.slice A0 l0.length c0] rfl (by (try simp only [List.map_toArray, List.map_cons, List.map_nil]); first | done | rfl | (simp only [List.length_drop, List.length_take]; rfl)) ?_; (with_reducible refine (txn_Reads.calls kj25 _ _ l0 t809 _ ?side1 ?side2 A43.out).mono ?_); (case side1 => repeat (first | exact (Kd.C_below HR0.out HB.out) | (with_reducible refine Kd.C_alloc ?_ _) | (with_reducible refine Kd.C_drewN ?_ _) | (with_reducible refine Kd.C_drew ?_))); (case side2 => exact HC0.out); rintro e w48 ⟨v810, rfl, ho0, hb⟩; refine ⟨_, rfl, ?_⟩; have n0_ := Aside0.mk (Kd.R_below (rR_ HO_7.out) hb); have n1_ := Aside0.mk (Kd.S_below (by (with_reducible repeat (first | apply Kd.S_alloc | apply Kd.S_drewN | apply Kd.S_drew)); exact HO_8.out) hb); have n2_ := Aside0.mk (Kd.R_below (rR_ HO_9.out) hb); have n3_ := Aside0.mk (Kd.S_below (by (with_reducible repeat (first | apply Kd.S_alloc | apply Kd.S_drewN | apply Kd.S_drew)); exact HO_10.out) hb); have n4_ := Aside0.mk (Kd.R_lower ho0 (below_size bB_)); have n5_ := Aside0.mk (below_step bB_ hb); clear HO_7; clear HO_8; clear HO_9; clear HO_10; clear HB; have HO_7 := n0_; have HO_8 := n1_; have HO_9 := n2_; have HO_10 := n3_; have HO811 := n4_; have HB := n5_; clear n0_ n1_ n2_ n3_ n4_ n5_; (try clear hb); (try clear hb2); (try clear hk); (try clear hi); (try clear ho0); obtain ⟨Ao49, co49, eo49⟩ := Kd.R_slice HO811.out; subst eo49; obtain ⟨Ao50, co50, eo50⟩ := Kd.S_slice HO_8.out; subst eo50; obtain ⟨Ao51, co51, eo51⟩ := Kd.S_slice HO_10.out; subst eo51) | (go_at_call 30; (with_reducible refine (folkmootref08_Answers.calls kj25 _ _ t795 _ _ t801 true _ ?side1 ?side2 ?side3 ?side4 A45.out).mono ?_); (case side1 => repeat (first | exact (Kd.S_reads' HO_8.out).2.2 | (with_reducible refine Kd.C_alloc ?_ _) | (with_reducible refine Kd.C_drewN ?_ _) | (with_reducible refine Kd.C_drew ?_))); (case side2 => exact (Kd.S_reads' HO_8.out).2.1); (case side3 => repeat (first | exact (Kd.S_reads' HO_10.out).2.2 | (with_reducible refine Kd.C_alloc ?_ _) | (with_reducible refine Kd.C_drewN ?_ _) | (with_reducible refine Kd.C_drew ?_))); (case side4 => exact (Kd.S_reads' HO_10.out).2.1); rintro e w52 ⟨rfl, hb⟩; have n0_ := Aside0.mk (Kd.R_below (rR_ HO_7.out) hb); have n1_ := Aside0.mk (Kd.S_below (by (with_reducible repeat (first | apply Kd.S_alloc | apply Kd.S_drewN | apply Kd.S_drew)); exact HO_8.out) hb); have n2_ := Aside0.mk (Kd.R_below (rR_ HO_9.out) hb); have n3_ := Aside0.mk (Kd.S_below (by (with_reducible repeat (first | apply Kd.S_alloc | apply Kd.S_drewN | apply Kd.S_drew)); exact HO_10.out) hb); have n4_ := Aside0.mk (Kd.R_below (rR_ HO811.out) hb); have n5_ := Aside0.mk (below_step bB_ hb); clear HO_7; clear HO_8; clear HO_9; clear HO_10; clear HO811; clear HB; have HO_7 := n0_; have HO_8 := n1_; have HO_9 := n2_; have HO_10 := n3_; have HO811 := n4_; have HB := n5_; clear n0_ n1_ n2_ n3_ n4_ n5_; (try clear hb); (try clear hb2); (try clear hk); (try clear hi); obtain ⟨Ao53, co53, eo53⟩ := Kd.R_slice HO_7.out; subst eo53; obtain ⟨Ao54, co54, eo54⟩ := Kd.R_slice HO_9.out; subst eo54) | (go_at_call 29; (with_reducible refine (folkmootref08_WritesSame.calls kj25 _ _ t794 _ _ t800 t813 _ ?side1 ?side2 ?side3 ?side4 A47.out).mono ?_); (case side1 => repeat (first | exact (Kd.R_reads' HO_7.out).2.2 | (with_reducible refine Kd.C_alloc ?_ _) | (with_reducible refine Kd.C_drewN ?_ _) | (with_reducible refine Kd.C_drew ?_))); (case side2 => exact (Kd.R_reads' HO_7.out).2.1); (case side3 => repeat (first | exact (Kd.R_reads' HO_9.out).2.2 | (with_reducible refine Kd.C_alloc ?_ _) | (with_reducible refine Kd.C_drewN ?_ _) | (with_reducible refine Kd.C_drew ?_))); (case side4 => exact (Kd.R_reads' HO_9.out).2.1); rintro e w' ⟨rfl, ⟨nd, rfl⟩⟩))
          first
          | (go_meet; case rel => exact ⟨_, (!t813), (by first | rfl | (rw [bl_gt] <;> rfl) | (simp; done) | (simp [*]; done)), H', ⟨by have := HJ3.out; have := HJ25.out; first | omega | exact Nat.le_refl _⟩, ⟨bB_⟩⟩)
          | (refine Met.intro ?_; go_step; (repeat apply Exists.intro); refine ⟨?_, ?_⟩; rotate_left; (focus (simp only [c44b0]; try rfl)); exact ⟨_, (!t813), (by first | rfl | (rw [bl_gt] <;> rfl) | (simp; done) | (simp [*]; done)), H', ⟨by have := HJ3.out; have := HJ25.out; first | omega | exact Nat.le_refl _⟩, ⟨bB_⟩⟩)
         ·replace c46 := Bool.eq_false_iff.mpr c46
          subst c46
          have H1 : (folkmootlaw08_TxnReads.j2 kj25 l0 true) = some r := by rw [if_neg (show ¬ (false = true) by decide)] at H; exact H
          clear H
          have H := H1
          clear H1
          have H' := Aside0.mk H
          clear H
          go_wp2_with (first | ((with_reducible refine gate_callee (f := 38) rfl ?_); refine goesL_ (some 64) rfl rfl Tryz.func38 (by kernel_rfl) rfl #[.slice A0 l0.length c0] rfl (by (try simp only [List.map_toArray, List.map_cons, List.map_nil]); first | done | rfl | (simp only [List.length_drop, List.length_take]; rfl)) ?_; (with_reducible refine (txn_Reads.calls kj25 _ _ l0 t809 _ ?side1 ?side2 A43.out).mono ?_); (case side1 => repeat (first | exact (Kd.C_below HR0.out HB.out) | (with_reducible refine Kd.C_alloc ?_ _) | (with_reducible refine Kd.C_drewN ?_ _) | (with_reducible refine Kd.C_drew ?_))); (case side2 => exact HC0.out); rintro e w55 ⟨v810, rfl, ho0, hb⟩; refine ⟨_, rfl, ?_⟩; have n0_ := Aside0.mk (Kd.R_below (rR_ HO_7.out) hb); have n1_ := Aside0.mk (Kd.S_below (by (with_reducible repeat (first | apply Kd.S_alloc | apply Kd.S_drewN | apply Kd.S_drew)); exact HO_8.out) hb); have n2_ := Aside0.mk (Kd.R_below (rR_ HO_9.out) hb); have n3_ := Aside0.mk (Kd.S_below (by (with_reducible repeat (first | apply Kd.S_alloc | apply Kd.S_drewN | apply Kd.S_drew)); exact HO_10.out) hb); have n4_ := Aside0.mk (Kd.R_lower ho0 (below_size bB_)); have n5_ := Aside0.mk (below_step bB_ hb); clear HO_7; clear HO_8; clear HO_9; clear HO_10; clear HB; have HO_7 := n0_; have HO_8 := n1_; have HO_9 := n2_; have HO_10 := n3_; have HO811 := n4_; have HB := n5_; clear n0_ n1_ n2_ n3_ n4_ n5_; (try clear hb); (try clear hb2); (try clear hk); (try clear hi); (try clear ho0); obtain ⟨Ao56, co56, eo56⟩ := Kd.R_slice HO811.out; subst eo56; obtain ⟨Ao57, co57, eo57⟩ := Kd.S_slice HO_8.out; subst eo57; obtain ⟨Ao58, co58, eo58⟩ := Kd.S_slice HO_10.out; subst eo58) | (go_at_call 30; (with_reducible refine (folkmootref08_Answers.calls kj25 _ _ t795 _ _ t801 false _ ?side1 ?side2 ?side3 ?side4 A45.out).mono ?_); (case side1 => repeat (first | exact (Kd.S_reads' HO_8.out).2.2 | (with_reducible refine Kd.C_alloc ?_ _) | (with_reducible refine Kd.C_drewN ?_ _) | (with_reducible refine Kd.C_drew ?_))); (case side2 => exact (Kd.S_reads' HO_8.out).2.1); (case side3 => repeat (first | exact (Kd.S_reads' HO_10.out).2.2 | (with_reducible refine Kd.C_alloc ?_ _) | (with_reducible refine Kd.C_drewN ?_ _) | (with_reducible refine Kd.C_drew ?_))); (case side4 => exact (Kd.S_reads' HO_10.out).2.1); rintro e w59 ⟨rfl, hb⟩; have n0_ := Aside0.mk (Kd.R_below (rR_ HO_7.out) hb); have n1_ := Aside0.mk (Kd.S_below (by (with_reducible repeat (first | apply Kd.S_alloc | apply Kd.S_drewN | apply Kd.S_drew)); exact HO_8.out) hb); have n2_ := Aside0.mk (Kd.R_below (rR_ HO_9.out) hb); have n3_ := Aside0.mk (Kd.S_below (by (with_reducible repeat (first | apply Kd.S_alloc | apply Kd.S_drewN | apply Kd.S_drew)); exact HO_10.out) hb); have n4_ := Aside0.mk (Kd.R_below (rR_ HO811.out) hb); have n5_ := Aside0.mk (below_step bB_ hb); clear HO_7; clear HO_8; clear HO_9; clear HO_10; clear HO811; clear HB; have HO_7 := n0_; have HO_8 := n1_; have HO_9 := n2_; have HO_10 := n3_; have HO811 := n4_; have HB := n5_; clear n0_ n1_ n2_ n3_ n4_ n5_; (try clear hb); (try clear hb2); (try clear hk); (try clear hi)))
          first
          | (go_meet; case rel => exact ⟨_, (true), (by first | rfl | (rw [bl_gt] <;> rfl) | (simp; done) | (simp [*]; done)), H', ⟨by have := HJ3.out; have := HJ25.out; first | omega | exact Nat.le_refl _⟩, ⟨bB_⟩⟩)
          | (refine Met.intro ?_; go_step; (repeat apply Exists.intro); refine ⟨?_, ?_⟩; rotate_left; (focus (simp only [c44b0]; try rfl)); exact ⟨_, (true), (by first | rfl | (rw [bl_gt] <;> rfl) | (simp; done) | (simp [*]; done)), H', ⟨by have := HJ3.out; have := HJ25.out; first | omega | exact Nat.le_refl _⟩, ⟨bB_⟩⟩)
        ·rw [if_neg c44] at H
         have c44b0 : ((t809.length : Int) == 0) = false := beq_eq_false_iff_ne.mpr c44
         have c44b1 : ((t809.length : Int) != 0) = true := bne_iff_ne.mpr c44
         have c44b2 : ¬ (t809 = []) := fun h_ => c44 (by rw [h_]; rfl)
         (first | rw [c44b0] | (simp only [i64_w, i32_w]; rw [c44b0]) | skip)
         have H' := Aside0.mk H
         clear H
         go_wp2_with (first | ((with_reducible refine gate_callee (f := 38) rfl ?_); refine goesL_ (some 64) rfl rfl Tryz.func38 (by kernel_rfl) rfl #[.slice A0 l0.length c0] rfl (by (try simp only [List.map_toArray, List.map_cons, List.map_nil]); first | done | rfl | (simp only [List.length_drop, List.length_take]; rfl)) ?_; (with_reducible refine (txn_Reads.calls kj25 _ _ l0 t809 _ ?side1 ?side2 A43.out).mono ?_); (case side1 => repeat (first | exact (Kd.C_below HR0.out HB.out) | (with_reducible refine Kd.C_alloc ?_ _) | (with_reducible refine Kd.C_drewN ?_ _) | (with_reducible refine Kd.C_drew ?_))); (case side2 => exact HC0.out); rintro e w60 ⟨v810, rfl, ho0, hb⟩; refine ⟨_, rfl, ?_⟩; have n0_ := Aside0.mk (Kd.R_below (rR_ HO_7.out) hb); have n1_ := Aside0.mk (Kd.S_below (by (with_reducible repeat (first | apply Kd.S_alloc | apply Kd.S_drewN | apply Kd.S_drew)); exact HO_8.out) hb); have n2_ := Aside0.mk (Kd.R_below (rR_ HO_9.out) hb); have n3_ := Aside0.mk (Kd.S_below (by (with_reducible repeat (first | apply Kd.S_alloc | apply Kd.S_drewN | apply Kd.S_drew)); exact HO_10.out) hb); have n4_ := Aside0.mk (Kd.R_lower ho0 (below_size bB_)); have n5_ := Aside0.mk (below_step bB_ hb); clear HO_7; clear HO_8; clear HO_9; clear HO_10; clear HB; have HO_7 := n0_; have HO_8 := n1_; have HO_9 := n2_; have HO_10 := n3_; have HO811 := n4_; have HB := n5_; clear n0_ n1_ n2_ n3_ n4_ n5_; (try clear hb); (try clear hb2); (try clear hk); (try clear hi); (try clear ho0); obtain ⟨Ao61, co61, eo61⟩ := Kd.R_slice HO811.out; subst eo61))
         first
         | (go_meet; case rel => exact ⟨_, (false), (by first | rfl | (rw [bl_gt] <;> rfl) | (simp; done) | (simp [*]; done)), H', ⟨by have := HJ3.out; have := HJ25.out; first | omega | exact Nat.le_refl _⟩, ⟨bB_⟩⟩)
         | (refine Met.intro ?_; go_step; (repeat apply Exists.intro); refine ⟨?_, ?_⟩; rotate_left; (focus (simp only [c44b0]; try rfl)); exact ⟨_, (false), (by first | rfl | (rw [bl_gt] <;> rfl) | (simp; done) | (simp [*]; done)), H', ⟨by have := HJ3.out; have := HJ25.out; first | omega | exact Nat.le_refl _⟩, ⟨bB_⟩⟩)
       case rest =>
        clear HC42
        try clear c1
        try clear c2
        try clear p2
        try clear c3
        try clear c4
        try clear c6
        try clear c8
        try clear c10
        try clear c11
        try clear c11b0
        try clear c11b1
        try clear c13
        try clear c14
        try clear c21
        try clear c26
        try clear c30
        try clear c30b0
        try clear c30b1
        try clear c30b2
        try clear c31
        try clear c31b0
        try clear c31b1
        try clear c31b2
        try clear c38
        try clear c39
        try clear c41
        try clear c44
        try clear c44b0
        try clear c44b1
        try clear c44b2
        try clear c46
        try clear p2
        obtain ⟨kq, x78_41, rfl, HA, HJ41, HB⟩ := hcut
        cases kq with
        | zero => exact absurd HA.out (by simp [folkmootlaw08_TxnReads.j2])
        | succ kj41 =>
         have H := HA.out
         clear HA
         simp only [folkmootlaw08_TxnReads.j2] at H
         by_cases c62 : x78_41 = true
         ·subst c62
          have H1 : (some false) = some r := by rw [if_pos rfl] at H; exact H
          clear H
          have H := H1
          clear H1
          obtain rfl := Option.some.inj H
          go_wp2
          go_ret
          exact ⟨by first | rfl | (rw [bl_gt] <;> rfl) | (simp [errW_none, errW_some] <;> rfl) | (simp [*, errW_none, errW_some] <;> rfl), bB_⟩
         ·replace c62 := Bool.eq_false_iff.mpr c62
          subst c62
          have H1 : ((txn_Reads.f kj41 l0).bind fun t814 => ((txn_Writes.f kj41 l0).bind fun t817 => (if t814.length + t817.length < 4398046511104 then ((folkmootref03_Union.f kj41 (t814 ++ t817)).bind fun t823 => ((txn_All.f kj41 l0).bind fun t826 => ((folkmootref03_Same.f kj41 t823 t826).bind fun t829 => (if t829 = true then ((folkmootlaw08_live.f).bind fun t830 => (some t830)) else (some false))))) else (none)))) = some r := by rw [if_neg (show ¬ (false = true) by decide)] at H; exact H
          clear H
          have H := H1
          clear H1
          replace H := Option.bind_eq_some_iff.mp H
          obtain ⟨t814, A630, H⟩ := H
          replace H : ((txn_Writes.f kj41 l0).bind fun t817 => (if t814.length + t817.length < 4398046511104 then ((folkmootref03_Union.f kj41 (t814 ++ t817)).bind fun t823 => ((txn_All.f kj41 l0).bind fun t826 => ((folkmootref03_Same.f kj41 t823 t826).bind fun t829 => (if t829 = true then ((folkmootlaw08_live.f).bind fun t830 => (some t830)) else (some false))))) else (none))) = some r := H
          have A63 := Aside0.mk A630
          clear A630
          replace H := Option.bind_eq_some_iff.mp H
          obtain ⟨t817, A640, H⟩ := H
          replace H : (if t814.length + t817.length < 4398046511104 then ((folkmootref03_Union.f kj41 (t814 ++ t817)).bind fun t823 => ((txn_All.f kj41 l0).bind fun t826 => ((folkmootref03_Same.f kj41 t823 t826).bind fun t829 => (if t829 = true then ((folkmootlaw08_live.f).bind fun t830 => (some t830)) else (some false))))) else (none)) = some r := H
          have A64 := Aside0.mk A640
          clear A640
          by_cases c65 : t814.length + t817.length < 4398046511104
          ·rw [if_pos c65] at H
           have LMc65 := Aside0.mk c65
           clear c65
           obtain ⟨y820, hy820⟩ : ∃ y_ : List (S71), y_ = (t814 ++ t817) := ⟨_, rfl⟩
           replace H : ((folkmootref03_Union.f kj41 y820).bind fun t823 => ((txn_All.f kj41 l0).bind fun t826 => ((folkmootref03_Same.f kj41 t823 t826).bind fun t829 => (if t829 = true then ((folkmootlaw08_live.f).bind fun t830 => (some t830)) else (some false))))) = some r := by first | (rw [hy820]; with_reducible exact H) | (have H2_ := (Option.bind_some _ _).symm.trans H; rw [hy820]; with_reducible exact H2_) | (have H2_ := (Option.bind_some _ _).symm.trans H; with_reducible exact H2_) | with_reducible exact H | (rw [hy820]; exact H) | exact H
           have Ny820 := Aside0.mk hy820
           clear hy820
           replace H := Option.bind_eq_some_iff.mp H
           obtain ⟨t823, A660, H⟩ := H
           replace H : ((txn_All.f kj41 l0).bind fun t826 => ((folkmootref03_Same.f kj41 t823 t826).bind fun t829 => (if t829 = true then ((folkmootlaw08_live.f).bind fun t830 => (some t830)) else (some false)))) = some r := H
           have A66 := Aside0.mk A660
           clear A660
           replace H := Option.bind_eq_some_iff.mp H
           obtain ⟨t826, A670, H⟩ := H
           replace H : ((folkmootref03_Same.f kj41 t823 t826).bind fun t829 => (if t829 = true then ((folkmootlaw08_live.f).bind fun t830 => (some t830)) else (some false))) = some r := H
           have A67 := Aside0.mk A670
           clear A670
           replace H := Option.bind_eq_some_iff.mp H
           obtain ⟨t829, A680, H⟩ := H
           replace H : (if t829 = true then ((folkmootlaw08_live.f).bind fun t830 => (some t830)) else (some false)) = some r := H
           have A68 := Aside0.mk A680
           clear A680
           by_cases c69 : t829 = true
           ·subst c69
            have H1 : ((folkmootlaw08_live.f).bind fun t830 => (some t830)) = some r := by rw [if_pos rfl] at H; exact H
            clear H
            have H := H1
            clear H1
            replace H := Option.bind_eq_some_iff.mp H
            obtain ⟨t830, A700, H⟩ := H
            replace H : (some t830) = some r := H
            have A70 := Aside0.mk A700
            clear A700
            obtain rfl := Option.some.inj H
            go_wp2_with (first | ((with_reducible refine gate_callee (f := 38) rfl ?_); refine goesL_ (some 80) rfl rfl Tryz.func38 (by kernel_rfl) rfl #[.slice A0 l0.length c0] rfl (by (try simp only [List.map_toArray, List.map_cons, List.map_nil]); first | done | rfl | (simp only [List.length_drop, List.length_take]; rfl)) ?_; (with_reducible refine (txn_Reads.calls kj41 _ _ l0 t814 _ ?side1 ?side2 A63.out).mono ?_); (case side1 => repeat (first | exact (Kd.C_below HR0.out HB.out) | (with_reducible refine Kd.C_alloc ?_ _) | (with_reducible refine Kd.C_drewN ?_ _) | (with_reducible refine Kd.C_drew ?_))); (case side2 => exact HC0.out); rintro e w71 ⟨v815, rfl, ho0, hb⟩; refine ⟨_, rfl, ?_⟩; have n0_ := Aside0.mk (Kd.R_lower ho0 (below_size bB_)); have n1_ := Aside0.mk (below_step bB_ hb); clear HB; have HO816 := n0_; have HB := n1_; clear n0_ n1_; (try clear hb); (try clear hb2); (try clear hk); (try clear hi); (try clear ho0)) | ((with_reducible refine gate_callee (f := 39) rfl ?_); refine goesL_ (some 82) rfl rfl Tryz.func39 (by kernel_rfl) rfl #[.slice A0 l0.length c0] rfl (by (try simp only [List.map_toArray, List.map_cons, List.map_nil]); first | done | rfl | (simp only [List.length_drop, List.length_take]; rfl)) ?_; (with_reducible refine (txn_Writes.calls kj41 _ _ l0 t817 _ ?side1 ?side2 A64.out).mono ?_); (case side1 => repeat (first | exact (Kd.C_below HR0.out HB.out) | (with_reducible refine Kd.C_alloc ?_ _) | (with_reducible refine Kd.C_drewN ?_ _) | (with_reducible refine Kd.C_drew ?_))); (case side2 => exact HC0.out); rintro e w72 ⟨v818, rfl, ho0, hb⟩; refine ⟨_, rfl, ?_⟩; have n0_ := Aside0.mk (Kd.R_elder' (rR_ HO816.out) (Kd.R_base ho0) hb); have n1_ := Aside0.mk (Kd.R_lower (Kd.R_new' ho0 (Kd.R_lt (rR_ HO816.out))) (below_size bB_)); have n2_ := Aside0.mk (below_step bB_ hb); clear HO816; clear HB; have HO816 := n0_; have HO819 := n1_; have HB := n2_; clear n0_ n1_ n2_; (try clear hb); (try clear hb2); (try clear hk); (try clear hi); (try clear ho0); obtain ⟨Ao74, co74, eo74⟩ := Kd.R_slice HO819.out; subst eo74) | ((with_reducible refine gate_builtin (b := .append) (xs := #[.tmp 80, .tmp 82]) rfl ?_); (try (refine gate_guard (by rfl) ?_; dsimp only)); at_builtin; refine Kd.R_append_rows k71 (w0 := w) w.heap.size rfl (.tmp 80) (.tmp 82) 40 71 (.agg #[(.string ⟨#[]⟩), (.string ⟨#[]⟩)]) 32 rfl Tryz.underlying40 info71 rfl (by decide) (by omega) v815 t814 t817 _ _ _ (fun k_ => some k_ ≠ (.slice Ao74 t817.length co74 : Value).ownBlock) (fun _ => False) rfl rfl ?aO ?aR (fun _ _ h => h) (fun _ h => h.elim) ?aF ?aB ?aS ?aL ?_; (case aR => repeat (first | exact (Kd.R_reads' HO819.out).2.2 | (with_reducible refine Kd.C_alloc ?_ _) | (with_reducible refine Kd.C_drewN ?_ _) | (with_reducible refine Kd.C_drew ?_))); (case aB => exact bB_); (case aF => exact (fun k_ hk => Kd.fresh' (Kd.R_lt (rR_ HO819.out)) k_ hk)); (case aO => exact (by (with_reducible repeat (first | apply Kd.R_alloc | apply Kd.R_drewN | apply Kd.R_drew)); exact Kd.R_mono HO816.out (fun _ hk => hk.2))); (case aS => exact (below_size bB_)); (case aL => have := LMc65.out; omega); intro v821 w73 ho hb hg hat; rw [← Ny820.out] at ho; have n0_ := Aside0.mk (Kd.R_after (ok := (fun _ => True)) (rR_ HO819.out) hg hat); have n1_ := Aside0.mk (hb); have n2_ := Aside0.mk (ho); clear HO819; clear HB; clear HO816; have HO819 := n0_; have HB := n1_; have HO822 := n2_; clear n0_ n1_ n2_; clear ho hb hg hat; obtain ⟨Ao75, co75, eo75⟩ := Kd.R_slice HO822.out; subst eo75) | ((with_reducible refine gate_callee (f := 25) rfl ?_); refine goesL_ (some 84) rfl rfl Tryz.func25 (by kernel_rfl) rfl #[.slice Ao75 y820.length co75] rfl (by (try simp only [List.map_toArray, List.map_cons, List.map_nil]); first | done | rfl | (simp only [List.length_drop, List.length_take]; rfl)) ?_; (with_reducible refine (folkmootref03_Union.calls kj41 _ _ y820 t823 _ ?side1 ?side2 A66.out).mono ?_); (case side1 => repeat (first | exact (Kd.R_reads' HO822.out).2.2 | (with_reducible refine Kd.C_alloc ?_ _) | (with_reducible refine Kd.C_drewN ?_ _) | (with_reducible refine Kd.C_drew ?_))); (case side2 => exact (Kd.R_reads' HO822.out).2.1); rintro e w76 ⟨v824, rfl, ho0, hb⟩; refine ⟨_, rfl, ?_⟩; have n0_ := Aside0.mk (Kd.R_elder' (rR_ HO819.out) (Kd.R_base ho0) hb); have n1_ := Aside0.mk (Kd.R_elder' (rR_ HO822.out) (Kd.R_base ho0) hb); have n2_ := Aside0.mk (Kd.R_lower (Kd.R_new' (Kd.R_new' ho0 (Kd.R_lt (rR_ HO819.out))) (Kd.R_lt (rR_ HO822.out))) (below_size bB_)); have n3_ := Aside0.mk (below_step bB_ hb); clear HO819; clear HO822; clear HB; have HO819 := n0_; have HO822 := n1_; have HO825 := n2_; have HB := n3_; clear n0_ n1_ n2_ n3_; (try clear hb); (try clear hb2); (try clear hk); (try clear hi); (try clear ho0)) | ((with_reducible refine gate_callee (f := 42) rfl ?_); refine goesL_ (some 86) rfl rfl Tryz.func42 (by kernel_rfl) rfl #[.slice A0 l0.length c0] rfl (by (try simp only [List.map_toArray, List.map_cons, List.map_nil]); first | done | rfl | (simp only [List.length_drop, List.length_take]; rfl)) ?_; (with_reducible refine (txn_All.calls kj41 _ _ l0 t826 _ ?side1 ?side2 A67.out).mono ?_); (case side1 => repeat (first | exact (Kd.C_below HR0.out HB.out) | (with_reducible refine Kd.C_alloc ?_ _) | (with_reducible refine Kd.C_drewN ?_ _) | (with_reducible refine Kd.C_drew ?_))); (case side2 => exact HC0.out); rintro e w77 ⟨v827, rfl, ho0, hb⟩; refine ⟨_, rfl, ?_⟩; have n0_ := Aside0.mk (Kd.R_elder' (rR_ HO819.out) (Kd.R_base ho0) hb); have n1_ := Aside0.mk (Kd.R_elder' (rR_ HO822.out) (Kd.R_base ho0) hb); have n2_ := Aside0.mk (Kd.R_elder' (rR_ HO825.out) (Kd.R_base ho0) hb); have n3_ := Aside0.mk (Kd.R_lower (Kd.R_new' (Kd.R_new' (Kd.R_new' ho0 (Kd.R_lt (rR_ HO819.out))) (Kd.R_lt (rR_ HO822.out))) (Kd.R_lt (rR_ HO825.out))) (below_size bB_)); have n4_ := Aside0.mk (below_step bB_ hb); clear HO819; clear HO822; clear HO825; clear HB; have HO819 := n0_; have HO822 := n1_; have HO825 := n2_; have HO828 := n3_; have HB := n4_; clear n0_ n1_ n2_ n3_ n4_; (try clear hb); (try clear hb2); (try clear hk); (try clear hi); (try clear ho0); obtain ⟨Ao78, co78, eo78⟩ := Kd.R_slice HO825.out; subst eo78; obtain ⟨Ao79, co79, eo79⟩ := Kd.R_slice HO828.out; subst eo79) | ((with_reducible refine gate_callee (f := 41) rfl ?_); refine goesL_ (some 87) rfl rfl Tryz.func41 (by kernel_rfl) rfl #[.slice Ao78 t823.length co78, .slice Ao79 t826.length co79] rfl (by (try simp only [List.map_toArray, List.map_cons, List.map_nil]); first | done | rfl | (simp only [List.length_drop, List.length_take]; rfl)) ?_; (with_reducible refine (folkmootref03_Same.calls kj41 _ _ t823 _ _ t826 true _ ?side1 ?side2 ?side3 ?side4 A68.out).mono ?_); (case side1 => repeat (first | exact (Kd.R_reads' HO825.out).2.2 | (with_reducible refine Kd.C_alloc ?_ _) | (with_reducible refine Kd.C_drewN ?_ _) | (with_reducible refine Kd.C_drew ?_))); (case side2 => exact (Kd.R_reads' HO825.out).2.1); (case side3 => repeat (first | exact (Kd.R_reads' HO828.out).2.2 | (with_reducible refine Kd.C_alloc ?_ _) | (with_reducible refine Kd.C_drewN ?_ _) | (with_reducible refine Kd.C_drew ?_))); (case side4 => exact (Kd.R_reads' HO828.out).2.1); rintro e w' ⟨rfl, ⟨nd, rfl⟩⟩; refine ⟨_, rfl, ?_⟩) | (go_at_call 14; (with_reducible refine (folkmootlaw08_live.calls  t830 _ A70.out).mono ?_); rintro e w80 ⟨rfl, hb⟩; have n0_ := Aside0.mk (Kd.R_below (rR_ HO819.out) hb); have n1_ := Aside0.mk (Kd.R_below (rR_ HO822.out) hb); have n2_ := Aside0.mk (Kd.R_below (rR_ HO825.out) hb); have n3_ := Aside0.mk (Kd.R_below (rR_ HO828.out) hb); have n4_ := Aside0.mk (below_step bB_ hb); clear HO819; clear HO822; clear HO825; clear HO828; clear HB; have HO819 := n0_; have HO822 := n1_; have HO825 := n2_; have HO828 := n3_; have HB := n4_; clear n0_ n1_ n2_ n3_ n4_; (try clear hb); (try clear hb2); (try clear hk); (try clear hi)))
            go_ret
            exact ⟨by first | rfl | (rw [bl_gt] <;> rfl) | (simp [errW_none, errW_some] <;> rfl) | (simp [*, errW_none, errW_some] <;> rfl), bB_⟩
           ·replace c69 := Bool.eq_false_iff.mpr c69
            subst c69
            have H1 : (some false) = some r := by rw [if_neg (show ¬ (false = true) by decide)] at H; exact H
            clear H
            have H := H1
            clear H1
            obtain rfl := Option.some.inj H
            go_wp2_with (first | ((with_reducible refine gate_callee (f := 38) rfl ?_); refine goesL_ (some 80) rfl rfl Tryz.func38 (by kernel_rfl) rfl #[.slice A0 l0.length c0] rfl (by (try simp only [List.map_toArray, List.map_cons, List.map_nil]); first | done | rfl | (simp only [List.length_drop, List.length_take]; rfl)) ?_; (with_reducible refine (txn_Reads.calls kj41 _ _ l0 t814 _ ?side1 ?side2 A63.out).mono ?_); (case side1 => repeat (first | exact (Kd.C_below HR0.out HB.out) | (with_reducible refine Kd.C_alloc ?_ _) | (with_reducible refine Kd.C_drewN ?_ _) | (with_reducible refine Kd.C_drew ?_))); (case side2 => exact HC0.out); rintro e w81 ⟨v815, rfl, ho0, hb⟩; refine ⟨_, rfl, ?_⟩; have n0_ := Aside0.mk (Kd.R_lower ho0 (below_size bB_)); have n1_ := Aside0.mk (below_step bB_ hb); clear HB; have HO816 := n0_; have HB := n1_; clear n0_ n1_; (try clear hb); (try clear hb2); (try clear hk); (try clear hi); (try clear ho0)) | ((with_reducible refine gate_callee (f := 39) rfl ?_); refine goesL_ (some 82) rfl rfl Tryz.func39 (by kernel_rfl) rfl #[.slice A0 l0.length c0] rfl (by (try simp only [List.map_toArray, List.map_cons, List.map_nil]); first | done | rfl | (simp only [List.length_drop, List.length_take]; rfl)) ?_; (with_reducible refine (txn_Writes.calls kj41 _ _ l0 t817 _ ?side1 ?side2 A64.out).mono ?_); (case side1 => repeat (first | exact (Kd.C_below HR0.out HB.out) | (with_reducible refine Kd.C_alloc ?_ _) | (with_reducible refine Kd.C_drewN ?_ _) | (with_reducible refine Kd.C_drew ?_))); (case side2 => exact HC0.out); rintro e w82 ⟨v818, rfl, ho0, hb⟩; refine ⟨_, rfl, ?_⟩; have n0_ := Aside0.mk (Kd.R_elder' (rR_ HO816.out) (Kd.R_base ho0) hb); have n1_ := Aside0.mk (Kd.R_lower (Kd.R_new' ho0 (Kd.R_lt (rR_ HO816.out))) (below_size bB_)); have n2_ := Aside0.mk (below_step bB_ hb); clear HO816; clear HB; have HO816 := n0_; have HO819 := n1_; have HB := n2_; clear n0_ n1_ n2_; (try clear hb); (try clear hb2); (try clear hk); (try clear hi); (try clear ho0); obtain ⟨Ao84, co84, eo84⟩ := Kd.R_slice HO819.out; subst eo84) | ((with_reducible refine gate_builtin (b := .append) (xs := #[.tmp 80, .tmp 82]) rfl ?_); (try (refine gate_guard (by rfl) ?_; dsimp only)); at_builtin; refine Kd.R_append_rows k71 (w0 := w) w.heap.size rfl (.tmp 80) (.tmp 82) 40 71 (.agg #[(.string ⟨#[]⟩), (.string ⟨#[]⟩)]) 32 rfl Tryz.underlying40 info71 rfl (by decide) (by omega) v815 t814 t817 _ _ _ (fun k_ => some k_ ≠ (.slice Ao84 t817.length co84 : Value).ownBlock) (fun _ => False) rfl rfl ?aO ?aR (fun _ _ h => h) (fun _ h => h.elim) ?aF ?aB ?aS ?aL ?_; (case aR => repeat (first | exact (Kd.R_reads' HO819.out).2.2 | (with_reducible refine Kd.C_alloc ?_ _) | (with_reducible refine Kd.C_drewN ?_ _) | (with_reducible refine Kd.C_drew ?_))); (case aB => exact bB_); (case aF => exact (fun k_ hk => Kd.fresh' (Kd.R_lt (rR_ HO819.out)) k_ hk)); (case aO => exact (by (with_reducible repeat (first | apply Kd.R_alloc | apply Kd.R_drewN | apply Kd.R_drew)); exact Kd.R_mono HO816.out (fun _ hk => hk.2))); (case aS => exact (below_size bB_)); (case aL => have := LMc65.out; omega); intro v821 w83 ho hb hg hat; rw [← Ny820.out] at ho; have n0_ := Aside0.mk (Kd.R_after (ok := (fun _ => True)) (rR_ HO819.out) hg hat); have n1_ := Aside0.mk (hb); have n2_ := Aside0.mk (ho); clear HO819; clear HB; clear HO816; have HO819 := n0_; have HB := n1_; have HO822 := n2_; clear n0_ n1_ n2_; clear ho hb hg hat; obtain ⟨Ao85, co85, eo85⟩ := Kd.R_slice HO822.out; subst eo85) | ((with_reducible refine gate_callee (f := 25) rfl ?_); refine goesL_ (some 84) rfl rfl Tryz.func25 (by kernel_rfl) rfl #[.slice Ao85 y820.length co85] rfl (by (try simp only [List.map_toArray, List.map_cons, List.map_nil]); first | done | rfl | (simp only [List.length_drop, List.length_take]; rfl)) ?_; (with_reducible refine (folkmootref03_Union.calls kj41 _ _ y820 t823 _ ?side1 ?side2 A66.out).mono ?_); (case side1 => repeat (first | exact (Kd.R_reads' HO822.out).2.2 | (with_reducible refine Kd.C_alloc ?_ _) | (with_reducible refine Kd.C_drewN ?_ _) | (with_reducible refine Kd.C_drew ?_))); (case side2 => exact (Kd.R_reads' HO822.out).2.1); rintro e w86 ⟨v824, rfl, ho0, hb⟩; refine ⟨_, rfl, ?_⟩; have n0_ := Aside0.mk (Kd.R_elder' (rR_ HO819.out) (Kd.R_base ho0) hb); have n1_ := Aside0.mk (Kd.R_elder' (rR_ HO822.out) (Kd.R_base ho0) hb); have n2_ := Aside0.mk (Kd.R_lower (Kd.R_new' (Kd.R_new' ho0 (Kd.R_lt (rR_ HO819.out))) (Kd.R_lt (rR_ HO822.out))) (below_size bB_)); have n3_ := Aside0.mk (below_step bB_ hb); clear HO819; clear HO822; clear HB; have HO819 := n0_; have HO822 := n1_; have HO825 := n2_; have HB := n3_; clear n0_ n1_ n2_ n3_; (try clear hb); (try clear hb2); (try clear hk); (try clear hi); (try clear ho0)) | ((with_reducible refine gate_callee (f := 42) rfl ?_); refine goesL_ (some 86) rfl rfl Tryz.func42 (by kernel_rfl) rfl #[.slice A0 l0.length c0] rfl (by (try simp only [List.map_toArray, List.map_cons, List.map_nil]); first | done | rfl | (simp only [List.length_drop, List.length_take]; rfl)) ?_; (with_reducible refine (txn_All.calls kj41 _ _ l0 t826 _ ?side1 ?side2 A67.out).mono ?_); (case side1 => repeat (first | exact (Kd.C_below HR0.out HB.out) | (with_reducible refine Kd.C_alloc ?_ _) | (with_reducible refine Kd.C_drewN ?_ _) | (with_reducible refine Kd.C_drew ?_))); (case side2 => exact HC0.out); rintro e w87 ⟨v827, rfl, ho0, hb⟩; refine ⟨_, rfl, ?_⟩; have n0_ := Aside0.mk (Kd.R_elder' (rR_ HO819.out) (Kd.R_base ho0) hb); have n1_ := Aside0.mk (Kd.R_elder' (rR_ HO822.out) (Kd.R_base ho0) hb); have n2_ := Aside0.mk (Kd.R_elder' (rR_ HO825.out) (Kd.R_base ho0) hb); have n3_ := Aside0.mk (Kd.R_lower (Kd.R_new' (Kd.R_new' (Kd.R_new' ho0 (Kd.R_lt (rR_ HO819.out))) (Kd.R_lt (rR_ HO822.out))) (Kd.R_lt (rR_ HO825.out))) (below_size bB_)); have n4_ := Aside0.mk (below_step bB_ hb); clear HO819; clear HO822; clear HO825; clear HB; have HO819 := n0_; have HO822 := n1_; have HO825 := n2_; have HO828 := n3_; have HB := n4_; clear n0_ n1_ n2_ n3_ n4_; (try clear hb); (try clear hb2); (try clear hk); (try clear hi); (try clear ho0); obtain ⟨Ao88, co88, eo88⟩ := Kd.R_slice HO825.out; subst eo88; obtain ⟨Ao89, co89, eo89⟩ := Kd.R_slice HO828.out; subst eo89) | ((with_reducible refine gate_callee (f := 41) rfl ?_); refine goesL_ (some 87) rfl rfl Tryz.func41 (by kernel_rfl) rfl #[.slice Ao88 t823.length co88, .slice Ao89 t826.length co89] rfl (by (try simp only [List.map_toArray, List.map_cons, List.map_nil]); first | done | rfl | (simp only [List.length_drop, List.length_take]; rfl)) ?_; (with_reducible refine (folkmootref03_Same.calls kj41 _ _ t823 _ _ t826 false _ ?side1 ?side2 ?side3 ?side4 A68.out).mono ?_); (case side1 => repeat (first | exact (Kd.R_reads' HO825.out).2.2 | (with_reducible refine Kd.C_alloc ?_ _) | (with_reducible refine Kd.C_drewN ?_ _) | (with_reducible refine Kd.C_drew ?_))); (case side2 => exact (Kd.R_reads' HO825.out).2.1); (case side3 => repeat (first | exact (Kd.R_reads' HO828.out).2.2 | (with_reducible refine Kd.C_alloc ?_ _) | (with_reducible refine Kd.C_drewN ?_ _) | (with_reducible refine Kd.C_drew ?_))); (case side4 => exact (Kd.R_reads' HO828.out).2.1); rintro e w' ⟨rfl, ⟨nd, rfl⟩⟩; refine ⟨_, rfl, ?_⟩))
            go_ret
            exact ⟨by first | rfl | (rw [bl_gt] <;> rfl) | (simp [errW_none, errW_some] <;> rfl) | (simp [*, errW_none, errW_some] <;> rfl), bB_⟩
          ·rw [if_neg c65] at H
           exact absurd H (by simp)
end Go.Proofs.YtgmlenpcchhmbaaGreat.P
end
section
set_option linter.unusedVariables false
set_option linter.unusedSimpArgs false
namespace Go.Proofs.YtgmlenpcchhmbaaGreat.P
open Go.RowKit Go.Proofs.YtgmlenpcchhmbaaGreatW.PrintWords Go.Proofs.YtgmlenpcchhmbaaGreatW.PrintLast
def allT (l : List S63) : List S71 := unionT (unionT (setSp rK l) ++ unionT (setSp wK l))
theorem reads_le (l : List S63) (hl : l.length ≤ 8) : (unionT (setSp rK l)).length ≤ 16 ∧ (unionT (setSp wK l)).length ≤ 16 := by
  have h1 := union_len (setSp rK l)
  have h2 := union_len (setSp wK l)
  have h3 := setSp_le rK l
  have h4 := setSp_le wK l
  omega
theorem allT_le (l : List S63) (hl : l.length ≤ 8) : (allT l).length ≤ 32 := by
  have h1 := union_len (unionT (setSp rK l) ++ unionT (setSp wK l))
  have h2 := reads_le l hl
  rw [List.length_append] at h1
  unfold allT
  omega
theorem ev_all (l : List S63) (hl : l.length ≤ 8) (hs : ∀ o ∈ l, o.f1.size ≤ 16 ∧ o.f2.size ≤ 16) : Ev (fun k => txn_All.f k l) (allT l) := by
  have h := reads_le l hl
  unfold txn_All.f
  refine Ev.bind (ev_reads l hl hs) (Ev.bind (ev_writes l hl hs) (Ev.yes (by omega) (Ev.bind1 (r := allT l) ?_ (Ev.some _))))
  unfold span_Union.f
  rw [if_pos (by rw [List.length_append]; omega)]
  rfl
theorem c_none {l : List S63} {d : List S61} (h : (unionT (setSp wK l)).length = 0) : (runS l (startT d)).c = [] := by
  cases hc : (runS l (startT d)).c with
  | nil => rfl
  | cons x r =>
    have h1 := c_run l l (startT d) (fun _ h => h) (fun x hx => by cases hx) x (by rw [hc]; exact List.mem_cons_self ..)
    rw [← hasSs_unionT, List.length_eq_zero_iff.1 h] at h1
    cases h1
theorem ev_r2 (l : List S63) (hl : l.length ≤ 8) (hk : ∀ o ∈ l, o.f1.size ≤ 16 ∧ o.f2.size ≤ 16) : Ev (fun k => folkmootlaw08_TxnReads.j2 k l false) true := by
  have h := reads_le l hl
  refine Ev.succ ?_
  simp only [folkmootlaw08_TxnReads.j2]
  exact Ev.no (by simp) (Ev.bind (ev_reads l hl hk) (Ev.bind (ev_writes l hl hk) (Ev.yes (by omega) (Ev.bind (ev_r3union _ (by rw [List.length_append]; omega)) (Ev.bind (ev_all l hl hk) (Ev.bind (ev_r3same (allT l) (by have := allT_le l hl; omega)) (Ev.yes rfl ev_live)))))))
theorem ev_r1 (l : List S63) (hl : l.length ≤ 8) (hk : ∀ o ∈ l, o.f1.size ≤ 16 ∧ o.f2.size ≤ 16) (w x : List S69) (a b : List S65) (hw : w.length ≤ 1000000) (ha : a.length ≤ 1000000) (hp : ∀ y ∈ a, y.f2.length ≤ 1000000) (h : (unionT (setSp rK l)).length = 0 → w = x ∧ a = b) :
    Ev (fun k => folkmootlaw08_TxnReads.j1 k l w a x b false) true := by
  refine Ev.succ ?_
  simp only [folkmootlaw08_TxnReads.j1]
  refine Ev.no (by simp) (Ev.bind (ev_reads l hl hk) (Ev.cond (fun e => ?_) (fun _ => ev_r2 l hl hk)))
  obtain ⟨rfl, rfl⟩ := h (by omega)
  exact Ev.bind (ev_answers a (by omega) (fun y hy => by have := hp y hy; omega)) (Ev.yes rfl (Ev.bind (ev_wsame w (by omega)) (ev_r2 l hl hk)))
theorem ev_r0 (l : List S63) (d e : List S61) (q : Bool) (h : q = false → TxIn l d ∧ TxIn l e) : Ev (fun k => folkmootlaw08_TxnReads.j0 k l d e q) true := by
  refine Ev.succ ?_
  simp only [folkmootlaw08_TxnReads.j0]
  refine Ev.cond (fun _ => ev_live) (fun hq => ?_)
  obtain ⟨hi, hj⟩ := h (by simpa using hq)
  have hk : ∀ o ∈ l, o.f1.size ≤ 16 ∧ o.f2.size ≤ 16 := fun o ho => isT_key (hi.ops o ho)
  have hl := hi.len
  have hd := hi.dl
  have he := hj.dl
  have h1 := writes_len (runS l (startT d))
  have h2 := runS_le l (startT d)
  have h3 := runA_len l (startT d)
  have h4 := runA_f2 l (startT d)
  have hsd : (startT d).d.length ≤ 60 := by rw [start_d hi.dt.1, List.length_map]; exact hd
  have hsc : (startT d).c.length = 0 := rfl
  have hr1 := ev_r1 l hl hk (writesT (runS l (startT d))) (writesT (runS l (startT e))) (runA l (startT d)) (runA l (startT e)) (by omega) (by omega) (fun y hy => by have := h4 y hy; omega) (fun hz => by
    have hR : Agree (unionT (setSp rK l)) (startT d) (startT e) := agree_of hi.dt.1 hj.dt.1 (unionT (setSp rK l)) (fun k hk => by
      rw [List.length_eq_zero_iff.1 hz] at hk; cases hk)
    obtain ⟨ha, hb⟩ := Agree.run l hR (fun o ho => needs_of ho)
    exact ⟨ha.writes, hb⟩)
  refine Ev.bind1 (eval_f hl hi.ops (by omega) (dataT_keys hi.dt)) (Ev.bind1 (eval_f hl hi.ops (by omega) (dataT_keys hj.dt)) (Ev.bind (ev_writes l hl hk) (Ev.cond (fun hz => ?_) (fun _ => hr1))))
  have c1 : (writesT (runS l (startT d))).length = 0 := by rw [h1, c_none (by omega)]; rfl
  have c2 : (writesT (runS l (startT e))).length = 0 := by rw [writes_len, c_none (by omega)]; rfl
  refine Ev.yes (by simp only [c1]; rfl) ?_
  have e0 : (((writesT (runS l (startT e))).length : Int) != 0) = false := by rw [c2]; rfl
  simp only [e0]
  exact hr1
theorem txnReads_any (A0 : Option Addr) (c0 : Nat) (l : List S63) (A1 : Option Addr) (c1 : Nat) (d : List S61) (A2 : Option Addr) (c2 : Nat) (e : List S61) (w : World) (C0 : Kd.C k63 w A0 l.length l) (hc : l.length ≤ c0)
    (C1 : Kd.C k61 w A1 d.length d) (hc1 : d.length ≤ c1) (hp1 : d.length ≤ 9223372036854775807 ∧ ∀ p ∈ d, (Lit.int .u64 p.f1).wf = true)
    (C2 : Kd.C k61 w A2 e.length e) (hc2 : e.length ≤ c2) (hp2 : e.length ≤ 9223372036854775807 ∧ ∀ p ∈ e, (Lit.int .u64 p.f1).wf = true) :
    Calls Tryz.prog 10 #[.slice A0 l.length c0, .slice A1 d.length c1, .slice A2 e.length c2] w fun e w' => e = .returned (.bool true) ∧ Below w.heap.size w w' := by
  have hb : ∀ {d : List S61}, (∀ p ∈ d, (Lit.int .u64 p.f1).wf = true) → ∀ p ∈ d, 0 ≤ p.f1 ∧ p.f1 < 18446744073709551616 := fun hp p hpd => by
    have h := hp p hpd
    simp [Lit.wf, IntKind.min, IntKind.max, IntKind.bits, IntKind.signed] at h
    omega
  obtain ⟨b, hb1, hb2⟩ := ev_small l d
  obtain ⟨b', hb1', hb2'⟩ := ev_small [] e
  obtain ⟨b3, hb3, hb4⟩ := ev_data d hp1.1 (hb hp1.2)
  obtain ⟨b5, hb5, hb6⟩ := ev_data e hp2.1 (hb hp2.2)
  have hev : Ev (fun k => folkmootlaw08_TxnReads.f k l d e) true := by
    unfold folkmootlaw08_TxnReads.f
    have hq : Ev (fun k => folkmootlaw08_TxnReads.j0 k l d e true) true := ev_r0 l d e true (fun h => by cases h)
    refine Ev.bind hb1 (Ev.cond (fun h1 => Ev.bind hb1' (Ev.cond (fun h1' => Ev.bind1 rfl (Ev.bind1 rfl (Ev.cond (fun h2 => Ev.bind hb3 (Ev.cond (fun h3 => Ev.bind hb5 (ev_r0 l d e _ (fun h5 => ?_))) (fun _ => hq))) (fun _ => hq)))) (fun _ => hq))) (fun _ => hq))
    obtain ⟨g1, g2⟩ := chk_of h2
    have h6 : b5 = true := by simpa using h5
    exact ⟨⟨g1, g2, (hb2 h1).2, hb4 h3⟩, ⟨g1, g2, (hb2' h1').2, hb6 h6⟩⟩
  obtain ⟨k, hk⟩ := hev.get
  exact folkmootlaw08_TxnReads.calls k A0 c0 l A1 c1 d A2 c2 e true w C0 hc C1 hc1 C2 hc2 hk
end Go.Proofs.YtgmlenpcchhmbaaGreat.P
end
