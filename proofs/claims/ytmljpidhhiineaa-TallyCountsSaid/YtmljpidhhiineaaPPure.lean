/- What printed functions of whole numbers' lists and topologies answer, in plain words. -/
import Derived.Test.YtmljpidhhiineaaPx1
import Derived.Test.YtmljpidhhiineaaPx2
import Derived.Test.YtmljpidhhiineaaPx3
import Derived.Test.YtmljpidhhiineaaPNodes
namespace Go.Proofs.Ytmljpidhhiineaa.P
open Go.RowKit Go.Proofs.YtmljpidhhiineaaW.PrintWords Go.Proofs.YtmljpidhhiineaaW.PrintLast
theorem w64 {x : Int} (h0 : -9223372036854775808 ≤ x) (h1 : x ≤ 9223372036854775807) : wrap64 x = x := by unfold wrap64; omega
theorem fuel {k d : Nat} (h : d < k) : ∃ m, k = m + 1 ∧ d ≤ m := ⟨k - 1, by omega, by omega⟩
theorem index_l0 (l : List Int) (x : Int) (hl : l.length ≤ 9223372036854775807) : ∀ (d i k : Nat), l.length - i = d → i ≤ l.length → d < k → ∃ r, slices_Index_int_int.l0 k l x l.length i = some r ∧ (0 ≤ r ↔ x ∈ l.drop i) := by
  intro d
  induction d with
  | zero =>
    intro i k hd hi hk
    obtain ⟨m, rfl, _⟩ := fuel hk
    obtain rfl : i = l.length := by omega
    exact ⟨-1, by simp only [slices_Index_int_int.l0]; rw [if_neg (by omega)], by simp⟩
  | succ d ih =>
    intro i k hd hi hk
    obtain ⟨m, rfl, hm⟩ := fuel hk
    have hlt : i < l.length := by omega
    simp only [slices_Index_int_int.l0]
    rw [if_pos (by omega), if_pos (by omega), if_pos (by omega), rd_nat l hlt, List.drop_eq_getElem_cons hlt]
    by_cases e : x = l[i]
    · rw [if_pos e]
      exact ⟨i, rfl, ⟨fun _ => by rw [e]; exact List.mem_cons_self, fun _ => by omega⟩⟩
    · rw [if_neg e, w64 (by omega) (by omega)]
      obtain ⟨r, hr, h⟩ := ih (i + 1) m (by omega) (by omega) (by omega)
      exact ⟨r, by rw [← hr]; rfl, by rw [h, List.mem_cons]; exact ⟨.inr, fun h => h.resolve_left e⟩⟩
theorem contains_f (l : List Int) (x : Int) (hl : l.length ≤ 9223372036854775807) : slices_Contains_int_int.f (l.length + 1) l x = some (decide (x ∈ l)) := by
  obtain ⟨r, hr, h⟩ := index_l0 l x hl l.length 0 (l.length + 1) (by omega) (by omega) (by omega)
  unfold slices_Contains_int_int.f slices_Index_int_int.f
  rw [show (0 : Int) = ((0 : Nat) : Int) from rfl, hr]
  simp only [Option.bind_some, Option.some.injEq, decide_eq_decide]
  rw [List.drop_zero] at h
  exact h
theorem in_l0 (l : List Int) (x : Int) (hl : l.length ≤ 9223372036854775807) : ∀ (d i k : Nat), l.length - i = d → i ≤ l.length → d < k → folkmootref04_In.l0 k l x i = some (decide (x ∈ l.drop i)) := by
  intro d
  induction d with
  | zero =>
    intro i k hd hi hk
    obtain ⟨m, rfl, _⟩ := fuel hk
    obtain rfl : i = l.length := by omega
    simp only [folkmootref04_In.l0]; rw [if_neg (by omega)]; simp
  | succ d ih =>
    intro i k hd hi hk
    obtain ⟨m, rfl, hm⟩ := fuel hk
    have hlt : i < l.length := by omega
    simp only [folkmootref04_In.l0]
    rw [if_pos (by omega), if_pos (by omega), rd_nat l hlt, List.drop_eq_getElem_cons hlt]
    by_cases e : l[i] = x
    · rw [if_pos e, decide_eq_true (by rw [← e]; exact List.mem_cons_self)]
    · rw [if_neg e, w64 (by omega) (by omega), show ((i : Int) + 1) = ((i + 1 : Nat) : Int) from rfl, ih (i + 1) m (by omega) (by omega) (by omega)]
      congr 1
      rw [decide_eq_decide, List.mem_cons]
      exact ⟨.inr, fun h => h.resolve_left (Ne.symm e)⟩
theorem in_f (l : List Int) (x : Int) (hl : l.length ≤ 9223372036854775807) {k : Nat} (hk : l.length < k) : folkmootref04_In.f k l x = some (decide (x ∈ l)) := by
  unfold folkmootref04_In.f
  rw [show (0 : Int) = ((0 : Nat) : Int) from rfl, in_l0 l x hl l.length 0 k (by omega) (by omega) hk, List.drop_zero]
theorem ints_l0 (a b : List Int) (hl : a.length = b.length) (hm : a.length ≤ 9223372036854775807) : ∀ (d i k : Nat), a.length - i = d → i ≤ a.length → d < k → folkmootref04_Ints.l0 k a b i = some (decide (a.drop i = b.drop i)) := by
  intro d
  induction d with
  | zero =>
    intro i k hd hi hk
    obtain ⟨m, rfl, _⟩ := fuel hk
    obtain rfl : i = a.length := by omega
    simp only [folkmootref04_Ints.l0]; rw [if_neg (by omega)]
    rw [List.drop_length, hl, List.drop_length]; simp
  | succ d ih =>
    intro i k hd hi hk
    obtain ⟨m, rfl, hm⟩ := fuel hk
    have hlt : i < a.length := by omega
    have hlt2 : i < b.length := by omega
    simp only [folkmootref04_Ints.l0]
    rw [if_pos (by omega), if_pos (by omega), if_pos (by omega), rd_nat a hlt, rd_nat b hlt2, List.drop_eq_getElem_cons hlt, List.drop_eq_getElem_cons hlt2]
    by_cases e : a[i] = b[i]
    · rw [if_pos e, w64 (by omega) (by omega), show ((i : Int) + 1) = ((i + 1 : Nat) : Int) from rfl, ih (i + 1) m (by omega) (by omega) (by omega)]
      congr 1
      rw [decide_eq_decide, List.cons.injEq]
      exact ⟨fun h => ⟨e, h⟩, fun h => h.2⟩
    · rw [if_neg e, decide_eq_false (fun h => e (List.cons.inj h).1)]
theorem ints_f (a b : List Int) (hm : a.length ≤ 9223372036854775807) : folkmootref04_Ints.f (a.length + 1) a b = some (decide (a = b)) := by
  unfold folkmootref04_Ints.f
  by_cases hl : a.length = b.length
  · rw [if_pos (by omega), show (0 : Int) = ((0 : Nat) : Int) from rfl, ints_l0 a b hl hm a.length 0 _ (by omega) (by omega) (by omega)]
    simp
  · rw [if_neg (by omega)]
    have : a ≠ b := fun e => hl (by rw [e])
    simp [this]
/-- what is known of a topology that may be. -/
structure GoodS (s : S40) : Prop where
  ne : s.f1 ≠ []
  range : ∀ n ∈ s.f1, 1 ≤ n ∧ n ≤ 7
  sorted : s.f1.Pairwise (· < ·)
def Good (l : List S40) : Prop := l.length ≤ 8 ∧ ∀ s ∈ l, GoodS s
theorem check_l1 (l : List S40) (x3 : ByteArray) (x4 : Int) (ns : List Int) (Q : Prop) (M : Nat) (hl : ns.length ≤ 9223372036854775807) (hM : ∀ k, M ≤ k → ∃ r, folkmootref04_Check.l0 k l x3 (wrap64 (x4 + 1)) = some r ∧ (r = 0 → Q)) :
    ∀ (d j k : Nat), ns.length - j = d → j ≤ ns.length → d + M < k → ((∀ n ∈ ns.take j, 1 ≤ n ∧ n ≤ 7) ∧ (ns.take j).Pairwise (· < ·)) →
      ∃ r, folkmootref04_Check.l1 k l x3 x4 ns j = some r ∧ (r = 0 → Q ∧ (∀ n ∈ ns, 1 ≤ n ∧ n ≤ 7) ∧ ns.Pairwise (· < ·)) := by
  intro d
  induction d with
  | zero =>
    intro j k hd hj hk hp
    obtain ⟨m, rfl, hm⟩ := fuel hk
    obtain rfl : j = ns.length := by omega
    rw [List.take_length] at hp
    obtain ⟨r, hr, h⟩ := hM m (by omega)
    exact ⟨r, by simp only [folkmootref04_Check.l1]; rw [if_neg (by omega)]; exact hr, fun e => ⟨h e, hp⟩⟩
  | succ d ih =>
    intro j k hd hj hk hp
    obtain ⟨m, rfl, hm⟩ := fuel hk
    have hlt : j < ns.length := by omega
    simp only [folkmootref04_Check.l1]
    rw [if_pos (by omega), if_pos (by omega), rd_nat ns hlt]
    by_cases h1 : ns[j] < 1
    · exact ⟨40, by rw [if_pos h1], by omega⟩
    rw [if_neg h1]
    by_cases h7 : ns[j] > 7
    · exact ⟨40, by rw [if_pos h7], by omega⟩
    rw [if_neg h7]
    have hsn := take_snocI ns hlt
    have step : (∀ n ∈ ns.take j, n < ns[j]) → ∃ r, folkmootref04_Check.l1 m l x3 x4 ns (wrap64 ((j : Int) + 1)) = some r ∧ (r = 0 → Q ∧ (∀ n ∈ ns, 1 ≤ n ∧ n ≤ 7) ∧ ns.Pairwise (· < ·)) := fun hall => by
      rw [w64 (by omega) (by omega), show ((j : Int) + 1) = ((j + 1 : Nat) : Int) from rfl]
      refine ih (j + 1) m (by omega) (by omega) (by omega) ?_
      rw [hsn]
      refine ⟨fun n hn => ?_, ?_⟩
      · rcases List.mem_append.1 hn with hn | hn
        · exact hp.1 n hn
        · rw [List.mem_singleton.1 hn]; omega
      · rw [List.pairwise_append]
        exact ⟨hp.2, by simp, fun a ha b hb => by rw [List.mem_singleton.1 hb]; exact hall a ha⟩
    by_cases h0 : (j : Int) > 0
    · have e1 : wrap64 ((j : Int) - 1) = ((j - 1 : Nat) : Int) := by rw [w64 (by omega) (by omega)]; omega
      rw [if_pos h0, e1, if_pos (by omega), if_pos (by omega), rd_nat ns (show j - 1 < ns.length by omega)]
      by_cases h2 : ns[j] ≤ ns[j - 1]
      · exact ⟨40, by rw [if_pos h2], by omega⟩
      · rw [if_neg h2]
        refine step (fun n hn => ?_)
        have hj1 : j - 1 < (ns.take j).length := by rw [List.length_take]; omega
        have e2 : (ns.take j)[j - 1] = ns[j - 1] := List.getElem_take
        obtain ⟨q, hq, rfl⟩ := List.getElem_of_mem hn
        have hq' : q < j := by rw [List.length_take] at hq; omega
        by_cases e3 : q = j - 1
        · subst e3; rw [e2]; omega
        · have := List.pairwise_iff_getElem.1 hp.2 q (j - 1) hq hj1 (by omega)
          rw [e2] at this
          omega
    · rw [if_neg h0]
      obtain rfl : j = 0 := by omega
      exact step (fun n hn => by simp at hn)
theorem check_l0 (l : List S40) (hl : l.length ≤ 8) (hns : ∀ s ∈ l, s.f1.length ≤ 9223372036854775807) : ∀ (d i k : Nat) (x3 : ByteArray), l.length - i = d → i ≤ l.length → 10 * d < k → ∃ r, folkmootref04_Check.l0 k l x3 i = some r ∧ (r = 0 → ∀ s ∈ l.drop i, GoodS s) := by
  intro d
  induction d with
  | zero =>
    intro i k x3 hd hi hk
    obtain ⟨m, rfl, _⟩ := fuel hk
    obtain rfl : i = l.length := by omega
    exact ⟨0, by simp only [folkmootref04_Check.l0]; rw [if_neg (by omega)], by simp⟩
  | succ d ih =>
    intro i k x3 hd hi hk
    obtain ⟨m, rfl, hm⟩ := fuel hk
    have hlt : i < l.length := by omega
    have hg : Go.Proofs.Ytmljpidhhiineaa.P.rd_T40 l (i : Int) = l[i] := by unfold Go.Proofs.Ytmljpidhhiineaa.P.rd_T40; simp [List.getElem?_eq_getElem hlt]
    have hj2 : ∀ (b : Bool) (y z : ByteArray), ∃ r, folkmootref04_Check.j2 m l i b y z = some r ∧ (r = 0 → ∀ s ∈ l.drop i, GoodS s) := fun b y z => by
      obtain ⟨m1, rfl, hm1⟩ := fuel (show 10 * d + 8 < m by omega)
      simp only [folkmootref04_Check.j2]
      cases b with
      | true => exact ⟨40, rfl, by omega⟩
      | false =>
        rw [if_neg (by simp), if_pos (by omega), if_pos (by omega), hg]
        have hj3 : ∀ c : Bool, (c = false → 1 ≤ l[i].f1.length ∧ l[i].f1.length ≤ 5) → ∃ r, folkmootref04_Check.j3 m1 l z i l[i].f1 c = some r ∧ (r = 0 → ∀ s ∈ l.drop i, GoodS s) := fun c hc => by
          obtain ⟨m2, rfl, hm2⟩ := fuel (show 10 * d + 7 < m1 by omega)
          simp only [folkmootref04_Check.j3]
          cases c with
          | true => exact ⟨40, rfl, by omega⟩
          | false =>
            obtain ⟨hc1, hc2⟩ := hc rfl
            rw [if_neg (by simp)]
            obtain ⟨r, hr, h⟩ := check_l1 l z i l[i].f1 (∀ s ∈ l.drop (i + 1), GoodS s) (10 * d + 1) (by omega) (fun k hk => by
              rw [w64 (by omega) (by omega), show ((i : Int) + 1) = ((i + 1 : Nat) : Int) from rfl]
              exact ih (i + 1) k z (by omega) (by omega) (by omega)) l[i].f1.length 0 m2 (by omega) (by omega) (by omega) (by simp)
            refine ⟨r, hr, fun e s hs => ?_⟩
            obtain ⟨h1, h2, h3⟩ := h e
            rw [List.drop_eq_getElem_cons hlt] at hs
            rcases List.mem_cons.1 hs with rfl | hs
            · exact ⟨fun e0 => by rw [e0] at hc1; simp at hc1, h2, h3⟩
            · exact h1 s hs
        by_cases h1 : ((l[i].f1.length : Nat) : Int) < 1
        · rw [if_pos h1]; exact hj3 true (by simp)
        · rw [if_neg h1]
          exact hj3 _ (fun e => by have := of_decide_eq_false e; omega)
    simp only [folkmootref04_Check.l0]
    rw [if_pos (by omega), if_pos (by omega)]
    repeat' (first | exact hj2 _ _ _ | split)
theorem check_f (l : List S40) (hns : ∀ s ∈ l, s.f1.length ≤ 9223372036854775807) {k : Nat} (hk : 90 ≤ k) : ∃ r, folkmootref04_Check.f k l = some r ∧ (r = 0 → Good l) := by
  unfold folkmootref04_Check.f
  obtain ⟨m, rfl, hm⟩ := fuel (show 89 < k by omega)
  by_cases h1 : (l.length : Int) < 1
  · rw [if_pos h1]
    exact ⟨40, by simp only [folkmootref04_Check.j0]; rfl, by omega⟩
  · rw [if_neg h1]
    simp only [folkmootref04_Check.j0]
    by_cases h8 : (l.length : Int) > 8
    · exact ⟨40, by rw [if_pos (by simpa using h8)], by omega⟩
    · rw [if_neg (by simpa using h8)]
      obtain ⟨r, hr, h⟩ := check_l0 l (by omega) hns l.length 0 m ⟨#[]⟩ (by omega) (by omega) (by omega)
      exact ⟨r, hr, fun e => ⟨by omega, by simpa using h e⟩⟩
theorem right_l0 (l : List S40) (hl : l.length ≤ 9223372036854775807) (hns : ∀ s ∈ l, s.f1.length ≤ 9223372036854775807) : ∀ (d i k : Nat) (x : Int), l.length - i = d → i ≤ l.length → d + 90 < k → ∃ b, folkmootlaw05_right.l0 k l x i = some b ∧ (b = true → Good l) := by
  have fin : ∀ (m : Nat) (x : Int), 90 ≤ m → ∃ b, (if (l.length : Int) ≤ 40 then (if x ≤ 2000 then ((folkmootref04_Check.f m l).bind fun t => (some (t == 0))) else (some false)) else (some false)) = some b ∧ (b = true → Good l) := fun m x hm => by
    obtain ⟨r, hr, h⟩ := check_f l hns hm
    split
    · split
      · exact ⟨r == 0, by rw [hr]; rfl, fun e => h (by simpa using e)⟩
      · exact ⟨false, rfl, by simp⟩
    · exact ⟨false, rfl, by simp⟩
  intro d
  induction d with
  | zero =>
    intro i k x hd hi hk
    obtain ⟨m, rfl, hm⟩ := fuel hk
    obtain rfl : i = l.length := by omega
    simp only [folkmootlaw05_right.l0]
    rw [if_neg (by omega)]
    exact fin m x (by omega)
  | succ d ih =>
    intro i k x hd hi hk
    obtain ⟨m, rfl, hm⟩ := fuel hk
    simp only [folkmootlaw05_right.l0]
    rw [if_pos (by omega)]
    split
    · rw [if_pos (by omega), w64 (x := (i : Int) + 1) (by omega) (by omega), show ((i : Int) + 1) = ((i + 1 : Nat) : Int) from rfl]
      exact ih (i + 1) m _ (by omega) (by omega) (by omega)
    · exact fin m x (by omega)
theorem right_f (l : List S40) (hl : l.length ≤ 9223372036854775807) (hns : ∀ s ∈ l, s.f1.length ≤ 9223372036854775807) : ∃ k b, folkmootlaw05_right.f k l = some b ∧ (b = true → Good l) := by
  obtain ⟨b, hb, h⟩ := right_l0 l hl hns l.length 0 (l.length + 91) 0 (by omega) (by omega) (by omega)
  exact ⟨_, b, hb, h⟩
def tailN (l : List S40) (sh : List Int) (n : Nat) : List Int := ((List.range' n (8 - n)).filter (fun m => sh.any (shB l m))).map (fun m : Nat => (m : Int))
theorem tailN_step (l : List S40) (sh : List Int) {n : Nat} (h : n < 8) : tailN l sh n = (if sh.any (shB l n) then [(n : Int)] else []) ++ tailN l sh (n + 1) := by
  unfold tailN
  obtain ⟨d, hd⟩ : ∃ d, 8 - n = d + 1 := ⟨7 - n, by omega⟩
  rw [hd, show 8 - (n + 1) = d by omega, List.range'_succ, List.filter_cons]
  split <;> simp
theorem tailN_end (l : List S40) (sh : List Int) : tailN l sh 8 = [] := rfl
theorem nodesP_tail (l : List S40) (sh : List Int) : nodesP l sh = tailN l sh 1 := by
  unfold nodesP tailN
  have e : List.range 8 = 0 :: List.range' 1 7 := rfl
  rw [e, List.filter_cons_of_neg (by simp [hasN])]
  exact congrArg _ (List.filter_congr (fun m hm => by
    have : 0 < m := by rw [List.mem_range'_1] at hm; omega
    simp [hasN, this]))
theorem nodes_l1 (l : List S40) (sh out : List Int) (n M : Nat) (hs : sh.length ≤ 9223372036854775806) (hM : ∀ s ∈ l, s.f1.length < M) (hM2 : M ≤ 9223372036854775807) (hout : out.length < 100) (R : List Int)
    (hnext : ∀ k, M ≤ k → folkmootref04_Nodes.l0 k l sh (if sh.any (shB l n) then out ++ [(n : Int)] else out) (wrap64 ((n : Int) + 1)) = some R) :
    ∀ (d i k : Nat) (is : Bool), sh.length - i = d → i ≤ sh.length → d + M < k → is = (sh.take i).any (shB l n) → folkmootref04_Nodes.l1 k l sh out n is i = some R := by
  intro d
  induction d with
  | zero =>
    intro i k is hd hi hk he
    obtain ⟨m, rfl, hm⟩ := fuel hk
    obtain rfl : i = sh.length := by omega
    rw [List.take_length] at he
    have := hnext m (by omega)
    simp only [folkmootref04_Nodes.l1]
    rw [if_neg (by omega)]
    rw [← he] at this
    cases is with
    | true => rw [if_pos rfl, if_pos (by omega)]; exact this
    | false => rw [if_neg (by simp)]; exact this
  | succ d ih =>
    intro i k is hd hi hk he
    obtain ⟨m, rfl, hm⟩ := fuel hk
    have hlt : i < sh.length := by omega
    have hw : wrap64 ((i : Int) + 1) = ((i + 1 : Nat) : Int) := by rw [w64 (by omega) (by omega)]; rfl
    have hany : (sh.take (i + 1)).any (shB l n) = (is || shB l n sh[i]) := by rw [take_snocI sh hlt, List.any_append, ← he]; simp
    simp only [folkmootref04_Nodes.l1]
    rw [if_pos (by omega), hw]
    cases is with
    | true =>
      rw [if_pos rfl]
      exact ih (i + 1) m true (by omega) (by omega) (by omega) (by rw [hany]; rfl)
    | false =>
      rw [Bool.false_or] at hany
      rw [if_neg (by simp), if_pos (by omega), rd_nat sh hlt]
      by_cases h0 : sh[i] ≥ 0
      · rw [if_pos h0]
        by_cases h1 : sh[i] < (l.length : Int)
        · rw [if_pos h1, if_pos (by omega)]
          obtain ⟨q, hq⟩ := Int.eq_ofNat_of_zero_le h0
          have hql : q < l.length := by omega
          have hg : Go.Proofs.Ytmljpidhhiineaa.P.rd_T40 l (sh[i]) = l[q] := by rw [hq]; unfold Go.Proofs.Ytmljpidhhiineaa.P.rd_T40; simp [List.getElem?_eq_getElem hql]
          have hlen := hM l[q] (List.getElem_mem hql)
          rw [hg, in_f _ _ (by omega) (by omega), Option.bind_some]
          refine ih (i + 1) m _ (by omega) (by omega) (by omega) ?_
          rw [hany]
          unfold shB
          rw [hg]
          simp [h0, h1]
        · rw [if_neg h1]
          exact ih (i + 1) m false (by omega) (by omega) (by omega) (by rw [hany]; unfold shB; simp [h1])
      · rw [if_neg h0]
        exact ih (i + 1) m false (by omega) (by omega) (by omega) (by rw [hany]; unfold shB; simp [h0])
theorem nodes_l0 (l : List S40) (sh : List Int) (M : Nat) (hs : sh.length ≤ 9223372036854775806) (hM : ∀ s ∈ l, s.f1.length < M) (hM2 : M ≤ 1000000000000000) (hs2 : sh.length ≤ 1000000000000000) :
    ∀ (d n k : Nat) (out : List Int), 8 - n = d → n ≤ 8 → out.length + d < 100 → (d + 1) * (sh.length + M + 2) < k → folkmootref04_Nodes.l0 k l sh out n = some (out ++ tailN l sh n) := by
  intro d
  induction d with
  | zero =>
    intro n k out hd hn ho hk
    obtain ⟨m, rfl, _⟩ := fuel hk
    obtain rfl : n = 8 := by omega
    simp only [folkmootref04_Nodes.l0]
    rw [if_neg (by omega), tailN_end, List.append_nil]
  | succ d ih =>
    intro n k out hd hn ho hk
    obtain ⟨m, rfl, hm⟩ := fuel hk
    simp only [folkmootref04_Nodes.l0]
    rw [if_pos (by omega)]
    have hp : (d + 1) * (sh.length + M + 2) = d * (sh.length + M + 2) + (sh.length + M + 2) := Nat.succ_mul _ _
    have hp2 : (d + 1 + 1) * (sh.length + M + 2) = (d + 1) * (sh.length + M + 2) + (sh.length + M + 2) := Nat.succ_mul _ _
    have hp3 : (d + 1) * (sh.length + M + 2) ≤ 8 * (sh.length + M + 2) := Nat.mul_le_mul_right _ (by omega)
    generalize (d + 1) * (sh.length + M + 2) = X at *
    refine nodes_l1 l sh out n (X + 1) hs (fun s h => by have := hM s h; omega) (by omega) (by omega) _ (fun k hk2 => ?_) sh.length 0 m false (by omega) (by omega) (by omega) (by simp)
    have hln : (if sh.any (shB l n) = true then out ++ [(n : Int)] else out).length ≤ out.length + 1 := by
      split
      · rw [List.length_append]; exact Nat.le_refl _
      · omega
    rw [w64 (by omega) (by omega), show ((n : Int) + 1) = ((n + 1 : Nat) : Int) from rfl, ih (n + 1) k _ (by omega) (by omega) (by omega) (by omega), tailN_step l sh (show n < 8 by omega)]
    by_cases e : sh.any (shB l n) = true
    · rw [if_pos e, if_pos e, List.append_assoc]
    · rw [if_neg e, if_neg e, List.nil_append]
theorem nodes_f (l : List S40) (sh : List Int) (hs : sh.length ≤ 1000000000000000) (hns : ∀ s ∈ l, s.f1.length < 1000000000000000) : ∃ k, folkmootref04_Nodes.f k l sh = some (nodesP l sh) :=
  ⟨8 * (sh.length + 1000000000000000 + 2) + 1, by
    unfold folkmootref04_Nodes.f
    rw [nodesP_tail, show (1 : Int) = ((1 : Nat) : Int) from rfl, nodes_l0 l sh 1000000000000000 (by omega) hns (by omega) (by omega) 7 1 _ [] (by omega) (by omega) (by simp) (by omega)]
    rfl⟩
end Go.Proofs.Ytmljpidhhiineaa.P
