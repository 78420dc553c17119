/- what the claim's row stands on, part 11. -/
import Derived.Test.YtgmlenpcchhmbaaGreatZu7
import Derived.Test.YtgmlenpcchhmbaaGreatZu6
import Derived.Test.YtgmlenpcchhmbaaGreatZu9
import Derived.Test.YtgmlenpcchhmbaaGreatZu10
section
set_option linter.unusedVariables false
set_option linter.unusedSimpArgs false
namespace Go.Proofs.YtgmlenpcchhmbaaGreat.P
def Cov (d0 : List (ByteArray × Int)) (s : St) : Prop := ∀ k, getL s.c k = none → getL s.d k = getL d0 k
theorem Cov.put {d0 : List (ByteArray × Int)} {s : St} (h : Cov d0 s) (k : ByteArray) (n : Int) : Cov d0 (s.put k n) := fun x hx => by
  unfold St.put at hx ⊢
  simp only [getL_put] at hx ⊢
  by_cases e : x = k
  · rw [if_pos e] at hx; cases hx
  · rw [if_neg e] at hx ⊢; exact h x hx
theorem Cov.drop {d0 : List (ByteArray × Int)} {s : St} (h : Cov d0 s) (k : ByteArray) : Cov d0 (s.drop k) := fun x hx => by
  unfold St.drop at hx ⊢
  simp only [getL_put, getL_del] at hx ⊢
  by_cases e : x = k
  · rw [if_pos e] at hx; cases hx
  · rw [if_neg e] at hx ⊢; exact h x hx
theorem Cov.step {d0 : List (ByteArray × Int)} {s : St} (h : Cov d0 s) (o : S63) : Cov d0 (stepS o s) := by
  unfold stepS
  repeat' split
  all_goals first | exact h | exact h.put _ _ | exact h.drop _ | exact (h.put _ _).put _ _
theorem Cov.run {d0 : List (ByteArray × Int)} : ∀ (l : List S63) {s : St}, Cov d0 s → Cov d0 (runS l s)
  | [], _, h => h
  | o :: l, _, h => Cov.run l (h.step o)
def wrT (sd : List (ByteArray × Int)) (x : ByteArray × Bool) : S69 := ⟨x.1, (getL sd x.1).getD 0, (getL sd x.1).isNone⟩
theorem getL_doW (sd : List (ByteArray × Int)) (x : ByteArray × Bool) (d : List S61) (k : ByteArray) : getL ((doW d (wrT sd x)).map toA) k = if k = x.1 then getL sd k else getL (d.map toA) k := by
  unfold doW wrT
  rw [map_toA_ofA]
  simp only
  cases h : getL sd x.1 with
  | none =>
    rw [if_pos (show (none : Option Int).isNone = true from rfl), getL_del]
    by_cases e : k = x.1
    · rw [if_pos e, if_pos e, e, h]
    · rw [if_neg e, if_neg e]
  | some v =>
    rw [if_neg (by simp), getL_put]
    by_cases e : k = x.1
    · rw [if_pos e, if_pos e, e, h]; rfl
    · rw [if_neg e, if_neg e]
theorem getL_apply (sd : List (ByteArray × Int)) : ∀ (c : List (ByteArray × Bool)) (d : List S61) (k : ByteArray), getL ((applyT d (c.map (wrT sd))).map toA) k = if (getL c k).isSome then getL sd k else getL (d.map toA) k
  | [], d, k => by rw [getL_nil]; rfl
  | x :: r, d, k => by
    show getL ((applyT (doW d (wrT sd x)) (r.map (wrT sd))).map toA) k = _
    rw [getL_apply sd r, getL_doW, getL_cons]
    by_cases e : x.1 = k
    · rw [if_pos e, if_pos e.symm, if_pos (show (some x.2).isSome = true from rfl)]; simp
    · rw [if_neg e, if_neg (Ne.symm e)]
theorem apply_writes {d0 : List S61} (hs : SortK (d0.map toA)) {s : St} (hok : s.ok) (hc : Cov (d0.map toA) s) : applyT d0 (writesT s) = s.d.map ofA := by
  have e : (applyT d0 (writesT s)).map toA = s.d := by
    refine sort_ext (applyT_sort _ hs) hok.1 fun k => ?_
    rw [show writesT s = s.c.map (wrT s.d) from rfl, getL_apply]
    cases h : getL s.c k with
    | none => exact (hc k h).symm
    | some v => rfl
  rw [← e, map_ofA_toA]
theorem cov_start {d : List S61} (h : SortK (d.map toA)) : Cov (d.map toA) (startT d) := fun k _ => by
  show getL (mapT d) k = _
  rw [mapT_id h]
def KeysD (d : List (ByteArray × Int)) : Prop := ∀ x ∈ d, x.1.size ≤ 16
theorem KeysD.put {d : List (ByteArray × Int)} (h : KeysD d) {k : ByteArray} (hk : k.size ≤ 16) (n : Int) : KeysD (putL d k n) := fun x hx => by
  rcases mem_putL hx with rfl | hx
  · exact hk
  · exact h x hx
theorem KeysD.del {d : List (ByteArray × Int)} (h : KeysD d) (k : ByteArray) : KeysD (delL d k) := fun x hx => h x (List.mem_filter.1 hx).1
theorem KeysD.step {s : St} (h : KeysD s.d) {o : S63} (h1 : o.f1.size ≤ 16) (h2 : o.f2.size ≤ 16) : KeysD (stepS o s).d := by
  unfold stepS
  repeat' split
  all_goals first | exact h | exact h.put h1 _ | exact h.del _ | exact (h.put h1 _).put h2 _
theorem KeysD.run : ∀ (l : List S63) {s : St}, KeysD s.d → (∀ o ∈ l, o.f1.size ≤ 16 ∧ o.f2.size ≤ 16) → KeysD (runS l s).d
  | [], _, h, _ => h
  | o :: l, _, h, ho => KeysD.run l (h.step (ho o (List.mem_cons_self ..)).1 (ho o (List.mem_cons_self ..)).2) (fun x hx => ho x (List.mem_cons_of_mem _ hx))
end Go.Proofs.YtgmlenpcchhmbaaGreat.P
end
section
set_option linter.unusedVariables false
set_option linter.unusedSimpArgs false
namespace Go.Proofs.YtgmlenpcchhmbaaGreat.P
open Go.RowKit Go.Proofs.YtgmlenpcchhmbaaGreatW.PrintWords Go.Proofs.YtgmlenpcchhmbaaGreatW.PrintLast
theorem ev_live : Ev (fun _ => (folkmootlaw08_live.f).bind fun t => (some t)) true := Ev.some _
structure TxIn (l : List S63) (d : List S61) : Prop where
  len : l.length ≤ 8
  ops : ∀ o ∈ l, isT o = true
  dl : d.length ≤ 60
  dt : dataT d
theorem apply_f {d : List S61} {l : List S69} (h : SortK (d.map toA)) (hl : d.length + l.length ≤ 1000000) : txn_Apply.f d l = some (applyT d l) := by
  unfold txn_Apply.f
  rw [if_pos ⟨h, hl⟩]
theorem writes_len (s : St) : (writesT s).length = s.c.length := by unfold writesT; rw [List.length_map]
theorem wr_start (d : List S61) {s : St} (hs : SortK (d.map toA)) (l : List S63) (e : s = runS l (startT d)) : applyT d (writesT s) = s.d.map ofA := by
  subst e
  exact apply_writes hs (runS_ok l (start_ok d)) (Cov.run l (cov_start hs))
end Go.Proofs.YtgmlenpcchhmbaaGreat.P
end
section
set_option linter.unusedVariables false
set_option linter.unusedSimpArgs false
namespace Go.Proofs.YtgmlenpcchhmbaaGreat.P
open Go.RowKit Go.Proofs.YtgmlenpcchhmbaaGreatW.PrintWords Go.Proofs.YtgmlenpcchhmbaaGreatW.PrintLast
theorem rOf_wN {n : Int} (h : 0 ≤ n) : rOfN n = wN n.toNat := by
  obtain ⟨m, rfl⟩ : ∃ m : Nat, n = (m : Int) := ⟨n.toNat, by omega⟩
  exact ofN_wN m
def zipP : List ByteArray → List Int → List (ByteArray × Int)
  | a :: nm, n :: ns => (a, rOfN n) :: zipP nm ns
  | _, _ => []
def NmOk (nm : List ByteArray) : Prop := nm.Pairwise fun x y => klt x y = true
theorem zipP_mem : ∀ (nm : List ByteArray) (ns : List Int) (y : ByteArray × Int), y ∈ zipP nm ns → y.1 ∈ nm
  | [], _, _, h => by cases h
  | _ :: _, [], _, h => by cases h
  | a :: nm, n :: ns, y, h => by
    rcases List.mem_cons.1 h with rfl | h
    · exact List.mem_cons_self ..
    · exact List.mem_cons_of_mem _ (zipP_mem nm ns y h)
theorem zipP_sort : ∀ (nm : List ByteArray) (ns : List Int), NmOk nm → SortK (zipP nm ns)
  | [], _, _ => .nil
  | _ :: _, [], _ => .nil
  | a :: nm, n :: ns, h => List.pairwise_cons.2 ⟨fun y hy => (List.pairwise_cons.1 h).1 _ (zipP_mem nm ns y hy), zipP_sort nm ns (List.pairwise_cons.1 h).2⟩
theorem zipP_len : ∀ (nm : List ByteArray) (ns : List Int), ns.length ≤ nm.length → (zipP nm ns).length = ns.length
  | [], [], _ => rfl
  | [], _ :: _, h => by simp at h
  | _ :: _, [], _ => rfl
  | a :: nm, n :: ns, h => by
    show (zipP nm ns).length + 1 = ns.length + 1
    rw [zipP_len nm ns (by simpa using h)]
theorem zipP_at : ∀ (nm : List ByteArray) (ns : List Int) (i : Nat), i < ns.length → ns.length ≤ nm.length → (zipP nm ns)[i]? = some (nm.getD i emptyB, rOfN (ns.getD i 0))
  | [], ns, _, h, g => by simp at g; subst g; simp at h
  | _ :: _, [], _, h, _ => by simp at h
  | a :: nm, n :: ns, 0, _, _ => rfl
  | a :: nm, n :: ns, i + 1, h, g => by
    show (zipP nm ns)[i]? = _
    rw [zipP_at nm ns i (by simpa using h) (by simpa using g)]
    simp
theorem zipP_get {nm : List ByteArray} (hn : NmOk nm) (ns : List Int) (i : Nat) (h : i < ns.length) (g : ns.length ≤ nm.length) : getL (zipP nm ns) (nm.getD i emptyB) = some (rOfN (ns.getD i 0)) :=
  (getL_some (zipP_sort nm ns hn)).2 (List.mem_of_getElem? (zipP_at nm ns i h g))
theorem zipP_put : ∀ (nm : List ByteArray) (ns : List Int) (i : Nat) (v : Int), NmOk nm → i < ns.length → ns.length ≤ nm.length → putL (zipP nm ns) (nm.getD i emptyB) (rOfN v) = zipP nm (ns.set i v)
  | [], ns, _, _, _, h, g => by simp at g; subst g; simp at h
  | _ :: _, [], _, _, _, h, _ => by simp at h
  | a :: nm, n :: ns, 0, v, _, _, _ => by
    show putL ((a, rOfN n) :: zipP nm ns) a (rOfN v) = (a, rOfN v) :: zipP nm ns
    rw [putL, if_neg (by rw [klt_irrefl]; simp), if_pos rfl]
  | a :: nm, n :: ns, i + 1, v, hn, h, g => by
    have hi : i < nm.length := by simp at h g; omega
    have hm : klt a (nm.getD i emptyB) = true := by
      refine (List.pairwise_cons.1 hn).1 _ ?_
      rw [List.getD_eq_getElem?_getD, List.getElem?_eq_getElem hi]
      exact List.getElem_mem hi
    show putL ((a, rOfN n) :: zipP nm ns) (nm.getD i emptyB) (rOfN v) = (a, rOfN n) :: zipP nm (ns.set i v)
    rw [putL, if_pos hm, zipP_put nm ns i v (List.pairwise_cons.1 hn).2 (by simpa using h) (by simpa using g)]
theorem zipP_snoc : ∀ (nm : List ByteArray) (ns : List Int) (i : Nat), i < ns.length → ns.length ≤ nm.length → zipP nm (ns.take (i + 1)) = zipP nm (ns.take i) ++ [(nm.getD i emptyB, rOfN (ns.getD i 0))]
  | [], ns, _, h, g => by simp at g; subst g; simp at h
  | _ :: _, [], _, h, _ => by simp at h
  | a :: nm, n :: ns, 0, _, _ => by cases nm <;> simp [zipP]
  | a :: nm, n :: ns, i + 1, h, g => by
    show (a, rOfN n) :: zipP nm (ns.take (i + 1)) = (a, rOfN n) :: (zipP nm (ns.take i) ++ _)
    rw [zipP_snoc nm ns i (by simpa using h) (by simpa using g)]
    simp
def pairsP (nm : List ByteArray) (ns : List Int) : List S61 := (zipP nm ns).map ofA
theorem pairsP_len {nm : List ByteArray} {ns : List Int} (h : ns.length ≤ nm.length) : (pairsP nm ns).length = ns.length := by unfold pairsP; rw [List.length_map, zipP_len nm ns h]
theorem pairsP_at {nm : List ByteArray} {ns : List Int} {i : Nat} (h : i < ns.length) (g : ns.length ≤ nm.length) : rd_T61 (pairsP nm ns) (i : Int) = ⟨nm.getD i emptyB, rOfN (ns.getD i 0)⟩ := by
  unfold rd_T61 pairsP
  rw [Int.toNat_natCast, List.getD_eq_getElem?_getD, List.getElem?_map, zipP_at nm ns i h g]; rfl
theorem pairsP_map (nm : List ByteArray) (ns : List Int) : (pairsP nm ns).map toA = zipP nm ns := map_toA_ofA _
theorem getD_set_ne {ns : List Int} {i j : Nat} (v : Int) (h : i ≠ j) : (ns.set i v).getD j 0 = ns.getD j 0 := by
  simp only [List.getD_eq_getElem?_getD, List.getElem?_set_ne h]
theorem sum_set : ∀ (ns : List Int) (i : Nat) (v : Int), i < ns.length → (ns.set i v).sum = ns.sum - ns.getD i 0 + v
  | [], _, _, h => by simp at h
  | n :: ns, 0, v, _ => by simp [List.set_cons_zero]; omega
  | n :: ns, i + 1, v, h => by
    have := sum_set ns i v (by simpa using h)
    simp only [List.set_cons_succ, List.sum_cons, List.getD_cons_succ]
    omega
theorem sum_nonneg : ∀ (ns : List Int), (∀ x ∈ ns, 0 ≤ x) → 0 ≤ ns.sum
  | [], _ => by simp
  | n :: ns, h => by
    have h1 := sum_nonneg ns (fun x hx => h x (List.mem_cons_of_mem _ hx))
    have h2 := h n (List.mem_cons_self ..)
    rw [List.sum_cons]; omega
theorem le_sum : ∀ (ns : List Int), (∀ x ∈ ns, 0 ≤ x) → ∀ x ∈ ns, x ≤ ns.sum
  | [], _, _, h => by cases h
  | n :: ns, h, x, hx => by
    have h0 := fun x hx => h x (List.mem_cons_of_mem n hx)
    have h1 := sum_nonneg ns h0
    have h2 := h n (List.mem_cons_self ..)
    rw [List.sum_cons]
    rcases List.mem_cons.1 hx with rfl | hx
    · omega
    · have := le_sum ns h0 x hx; omega
theorem getD_mem {ns : List Int} {i : Nat} (h : i < ns.length) : ns.getD i 0 ∈ ns := by
  rw [List.getD_eq_getElem?_getD, List.getElem?_eq_getElem h]; exact List.getElem_mem h
theorem sum_take : ∀ (ns : List Int) (i : Nat), i < ns.length → (ns.take (i + 1)).sum = (ns.take i).sum + ns.getD i 0
  | [], _, h => by simp at h
  | n :: ns, 0, _ => by simp
  | n :: ns, i + 1, h => by
    have := sum_take ns i (by simpa using h)
    simp only [List.take_succ_cons, List.sum_cons, List.getD_cons_succ] at this ⊢
    omega
theorem take_nonneg {ns : List Int} (h : ∀ x ∈ ns, 0 ≤ x) (i : Nat) : ∀ x ∈ ns.take i, 0 ≤ x := fun x hx => h x (List.mem_of_mem_take hx)
theorem sum_take_le : ∀ (ns : List Int) (i : Nat), (∀ x ∈ ns, 0 ≤ x) → (ns.take i).sum ≤ ns.sum
  | [], _, _ => by simp
  | n :: ns, 0, h => by simpa using sum_nonneg (n :: ns) h
  | n :: ns, i + 1, h => by
    have := sum_take_le ns i (fun x hx => h x (List.mem_cons_of_mem _ hx))
    simp only [List.take_succ_cons, List.sum_cons]
    omega
def nmL : List ByteArray := [⟨#[97]⟩, ⟨#[98]⟩, ⟨#[99]⟩, ⟨#[100]⟩, ⟨#[101]⟩]
theorem nmL_ok : NmOk nmL := by unfold NmOk nmL; simp [klt, Op.bytesLess]
theorem nmL_ne {i j : Nat} (hi : i < 5) (hj : j < 5) (h : i ≠ j) : nmL.getD i emptyB ≠ nmL.getD j emptyB := by
  have : ∀ i < 5, ∀ j < 5, i ≠ j → nmL.getD i emptyB ≠ nmL.getD j emptyB := by decide +kernel
  exact this i hi j hj h
theorem nmL_size (i : Nat) : (nmL.getD i emptyB).size ≤ 16 := by
  rcases i with _ | _ | _ | _ | _ | i
  · decide +kernel
  · decide +kernel
  · decide +kernel
  · decide +kernel
  · decide +kernel
  · show emptyB.size ≤ 16; decide
structure Fit (ns : List Int) (t : Int) : Prop where
  l0 : 2 ≤ ns.length
  l1 : ns.length ≤ 5
  nn : ∀ x ∈ ns, 0 ≤ x
  sum : ns.sum = t
  tot : t ≤ 5000000
theorem ev_l2 (ns : List Int) (t : Int) (h : Fit ns t) : ∀ (m i : Nat), i + m = ns.length → Ev (fun k => folkmootlaw08_TxnSum.l2 k ns nmL (pairsP nmL ns) t (ns.take i).sum (i : Int)) true
  | 0, i, e => by
    have hl := pairsP_len (nm := nmL) (ns := ns) (show _ ≤ 5 from h.l1)
    refine Ev.succ ?_
    simp only [folkmootlaw08_TxnSum.l2]
    refine Ev.no (by omega) (Ev.yes ?_ (Ev.yes (by omega) ev_live))
    rw [List.take_of_length_le (by omega)]; exact h.sum
  | m + 1, i, e => by
    have hl := pairsP_len (nm := nmL) (ns := ns) (show _ ≤ 5 from h.l1)
    have h1 := h.l1
    have hs := sum_take ns i (by omega)
    have hle := sum_take_le ns (i + 1) h.nn
    have hnn := sum_nonneg _ (take_nonneg h.nn (i + 1))
    have ht := h.tot
    have hsm := h.sum
    have hrd : rd ns (i : Int) = ns.getD i 0 := by unfold rd; rw [Int.toNat_natCast]
    have hnm : (nmL.length : Int) = 5 := rfl
    have ih := ev_l2 ns t h m (i + 1) (by omega)
    rw [hs] at ih
    refine Ev.succ ?_
    simp only [folkmootlaw08_TxnSum.l2]
    rw [w64_succ (by omega), hrd, w64_of (x := (ns.take i).sum + ns.getD i 0) (by omega) (by omega), pairsP_at (by omega) (show _ ≤ 5 from h.l1)]
    refine Ev.yes (by omega) (Ev.yes (by omega) (Ev.no (by omega) (Ev.yes (by omega) (Ev.yes (by omega) (Ev.bind1 rfl (Ev.no ?_ ih))))))
    have : rdOf ByteArray.empty nmL (i : Int) = nmL.getD i emptyB := by unfold rdOf; rw [Int.toNat_natCast]; rfl
    rw [this]
    simp
theorem ge_r {x n : Int} (hx : 0 ≤ x) (hx2 : x < 9007199254740992) (hn : 0 ≤ n) (hn2 : n < 9007199254740992) : (geN (rOfN x) (rOfN n) && geN (rOfN n) 0) = decide (n ≤ x) := by
  rw [rOf_wN hx, rOf_wN hn, show (0 : Int) = wN 0 from wN_zero.symm, ge_wN (by omega) (by omega), ge_wN (by omega) (by omega)]
  by_cases h : n ≤ x
  · rw [decide_eq_true h, decide_eq_true (by omega), decide_eq_true (by omega)]; rfl
  · rw [decide_eq_false h, decide_eq_false (by omega)]; rfl
theorem sub_r {x n : Int} (hn : 0 ≤ n) (hx : n ≤ x) (hx2 : x < 9007199254740992) : addN (rOfN x) (negN (rOfN n)) = rOfN (x - n) := by
  rw [rOf_wN (show 0 ≤ x by omega), rOf_wN hn, rOf_wN (show 0 ≤ x - n by omega), sub_wN (by omega) (by omega)]
  congr 1; omega
theorem add_r {x n : Int} (hx : 0 ≤ x) (hn : 0 ≤ n) (h : x + n < 9007199254740992) : addN (rOfN x) (rOfN n) = rOfN (x + n) := by
  rw [rOf_wN hx, rOf_wN hn, rOf_wN (show 0 ≤ x + n by omega), add_wN (by omega)]
  congr 1; omega
def opL (a b : Nat) (n : Int) : S63 := ⟨6, nmL.getD a emptyB, nmL.getD b emptyB, rOfN n⟩
def nsT (ns : List Int) (a b : Nat) (n : Int) : List Int := (ns.set a (ns.getD a 0 - n)).set b (ns.getD b 0 + n)
theorem Fit.bnd {ns : List Int} {t : Int} (h : Fit ns t) {i : Nat} (hi : i < ns.length) : 0 ≤ ns.getD i 0 ∧ ns.getD i 0 ≤ 5000000 := by
  have h1 := h.nn _ (getD_mem hi)
  have h2 := le_sum ns h.nn _ (getD_mem hi)
  have h3 := h.sum
  have h4 := h.tot
  omega
theorem Fit.next {ns : List Int} {t : Int} (h : Fit ns t) {a b : Nat} (ha : a < ns.length) (hb : b < ns.length) (hab : a ≠ b) {n : Int} (hn : 0 ≤ n) (hle : n ≤ ns.getD a 0) : Fit (nsT ns a b n) t := by
  have h1 := h.bnd ha
  have h2 := h.bnd hb
  refine ⟨by simp [nsT]; exact h.l0, by simp [nsT]; exact h.l1, fun x hx => ?_, ?_, h.tot⟩
  · rcases List.mem_or_eq_of_mem_set hx with hx | rfl
    · rcases List.mem_or_eq_of_mem_set hx with hx | rfl
      · exact h.nn x hx
      · omega
    · omega
  · unfold nsT
    rw [sum_set _ _ _ (by simpa using hb), sum_set _ _ _ ha, getD_set_ne _ hab, h.sum]
    omega
theorem startP {ns : List Int} : startT (pairsP nmL ns) = ⟨zipP nmL ns, []⟩ := by
  have hs : SortK ((pairsP nmL ns).map toA) := by rw [pairsP_map]; exact zipP_sort _ _ nmL_ok
  unfold startT
  rw [mapT_id hs, pairsP_map]
theorem at_P {ns : List Int} {c : List (ByteArray × Bool)} {i : Nat} (h : i < ns.length) (g : ns.length ≤ 5) : St.at ⟨zipP nmL ns, c⟩ (nmL.getD i emptyB) = rOfN (ns.getD i 0) := by
  unfold St.at
  rw [zipP_get nmL_ok ns i h g]; rfl
theorem step_yes {ns : List Int} {t : Int} (h : Fit ns t) {a b : Nat} (ha : a < ns.length) (hb : b < ns.length) (hab : a ≠ b) {n : Int} (hn : 0 ≤ n) (hn2 : n ≤ 1000000) (hle : n ≤ ns.getD a 0) :
    (stepS (opL a b n) ⟨zipP nmL ns, []⟩).d = zipP nmL (nsT ns a b n) ∧ (stepS (opL a b n) ⟨zipP nmL ns, []⟩).c.length = 2 ∧ stepA (opL a b n) ⟨zipP nmL ns, []⟩ = ⟨true, 0, []⟩ := by
  have h5 := h.l1
  have h1 := h.bnd ha
  have h2 := h.bnd hb
  have hg : (geN (St.at ⟨zipP nmL ns, []⟩ (nmL.getD a emptyB)) (rOfN n) && geN (rOfN n) 0) = true := by
    rw [at_P ha h5, ge_r (by omega) (by omega) (by omega) (by omega)]; exact decide_eq_true hle
  have e : stepS (opL a b n) ⟨zipP nmL ns, []⟩ = ⟨zipP nmL (nsT ns a b n), putL (putL [] (nmL.getD a emptyB) true) (nmL.getD b emptyB) true⟩ := by
    simp only [stepS, opL, hg]
    simp only [St.put, at_P ha h5]
    rw [sub_r hn hle (by omega), zipP_put nmL ns a (ns.getD a 0 - n) nmL_ok ha h5]
    have hat := at_P (ns := ns.set a (ns.getD a 0 - n)) (c := putL [] (nmL.getD a emptyB) true) (i := b) (by simpa using hb) (by simpa using h5)
    rw [getD_set_ne _ hab] at hat
    rw [hat, add_r (x := ns.getD b 0) (by omega) hn (by omega), zipP_put nmL (ns.set a (ns.getD a 0 - n)) b (ns.getD b 0 + n) nmL_ok (by simpa using hb) (by rw [List.length_set]; exact h5)]
    rfl
  refine ⟨by rw [e], ?_, ?_⟩
  · rw [e]
    show (putL [(nmL.getD a emptyB, true)] (nmL.getD b emptyB) true).length = 2
    rw [putL_len (List.pairwise_singleton _ _), getL_cons, if_neg (nmL_ne (by omega) (by omega) hab)]
    rfl
  · simp only [stepA, opL, hg]; rfl
theorem step_no {ns : List Int} {t : Int} (h : Fit ns t) {a b : Nat} (ha : a < ns.length) {n : Int} (hn : 0 ≤ n) (hn2 : n ≤ 1000000) (hle : ¬ n ≤ ns.getD a 0) :
    stepS (opL a b n) ⟨zipP nmL ns, []⟩ = ⟨zipP nmL ns, []⟩ ∧ stepA (opL a b n) ⟨zipP nmL ns, []⟩ = ⟨false, 0, []⟩ := by
  have h5 := h.l1
  have h1 := h.bnd ha
  have hg : (geN (St.at ⟨zipP nmL ns, []⟩ (nmL.getD a emptyB)) (rOfN n) && geN (rOfN n) 0) = false := by
    rw [at_P ha h5, ge_r (by omega) (by omega) (by omega) (by omega)]; exact decide_eq_false hle
  constructor
  · simp only [stepS, opL, hg]; rfl
  · simp only [stepA, opL, hg]; rfl
theorem sum_eval {ns : List Int} {t : Int} (h : Fit ns t) (a b : Nat) (n : Int) : txn_Eval.f [opL a b n] (pairsP nmL ns) = some (writesT (stepS (opL a b n) ⟨zipP nmL ns, []⟩), [stepA (opL a b n) ⟨zipP nmL ns, []⟩]) := by
  have h5 := h.l1
  have hl := pairsP_len (nm := nmL) (ns := ns) (show _ ≤ 5 from h5)
  unfold txn_Eval.f
  rw [if_pos, startP]
  · rfl
  · refine ⟨(show 1 ≤ 1000 by decide), fun o ho => ?_, by omega, fun p hp => ?_⟩
    · rw [List.mem_singleton.1 ho]
      exact ⟨Nat.le_trans (nmL_size a) (by decide), Nat.le_trans (nmL_size b) (by decide)⟩
    · obtain ⟨y, hy, rfl⟩ := List.mem_map.1 hp
      have hm := zipP_mem _ _ _ hy
      have hall : ∀ k ∈ nmL, k.size ≤ 16 := by decide +kernel
      exact Nat.le_trans (hall _ hm) (by decide)
theorem sum_apply {ns : List Int} {t : Int} (h : Fit ns t) (a b : Nat) (n : Int) (s : St) (hs : s = stepS (opL a b n) ⟨zipP nmL ns, []⟩) (hc : s.c.length ≤ 2) : txn_Apply.f (pairsP nmL ns) (writesT s) = some (s.d.map ofA) := by
  have h5 := h.l1
  have hl := pairsP_len (nm := nmL) (ns := ns) (show _ ≤ 5 from h5)
  have hso : SortK ((pairsP nmL ns).map toA) := by rw [pairsP_map]; exact zipP_sort _ _ nmL_ok
  rw [apply_f hso (by rw [writes_len]; omega), wr_start (pairsP nmL ns) hso [opL a b n] (by rw [hs, startP]; rfl)]
theorem ev_j5 (x1 x2 x3 : List Int) (ns : List Int) (t : Int) (h : Fit ns t) (i a b : Nat) (ha : a < ns.length) (hb : b < ns.length) (hab : a ≠ b) (hi : i < x3.length) (hi9 : x3.length < 9223372036854775807) (hn : 0 ≤ x3.getD i 0) (hn2 : x3.getD i 0 ≤ 1000000)
    (ih : ∀ ns', Fit ns' t → Ev (fun k => folkmootlaw08_TxnSum.l1 k x1 x2 x3 ns' nmL (pairsP nmL ns') t ((i + 1 : Nat) : Int)) true) :
    Ev (fun k => folkmootlaw08_TxnSum.j5 k x1 x2 x3 ns nmL (pairsP nmL ns) t (i : Int) (a : Int) (b : Int) (writesT (stepS (opL a b (x3.getD i 0)) ⟨zipP nmL ns, []⟩)) (decide (ns.getD a 0 ≥ x3.getD i 0)) false) true := by
  have hrd : ∀ (l : List Int) (j : Nat), rd l (j : Int) = l.getD j 0 := fun l j => by unfold rd; rw [Int.toNat_natCast]
  have h1 := h.bnd ha
  have h2 := h.bnd hb
  refine Ev.succ ?_
  simp only [folkmootlaw08_TxnSum.j5]
  simp only [hrd, Int.toNat_natCast]
  rw [w64_succ (by omega), w64_of (x := ns.getD a 0 - x3.getD i 0) (by omega) (by omega), w64_of (x := ns.getD b 0 + x3.getD i 0) (by omega) (by omega)]
  refine Ev.no (by decide) (Ev.cond (fun hy => ?_) (fun hy => ?_))
  · have hle : x3.getD i 0 ≤ ns.getD a 0 := of_decide_eq_true hy
    obtain ⟨g1, g2, g3⟩ := step_yes h ha hb hab hn hn2 hle
    refine Ev.yes (by omega) (Ev.yes (by omega) (Ev.yes (by omega) (Ev.yes (by omega) (Ev.yes (by omega) (Ev.yes (by omega) (Ev.bind1 (sum_apply h a b _ _ rfl (by omega)) ?_))))))
    rw [g1]
    exact ih _ (h.next ha hb hab hn hle)
  · have hle : ¬ x3.getD i 0 ≤ ns.getD a 0 := fun e => hy (decide_eq_true e)
    obtain ⟨g1, g2⟩ := step_no (b := b) h ha hn hn2 hle
    refine Ev.bind1 (sum_apply h a b _ _ rfl (by rw [g1]; exact Nat.zero_le _)) ?_
    rw [g1]
    exact ih _ h
theorem ev_j4 (x1 x2 x3 : List Int) (ns : List Int) (t : Int) (h : Fit ns t) (i : Nat) (a b : Int) (q : Bool) (hi : i < x3.length) (hi9 : x3.length < 9223372036854775807)
    (hq : q = false → 0 ≤ a ∧ a < (ns.length : Int) ∧ 0 ≤ b ∧ b < (ns.length : Int) ∧ a ≠ b ∧ 0 ≤ x3.getD i 0 ∧ x3.getD i 0 ≤ 1000000)
    (ih : ∀ ns', Fit ns' t → Ev (fun k => folkmootlaw08_TxnSum.l1 k x1 x2 x3 ns' nmL (pairsP nmL ns') t ((i + 1 : Nat) : Int)) true) :
    Ev (fun k => folkmootlaw08_TxnSum.j4 k x1 x2 x3 ns nmL (pairsP nmL ns) t (i : Int) a b q) true := by
  have hrd : ∀ (l : List Int) (j : Nat), rd l (j : Int) = l.getD j 0 := fun l j => by unfold rd; rw [Int.toNat_natCast]
  have hrn : ∀ (j : Nat), rdOf ByteArray.empty nmL (j : Int) = nmL.getD j emptyB := fun j => by unfold rdOf; rw [Int.toNat_natCast]; rfl
  have hnm : (nmL.length : Int) = 5 := rfl
  have h5 := h.l1
  refine Ev.succ ?_
  simp only [folkmootlaw08_TxnSum.j4]
  refine Ev.cond (fun _ => ev_live) (fun hqq => ?_)
  obtain ⟨q1, q2, q3, q4, q5, q6, q7⟩ := hq (by simpa using hqq)
  obtain ⟨a, rfl⟩ : ∃ m : Nat, a = (m : Int) := ⟨a.toNat, by omega⟩
  obtain ⟨b, rfl⟩ : ∃ m : Nat, b = (m : Int) := ⟨b.toNat, by omega⟩
  have ha : a < ns.length := by omega
  have hb : b < ns.length := by omega
  have hab : a ≠ b := fun e => q5 (by rw [e])
  simp only [hrd, hrn]
  have hj := ev_j5 x1 x2 x3 ns t h i a b ha hb hab hi hi9 q6 q7 ih
  have hA : (stepA (opL a b (x3.getD i 0)) ⟨zipP nmL ns, []⟩).f0 = decide (ns.getD a 0 ≥ x3.getD i 0) ∧ (decide (ns.getD a 0 ≥ x3.getD i 0) != (((writesT (stepS (opL a b (x3.getD i 0)) ⟨zipP nmL ns, []⟩)).length : Int) == 2)) = false := by
    by_cases hle : x3.getD i 0 ≤ ns.getD a 0
    · obtain ⟨g1, g2, g3⟩ := step_yes h ha hb hab q6 q7 hle
      rw [g3, writes_len, g2, decide_eq_true (show ns.getD a 0 ≥ x3.getD i 0 from hle)]
      exact ⟨rfl, rfl⟩
    · obtain ⟨g1, g2⟩ := step_no (b := b) h ha q6 q7 hle
      rw [g2, writes_len, g1, decide_eq_false (show ¬ ns.getD a 0 ≥ x3.getD i 0 from hle)]
      exact ⟨rfl, rfl⟩
  have he := sum_eval h a b (x3.getD i 0)
  refine Ev.yes (by omega) (Ev.yes (by omega) (Ev.yes (by omega) (Ev.yes (by omega) (Ev.yes (by omega) (Ev.yes (by omega) (Ev.bind1 rfl (Ev.bind1 he (Ev.yes (by omega) (Ev.yes rfl (Ev.yes (show (0 : Int) < ((1 : Nat) : Int) by decide) (Ev.no ?_ ?_)))))))))))
  · show ¬ ((stepA (opL a b (x3.getD i 0)) ⟨zipP nmL ns, []⟩).f0 != decide (ns.getD a 0 ≥ x3.getD i 0)) = true
    rw [hA.1]; simp
  · rw [hA.2]; exact hj
theorem ev_l1 (x1 x2 x3 : List Int) (t : Int) (h1 : x1.length ≤ 20) (h2 : x1.length ≤ x2.length) (h3 : x1.length ≤ x3.length) (h9 : x3.length < 9223372036854775807) :
    ∀ (m i : Nat) (ns : List Int), i + m = x1.length → Fit ns t → Ev (fun k => folkmootlaw08_TxnSum.l1 k x1 x2 x3 ns nmL (pairsP nmL ns) t (i : Int)) true
  | 0, i, ns, e, h => by
    refine Ev.succ ?_
    simp only [folkmootlaw08_TxnSum.l1]
    refine Ev.no (by omega) ?_
    have := ev_l2 ns t h ns.length 0 (by omega)
    simpa using this
  | m + 1, i, ns, e, h => by
    have hrd : ∀ (l : List Int) (j : Nat), rd l (j : Int) = l.getD j 0 := fun l j => by unfold rd; rw [Int.toNat_natCast]
    have ih := fun ns' (h' : Fit ns' t) => ev_l1 x1 x2 x3 t h1 h2 h3 h9 m (i + 1) ns' (by omega) h'
    have hj : ∀ (a b : Int) (q : Bool), (q = false → 0 ≤ a ∧ a < (ns.length : Int) ∧ 0 ≤ b ∧ b < (ns.length : Int) ∧ a ≠ b ∧ 0 ≤ x3.getD i 0 ∧ x3.getD i 0 ≤ 1000000) → Ev (fun k => folkmootlaw08_TxnSum.j4 k x1 x2 x3 ns nmL (pairsP nmL ns) t (i : Int) a b q) true :=
      fun a b q hq => ev_j4 x1 x2 x3 ns t h i a b q (by omega) h9 hq ih
    refine Ev.succ ?_
    simp only [folkmootlaw08_TxnSum.l1, hrd]
    have ht := fun a b => hj a b true (fun h => by cases h)
    refine Ev.yes (by omega) (Ev.yes (by omega) (Ev.yes (by omega) (Ev.cond (fun _ => ht _ _) (fun g1 => Ev.cond (fun _ => ht _ _) (fun g2 => Ev.cond (fun _ => ht _ _) (fun g3 => Ev.cond (fun _ => ht _ _) (fun g4 => Ev.cond (fun _ => ht _ _) (fun g5 => Ev.yes (by omega) (Ev.cond (fun _ => ht _ _) (fun g6 => hj _ _ _ (fun g7 => ?_)))))))))))
    have := of_decide_eq_false g7
    exact ⟨by omega, by omega, by omega, by omega, g5, by omega, by omega⟩
theorem ev_l0 (x1 x2 x3 ns : List Int) (h1 : x1.length ≤ 20) (h2 : x1.length ≤ x2.length) (h3 : x1.length ≤ x3.length) (h9 : x3.length < 9223372036854775807) (hl0 : 2 ≤ ns.length) (hl1 : ns.length ≤ 5) :
    ∀ (m i : Nat), i + m = ns.length → (∀ x ∈ ns.take i, 0 ≤ x ∧ x ≤ 1000000) → Ev (fun k => folkmootlaw08_TxnSum.l0 k x1 x2 x3 ns nmL (pairsP nmL (ns.take i)) (ns.take i).sum (i : Int)) true
  | 0, i, e, h => by
    rw [List.take_of_length_le (by omega)] at h ⊢
    refine Ev.succ ?_
    simp only [folkmootlaw08_TxnSum.l0]
    refine Ev.no (by omega) (ev_l1 x1 x2 x3 ns.sum h1 h2 h3 h9 x1.length 0 ns (by omega) ⟨hl0, hl1, fun x hx => (h x hx).1, rfl, ?_⟩)
    have : ∀ (l : List Int), (∀ x ∈ l, 0 ≤ x ∧ x ≤ 1000000) → l.sum ≤ 1000000 * l.length := by
      intro l
      induction l with
      | nil => intro _; simp
      | cons n l ih =>
        intro hl
        have g1 := ih (fun x hx => hl x (List.mem_cons_of_mem _ hx))
        have g2 := (hl n (List.mem_cons_self ..)).2
        rw [List.sum_cons, List.length_cons]; omega
    have := this ns h
    omega
  | m + 1, i, e, h => by
    have hrd : ∀ (l : List Int) (j : Nat), rd l (j : Int) = l.getD j 0 := fun l j => by unfold rd; rw [Int.toNat_natCast]
    have hrn : ∀ (j : Nat), rdOf ByteArray.empty nmL (j : Int) = nmL.getD j emptyB := fun j => by unfold rdOf; rw [Int.toNat_natCast]; rfl
    have hnm : (nmL.length : Int) = 5 := rfl
    have hj : ∀ q : Bool, (q = false → 0 ≤ ns.getD i 0 ∧ ns.getD i 0 ≤ 1000000) → Ev (fun k => folkmootlaw08_TxnSum.j2 k x1 x2 x3 ns nmL (pairsP nmL (ns.take i)) (ns.take i).sum (i : Int) q) true := fun q hq => by
      refine Ev.succ ?_
      simp only [folkmootlaw08_TxnSum.j2, hrd, hrn]
      refine Ev.cond (fun _ => ev_live) (fun hqq => ?_)
      obtain ⟨g1, g2⟩ := hq (by simpa using hqq)
      have htk : ∀ x ∈ ns.take (i + 1), 0 ≤ x ∧ x ≤ 1000000 := fun x hx => by
        rw [(List.take_append_getElem (show i < ns.length by omega)).symm] at hx
        rcases List.mem_append.1 hx with hx | hx
        · exact h x hx
        · rw [List.mem_singleton.1 hx]
          rw [List.getD_eq_getElem?_getD, List.getElem?_eq_getElem (show i < ns.length by omega)] at g1 g2
          exact ⟨g1, g2⟩
      have ih := ev_l0 x1 x2 x3 ns h1 h2 h3 h9 hl0 hl1 m (i + 1) (by omega) htk
      have hsn := sum_nonneg (ns.take i) (fun x hx => (h x hx).1)
      have hsb : (ns.take i).sum ≤ 5000000 := by
        have : ∀ (l : List Int), (∀ x ∈ l, 0 ≤ x ∧ x ≤ 1000000) → l.sum ≤ 1000000 * l.length := by
          intro l
          induction l with
          | nil => intro _; simp
          | cons n l ih =>
            intro hl
            have g1 := ih (fun x hx => hl x (List.mem_cons_of_mem _ hx))
            have g2 := (hl n (List.mem_cons_self ..)).2
            rw [List.sum_cons, List.length_cons]; omega
        have g := this _ h
        rw [List.length_take] at g
        omega
      rw [sum_take ns i (by omega)] at ih
      have hp : pairsP nmL (ns.take (i + 1)) = pairsP nmL (ns.take i) ++ [⟨nmL.getD i emptyB, rOfN (ns.getD i 0)⟩] := by
        unfold pairsP
        rw [zipP_snoc nmL ns i (by omega) (show _ ≤ 5 from hl1), List.map_append]; rfl
      rw [hp] at ih
      rw [w64_succ (by omega), w64_of (x := (ns.take i).sum + ns.getD i 0) (by omega) (by omega)]
      refine Ev.yes (by omega) (Ev.yes (by omega) (Ev.yes (by omega) (Ev.bind1 rfl (Ev.yes ?_ ih))))
      rw [pairsP_len (by rw [List.length_take]; show _ ≤ 5; omega), List.length_take]; omega
    refine Ev.succ ?_
    simp only [folkmootlaw08_TxnSum.l0, hrd]
    refine Ev.yes (by omega) (Ev.yes (by omega) (Ev.cond (fun _ => hj true (fun h => by cases h)) (fun g1 => hj _ (fun g2 => ?_))))
    have := of_decide_eq_false g2
    omega
theorem ev_sum (l0 l1 l2 l3 : List Int) (h0 : l0.length < 17592186044416) (h3 : l3.length < 9223372036854775807) : Ev (fun k => folkmootlaw08_TxnSum.f k l0 l1 l2 l3) true := by
  have hj : ∀ q : Bool, (q = false → 2 ≤ l0.length ∧ l0.length ≤ 5 ∧ l1.length ≤ 20 ∧ l1.length ≤ l2.length ∧ l1.length ≤ l3.length) → Ev (fun k => folkmootlaw08_TxnSum.j0 k l1 l2 l3 l0 q) true := fun q hq => by
    refine Ev.succ ?_
    simp only [folkmootlaw08_TxnSum.j0]
    refine Ev.cond (fun _ => ev_live) (fun hqq => ?_)
    obtain ⟨g1, g2, g3, g4, g5⟩ := hq (by simpa using hqq)
    have := ev_l0 l1 l2 l3 l0 g3 g4 g5 h3 g1 g2 l0.length 0 (by omega) (fun x hx => by simp at hx)
    simpa [pairsP, zipP, nmL] using this
  have ht := hj true (fun h => by cases h)
  unfold folkmootlaw08_TxnSum.f
  refine Ev.bind1 rfl (Ev.yes (by simpa using h0) (Ev.bind1 rfl ?_))
  simp only [List.nil_append]
  refine Ev.cond (fun _ => ht) (fun g1 => Ev.cond (fun _ => ht) (fun g2 => Ev.cond (fun _ => ht) (fun g3 => Ev.cond (fun _ => ht) (fun g4 => hj _ (fun g5 => ?_)))))
  have := of_decide_eq_false g5
  omega
end Go.Proofs.YtgmlenpcchhmbaaGreat.P
end
section
set_option linter.unusedVariables false
set_option linter.unusedSimpArgs false
namespace Go.Proofs.YtgmlenpcchhmbaaGreat.Pure
open Go.RowKit Go.Proofs.YtgmlenpcchhmbaaGreat.P
theorem TxnSum : folkmootlaw08_TxnSum.Pure := fun l0 l1 l2 l3 _ h0 _ _ _ _ _ _ _ _ h3 _ => (ev_sum l0 l1 l2 l3 (by omega) (by omega)).get
end Go.Proofs.YtgmlenpcchhmbaaGreat.Pure
end
