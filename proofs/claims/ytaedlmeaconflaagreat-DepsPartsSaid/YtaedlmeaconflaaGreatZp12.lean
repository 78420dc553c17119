/- what the claim's row stands on, part 12. -/
import Derived.Test.YtaedlmeaconflaaGreatZp10
import Derived.Test.YtaedlmeaconflaaGreatZp11
section
set_option linter.unusedVariables false
set_option linter.unusedSimpArgs false
namespace Go.Proofs.YtaedlmeaconflaaGreat.P
open Go.RowKit Go.Sort Go.Shelf Go.Proofs.YtaedlmeaconflaaGreatW.PrintWords Go.Proofs.YtaedlmeaconflaaGreatW.PrintLast Go.Proofs.YtaedlmeaconflaaGreatW.PrintMore
theorem filt_sum {α : Type} (p : α → Bool) : ∀ l : List α, (l.filter p).length + (l.filter fun x => !p x).length = l.length
  | [] => rfl
  | x :: l => by
    have := filt_sum p l
    rw [List.filter_cons, List.filter_cons]
    cases p x <;> simp <;> omega
theorem idsOf_ext {ds es : List S26} (h : ∀ x, x ∈ ds ↔ x ∈ es) (n : Int) : setS (idsOf ds n) = setS (idsOf es n) :=
  setS_ext fun s => by
    rw [mem_idsOf, mem_idsOf]
    exact ⟨fun ⟨d, hd, k⟩ => ⟨d, (h d).1 hd, k⟩, fun ⟨d, hd, k⟩ => ⟨d, (h d).2 hd, k⟩⟩
theorem mergeD_ext {ds es : List S26} (hb : ∀ d ∈ ds, 0 ≤ d.f0 ∧ d.f0 ≤ 1000) (h : ∀ x, x ∈ ds ↔ x ∈ es) : mergeD ds = mergeD es := by
  refine rise_extD (mergeD_rise ds) (mergeD_rise es) fun e => ?_
  rw [mergeD_mem ds hb, mergeD_mem es (fun d hd => hb d ((h d).2 hd)), idsOf_ext h]
  exact and_congr_left fun _ => ⟨fun ⟨d, hd, k⟩ => ⟨d, (h d).1 hd, k⟩, fun ⟨d, hd, k⟩ => ⟨d, (h d).2 hd, k⟩⟩
theorem good_chk {d : List S26} (h : Good d 512) : chkD d = 0 := by
  rw [← chkB_iff]
  unfold chkB
  rw [decide_eq_true_eq]
  have h1 := h.all
  have h2 := h.len
  have hw : wsum d = ((allD d).length : Int) := by
    have := wsum_eq d 0 (by omega) (by omega)
    unfold wsum
    omega
  exact ⟨h.len, by omega, h.shards, fun x hx => ⟨(h.low x hx).1, (h.low x hx).2, h.asc x hx, h.is x hx⟩⟩
theorem only_f {d : List S26} {n : Nat} (h : Good d n) (sh : List Int) : deps_Only.f d sh = some (d.filter fun x => decide (x.f0 ∈ sh)) := by
  unfold deps_Only.f
  have := h.len
  exact if_pos (by omega)
theorem without_f {d : List S26} {n : Nat} (h : Good d n) (hn : n ≤ 1000000) (ids : List S41) : deps_Without.f d ids = some (mapD (fun l => l.filter fun x => !decide (x ∈ ids)) d) := by
  unfold deps_Without.f
  have := h.len
  exact if_pos ⟨by omega, fun x hx => by have := h.one hx; omega⟩
theorem ev_inner (d : List S26) (sh : List Int) (ids : List S41) (rest : List Int) (i : Nat) (hi : i < d.length) (hsh : sh.length ≤ 20) (hrest : rest.length ≤ 8) (r : Bool)
    (hin : d[i].f0 ∈ sh → Ev (fun k => folkmootlaw06_DepsParts.l0 k d sh ids rest (wrap64 ((i : Int) + 1))) r) (hout : d[i].f0 ∉ sh → Ev (fun k => folkmootlaw06_DepsParts.l0 k d sh ids (rest ++ [d[i].f0]) (wrap64 ((i : Int) + 1))) r) (hd : d.length ≤ 9223372036854775807) :
    ∀ (m j : Nat), j + m = sh.length → Ev (fun k => folkmootlaw06_DepsParts.l1 k d sh ids rest (i : Int) (decide (d[i].f0 ∈ sh.take j)) (j : Int)) r
  | 0, j, h => by
    refine Ev.succ ?_
    simp only [folkmootlaw06_DepsParts.l1]
    rw [List.take_of_length_le (show sh.length ≤ j by omega)]
    refine Ev.no (by omega) (Ev.cond (fun k => hin (of_decide_eq_true k)) (fun k => ?_))
    rw [rdD_nat d hi]
    exact Ev.yes (by omega) (Ev.yes (by omega) (Ev.yes (by omega) (hout fun k2 => k (decide_eq_true k2))))
  | m + 1, j, h => by
    have hj : j < sh.length := by omega
    have ih := ev_inner d sh ids rest i hi hsh hrest r hin hout hd m (j + 1) (by omega)
    have ht : d[i].f0 ∈ sh.take (j + 1) ↔ d[i].f0 ∈ sh.take j ∨ sh[j] = d[i].f0 := by
      rw [List.take_succ_eq_append_getElem hj, List.mem_append, List.mem_singleton]
      exact or_congr Iff.rfl eq_comm
    refine Ev.succ ?_
    simp only [folkmootlaw06_DepsParts.l1]
    rw [rdD_nat d hi, rd_nat sh hj, w64_succ (n := j) (by omega)]
    refine Ev.yes (by omega) (Ev.cond (fun k => ?_) (fun k => ?_))
    · rw [decide_eq_true (ht.2 (.inl (of_decide_eq_true k)))] at ih
      exact ih
    · refine Ev.yes (by omega) (Ev.yes (by omega) (Ev.yes (by omega) ?_))
      have e : (sh[j] == d[i].f0) = decide (d[i].f0 ∈ sh.take (j + 1)) := by
        rw [Bool.eq_iff_iff, decide_eq_true_eq, beq_iff_eq, ht]
        exact ⟨.inr, fun h => h.resolve_left fun k2 => k (decide_eq_true k2)⟩
      rw [e]
      exact ih
def restOf (d : List S26) (sh : List Int) : List Int := (d.filter fun x => !decide (x.f0 ∈ sh)).map (·.f0)
theorem restOf_take {d : List S26} {sh : List Int} {i : Nat} (hi : i < d.length) : restOf (d.take (i + 1)) sh = if d[i].f0 ∈ sh then restOf (d.take i) sh else restOf (d.take i) sh ++ [d[i].f0] := by
  unfold restOf
  rw [List.take_succ_eq_append_getElem hi, List.filter_append, List.map_append]
  split
  · rename_i h; rw [List.filter_cons_of_neg (by simp [h])]; simp
  · rename_i h; rw [List.filter_cons_of_pos (by simp [h])]; simp
theorem restOf_len (d : List S26) (sh : List Int) : (restOf d sh).length ≤ d.length := by
  unfold restOf; rw [List.length_map]; exact List.length_filter_le _ _
theorem ev_l2p (d : List S26) (ids : List S41) (h : Good d 100) (hids : ids.length ≤ 100) : ∀ (m i : Nat), i + m = ids.length →
    Ev (fun k => folkmootlaw06_DepsParts.l2 k d ids (mapD (fun l => l.filter fun x => !decide (x ∈ ids)) d) (setS (allD (mapD (fun l => l.filter fun x => !decide (x ∈ ids)) d))) (i : Int)) true
  | 0, i, hm => by
    have hb := h.map (fun x => !decide (x ∈ ids))
    refine Ev.succ ?_
    simp only [folkmootlaw06_DepsParts.l2]
    have hid : mapD (fun l => l.filter fun x => !decide (x ∈ ids)) (mapD (fun l => l.filter fun x => !decide (x ∈ ids)) d) = mapD (fun l => l.filter fun x => !decide (x ∈ ids)) d := by
      unfold mapD
      rw [List.map_map]
      exact List.map_congr_left fun x _ => D_eq rfl (filt_idem _ _)
    refine Ev.no (by omega) (Ev.bind1 (without_f hb (by omega) ids) ?_)
    rw [hid]
    refine Ev.bind (ev_sameD _ _ (by have := hb.len; omega) (fun x hx => by have := hb.one hx; omega)) (Ev.yes (decide_eq_true rfl) (Ev.yes ?_ (Ev.bind (ev_dcheck _ (fun x hx => by have := hb.one hx; omega) (by have := hb.len; omega)) (Ev.bind1 rfl (Ev.yes (good_chk (hb.mono (by have := hb.all; omega))) ev_live)))))
    unfold mapD
    rw [List.length_map]
  | m + 1, i, hm => by
    have hi : i < ids.length := by omega
    have hb := h.map (fun x => !decide (x ∈ ids))
    refine Ev.succ ?_
    simp only [folkmootlaw06_DepsParts.l2]
    rw [rdS_nat ids hi, w64_succ (by omega)]
    refine Ev.yes (by omega) (Ev.yes (by omega) (Ev.bind (ev_has _ _ _ (by have := setS_len (allD (mapD (fun l => l.filter fun x => !decide (x ∈ ids)) d)); have := hb.all; omega)) ?_))
    have hno : ¬ (⟨ids[i].f0, ids[i].f1⟩ : S41) ∈ setS (allD (mapD (fun l => l.filter fun x => !decide (x ∈ ids)) d)) := by
      rw [setS_mem, mem_allD]
      rintro ⟨y, hy, hs⟩
      obtain ⟨z, _, rfl⟩ := mem_mapD.1 hy
      have := (List.mem_filter.1 hs).2
      simp at this
      exact this (List.getElem_mem hi)
    rw [decide_eq_false hno]
    exact Ev.no (by decide) (ev_l2p d ids h hids m (i + 1) (by omega))
theorem ev_l0p (d : List S26) (sh : List Int) (ids : List S41) (h : Good d 100) (hsh : sh.length ≤ 20) (hids : ids.length ≤ 100) : ∀ (m i : Nat), i + m = d.length → Ev (fun k => folkmootlaw06_DepsParts.l0 k d sh ids (restOf (d.take i) sh) (i : Int)) true
  | 0, i, hm => by
    refine Ev.succ ?_
    simp only [folkmootlaw06_DepsParts.l0]
    rw [List.take_of_length_le (show d.length ≤ i by omega)]
    have hlen := h.len
    have hmem : ∀ x, x ∈ [d.filter (fun x => decide (x.f0 ∈ sh)), d.filter (fun x => decide (x.f0 ∈ restOf d sh))].flatten ↔ x ∈ d := fun x => by
      simp only [List.flatten_cons, List.flatten_nil, List.append_nil, List.mem_append, List.mem_filter, decide_eq_true_eq]
      constructor
      · rintro (k | k) <;> exact k.1
      · intro k
        by_cases hx : x.f0 ∈ sh
        · exact .inl ⟨k, hx⟩
        · exact .inr ⟨k, List.mem_map.2 ⟨x, List.mem_filter.2 ⟨k, by simp [hx]⟩, rfl⟩⟩
    have hrest : (d.filter fun x => decide (x.f0 ∈ restOf d sh)) = d.filter fun x => !decide (x.f0 ∈ sh) := by
      refine List.filter_congr fun x hx => ?_
      rw [Bool.eq_iff_iff, decide_eq_true_eq, Bool.not_eq_true', decide_eq_false_iff_not]
      unfold restOf
      rw [List.mem_map]
      constructor
      · rintro ⟨y, hy, e⟩ k
        have := (List.mem_filter.1 hy).2
        rw [e] at this
        simp [k] at this
      · exact fun k => ⟨x, List.mem_filter.2 ⟨hx, by simp [k]⟩, rfl⟩
    have hlow : ∀ x ∈ [d.filter (fun x => decide (x.f0 ∈ sh)), d.filter (fun x => decide (x.f0 ∈ restOf d sh))].flatten, 0 ≤ x.f0 ∧ x.f0 ≤ 1000 := fun x hx => by
      have := h.low x ((hmem x).1 hx); omega
    have hsum : (d.filter fun x => decide (x.f0 ∈ sh)).length + (d.filter fun x => decide (x.f0 ∈ restOf d sh)).length = d.length := by
      rw [hrest]
      exact filt_sum (fun x => decide (x.f0 ∈ sh)) d
    have hfl : ([d.filter (fun x => decide (x.f0 ∈ sh)), d.filter (fun x => decide (x.f0 ∈ restOf d sh))].flatten).length = d.length := by simp; omega
    have hall : (([d.filter (fun x => decide (x.f0 ∈ sh)), d.filter (fun x => decide (x.f0 ∈ restOf d sh))].flatten).flatMap (·.f1)).length ≤ 1099511627776 := by
      have := allD_le ([d.filter (fun x => decide (x.f0 ∈ sh)), d.filter (fun x => decide (x.f0 ∈ restOf d sh))].flatten) 100 (fun x hx => h.one ((hmem x).1 hx))
      rw [hfl] at this
      unfold allD at this
      omega
    have hmg : deps_Merge.f [d.filter (fun x => decide (x.f0 ∈ sh)), d.filter (fun x => decide (x.f0 ∈ restOf d sh))] = some d := by
      unfold deps_Merge.f
      rw [if_pos ⟨hlow, by omega, hall⟩, mergeD_ext hlow hmem, mergeD_self h.shards (fun x hx => by have := h.low x hx; omega) h.asc]
    refine Ev.no (by omega) (Ev.bind1 (only_f h sh) (Ev.bind1 (only_f h (restOf d sh)) (Ev.bind1 hmg (Ev.bind (ev_sameD _ _ (by omega) (fun x hx => by have := h.one hx; omega)) (Ev.yes (decide_eq_true rfl) ?_)))))
    have hne : (wrap64 (((d.filter fun x => decide (x.f0 ∈ sh)).length : Int) + ((d.filter fun x => decide (x.f0 ∈ restOf d sh)).length : Int)) != (d.length : Int)) = false := by
      rw [w64_of (by omega) (by omega)]
      simp; omega
    rw [hne]
    have hb := h.map (fun x => !decide (x ∈ ids))
    refine Ev.succ ?_
    simp only [folkmootlaw06_DepsParts.j3]
    exact Ev.no (by decide) (Ev.bind1 (without_f h (by omega) ids) (Ev.bind (hb.ev_all (by omega)) (ev_l2p d ids h hids ids.length 0 (by omega))))
  | m + 1, i, hm => by
    have hi : i < d.length := by omega
    have hlen := h.len
    have ih := ev_l0p d sh ids h hsh hids m (i + 1) (by omega)
    rw [restOf_take hi] at ih
    have hrl := restOf_len (d.take i) sh
    rw [List.length_take] at hrl
    refine Ev.succ ?_
    simp only [folkmootlaw06_DepsParts.l0]
    refine Ev.yes (by omega) ?_
    have := ev_inner d sh ids (restOf (d.take i) sh) i hi hsh (by omega) true (fun k => by rw [if_pos k] at ih; rw [w64_succ (by omega)]; exact ih) (fun k => by rw [if_neg k] at ih; rw [w64_succ (by omega)]; exact ih) (by omega) sh.length 0 (by omega)
    simpa using this
theorem depsParts_law (d : List S26) (hd : d.length ≤ 9223372036854775807) (hk : ∀ x ∈ d, x.f1.length ≤ 9223372036854775807) (sh : List Int) (ids : List S41) : Ev (fun k => folkmootlaw06_DepsParts.f k d sh ids) true := by
  unfold folkmootlaw06_DepsParts.f
  have hlive : Ev (fun k => folkmootlaw06_DepsParts.j0 k d sh ids true) true := by
    refine Ev.succ ?_
    simp only [folkmootlaw06_DepsParts.j0]
    exact Ev.yes trivial ev_live
  refine Ev.bind (ev_small d) (Ev.cond (fun hs => ?_) (fun _ => hlive))
  obtain ⟨_, hs2⟩ := of_decide_eq_true hs
  refine Ev.bind (ev_check6 d hk hd) (Ev.cond (fun hc => ?_) (fun _ => hlive))
  obtain ⟨hg, hw⟩ := good_of hc
  have h : Good d 100 := hg.mono (by omega)
  refine Ev.cond (fun _ => hlive) (fun h1 => ?_)
  by_cases h2 : (ids.length : Int) > 100
  · rw [decide_eq_true h2]; exact hlive
  · rw [decide_eq_false h2]
    refine Ev.succ ?_
    simp only [folkmootlaw06_DepsParts.j0]
    exact Ev.no (by decide) (ev_l0p d sh ids h (by omega) (by omega) d.length 0 (by omega))
theorem depsParts_any (A0 : Option Addr) (c0 : Nat) (d : List S26) (A1 : Option Addr) (c1 : Nat) (sh : List Int) (A2 : Option Addr) (c2 : Nat) (ids : List S41) (w : World) (C0 : Kd.C k26 w A0 d.length d) (hc : d.length ≤ c0) (hp : d.length ≤ 9223372036854775807 ∧ ∀ s ∈ d, s.f1.length ≤ 9223372036854775807)
    (C1 : Kd.C (Kd.int .i64) w A1 sh.length sh) (hc1 : sh.length ≤ c1) (C2 : Kd.C k41 w A2 ids.length ids) (hc2 : ids.length ≤ c2) :
    Calls Tryz.prog 5 #[.slice A0 d.length c0, .slice A1 sh.length c1, .slice A2 ids.length c2] w fun e w' => e = .returned (.bool true) ∧ Below w.heap.size w w' := by
  obtain ⟨k, hk⟩ := (depsParts_law d hp.1 hp.2 sh ids).get
  exact folkmootlaw06_DepsParts.calls k A0 c0 d A1 c1 sh A2 c2 ids true w C0 hc C1 hc1 C2 hc2 hk
end Go.Proofs.YtaedlmeaconflaaGreat.P
end
