/- what the claim's row stands on, part 10. -/
import Derived.Test.YtaedlmeaconflaaGreatZb5
import Derived.Test.YtaedlmeaconflaaGreatZb9
section
namespace Go.Proofs.YtaedlmeaconflaaGreat.P
open Go.RowKit Go.Sort Go.Shelf Go.Proofs.YtaedlmeaconflaaGreatW.PrintWords Go.Proofs.YtaedlmeaconflaaGreatW.PrintLast Go.Proofs.YtaedlmeaconflaaGreatW.PrintMore
theorem ev_live : Ev (fun _ => (folkmootlaw06_live.f).bind fun t => some t) true := Ev.bind1 rfl (Ev.some _)
theorem mem_mapD {F : List S41 → List S41} {d : List S26} {y : S26} : y ∈ mapD F d ↔ ∃ x ∈ d, y = ⟨x.f0, F x.f1⟩ := by
  unfold mapD; rw [List.mem_map]
  constructor
  · rintro ⟨x, h, e⟩; exact ⟨x, h, e.symm⟩
  · rintro ⟨x, h, e⟩; exact ⟨x, h, e.symm⟩
theorem Good.map {d : List S26} {n : Nat} (h : Good d n) (p : S41 → Bool) : Good (mapD (·.filter p) d) n := by
  refine ⟨⟨?_, fun y hy => ?_, fun y hy => ?_⟩, by unfold mapD; rw [List.length_map]; exact h.len, fun y hy s hs => ?_, ?_⟩
  · unfold mapD; rw [List.pairwise_map]; exact h.shards
  · obtain ⟨x, hx, rfl⟩ := mem_mapD.1 hy; exact h.low x hx
  · obtain ⟨x, hx, rfl⟩ := mem_mapD.1 hy; exact (h.asc x hx).filter p
  · obtain ⟨x, hx, rfl⟩ := mem_mapD.1 hy; exact h.is x hx s ((List.mem_filter.1 hs).1)
  · refine Nat.le_trans ?_ h.all
    clear h
    induction d with
    | nil => simp [mapD, allD]
    | cons x d ih =>
      have e : (allD (x :: d)).length = x.f1.length + (allD d).length := by unfold allD; rw [List.flatMap_cons, List.length_append]
      have e2 : (allD (mapD (·.filter p) (x :: d))).length = (x.f1.filter p).length + (allD (mapD (·.filter p) d)).length := by unfold allD mapD; rw [List.map_cons, List.flatMap_cons, List.length_append]
      have := List.length_filter_le p x.f1
      omega
theorem Good.one {d : List S26} {n : Nat} (h : Good d n) {x : S26} (hx : x ∈ d) : x.f1.length ≤ n := Nat.le_trans (len_allD hx) h.all
theorem below_f {d : List S26} {n : Nat} (h : Good d n) (hn : n ≤ 1000000) (a b : Int) : deps_Below.f d a b = some (mapD (·.filter (lessS ⟨a, b⟩)) d) := by
  unfold deps_Below.f
  have := h.len
  exact if_pos ⟨by omega, fun x hx => by have := h.one hx; omega, fun x hx => (riseB_iff _).2 (h.asc x hx)⟩
theorem dsame_f {d : List S26} {n : Nat} (h : Good d n) (hn : n ≤ 1000000) (e : List S26) : deps_Same.f d e = some (decide (d = e)) := by
  unfold deps_Same.f
  exact if_pos fun x hx => by have := h.one hx; omega
theorem Good.ev_all {d : List S26} {n : Nat} (h : Good d n) (hn : n ≤ 1000000) : Ev (fun k => deps_All.f k d) (setS (allD d)) := P.ev_all d (by have := h.len; omega) (by have := h.all; omega)
theorem Good.ev_get {d : List S26} {n : Nat} (h : Good d n) (hn : n ≤ 1000000) {y : S26} (hy : y ∈ d) : Ev (fun k => deps_Get.f k d y.f0) y.f1 :=
  (P.ev_get d y.f0 (by have := h.len; omega) (fun x hx => by have := h.one hx; omega)).eq (getD_of h.shards hy)
theorem filt_idem (l : List S41) (p : S41 → Bool) : (l.filter p).filter p = l.filter p := by rw [List.filter_filter]; simp
theorem ev_belowL (d : List S26) (s0 s1 : Int) (h : Good d 100) : ∀ (m i : Nat), i + m = d.length → Ev (fun k => folkmootlaw06_DepsBelow.l0 k d (mapD (·.filter (lessS ⟨s0, s1⟩)) d) (i : Int) s0 s1) true
  | 0, i, hm => by
    have hb := h.map (lessS ⟨s0, s1⟩)
    refine Ev.succ ?_
    simp only [folkmootlaw06_DepsBelow.l0]
    refine Ev.no (by omega) (Ev.bind1 (below_f hb (by omega) s0 s1) (Ev.bind1 (dsame_f (hb.map _) (by omega) _) (Ev.yes (decide_eq_true ?_) ev_live)))
    unfold mapD
    rw [List.map_map]
    refine List.map_congr_left fun x _ => D_eq rfl (filt_idem _ _)
  | m + 1, i, hm => by
    have hi : i < d.length := by omega
    have hx := List.getElem_mem hi
    have hl := h.one hx
    have hlen := h.len
    refine Ev.succ ?_
    simp only [folkmootlaw06_DepsBelow.l0]
    rw [rdD_nat d hi, w64_succ (by omega)]
    have hg := (h.map (lessS ⟨s0, s1⟩)).ev_get (by omega) (y := ⟨d[i].f0, d[i].f1.filter (lessS ⟨s0, s1⟩)⟩) (mem_mapD.2 ⟨_, hx, rfl⟩)
    have hg2 := h.ev_get (by omega) hx
    refine Ev.yes (by omega) (Ev.yes (by omega) (Ev.bind hg (Ev.bind hg2 (Ev.bind (ev_below _ s0 s1 (by omega)) (Ev.bind (ev_sameS _ _ (by have := List.length_filter_le (lessS ⟨s0, s1⟩) d[i].f1; simp only; omega)) (Ev.yes (decide_eq_true rfl) (Ev.bind hg2 (Ev.bind (ev_sameS _ _ (by omega)) (Ev.yes (decide_eq_true rfl) ?_)))))))))
    exact ev_belowL d s0 s1 h m (i + 1) (by omega)
theorem set_map (d : List S26) (p : S41 → Bool) : setS (allD (mapD (·.filter p) d)) = (setS (allD d)).filter p := by
  refine asc_ext (setS_asc _) ((setS_asc _).filter p) fun x => ?_
  rw [setS_mem, List.mem_filter, setS_mem, mem_allD, mem_allD]
  constructor
  · rintro ⟨y, hy, hx⟩
    obtain ⟨z, hz, rfl⟩ := mem_mapD.1 hy
    exact ⟨⟨z, hz, (List.mem_filter.1 hx).1⟩, (List.mem_filter.1 hx).2⟩
  · rintro ⟨⟨z, hz, hx⟩, hp⟩
    exact ⟨_, mem_mapD.2 ⟨z, hz, rfl⟩, List.mem_filter.2 ⟨hx, hp⟩⟩
theorem depsBelow_law (d : List S26) (hd : d.length ≤ 9223372036854775807) (hk : ∀ x ∈ d, x.f1.length ≤ 9223372036854775807) (s0 s1 : Int) : Ev (fun k => folkmootlaw06_DepsBelow.f k d s0 s1) true := by
  unfold folkmootlaw06_DepsBelow.f
  have hlive : Ev (fun k => folkmootlaw06_DepsBelow.j0 k d true s0 s1) true := by
    refine Ev.succ ?_
    simp only [folkmootlaw06_DepsBelow.j0]
    exact Ev.yes trivial ev_live
  refine Ev.bind (ev_small d) (Ev.cond (fun hs => ?_) (fun _ => hlive))
  obtain ⟨_, hs2⟩ := of_decide_eq_true hs
  refine Ev.bind (ev_check6 d hk hd) ?_
  by_cases hc : chkD d = 0
  · obtain ⟨hg, hw⟩ := good_of hc
    have h : Good d 100 := hg.mono (by omega)
    rw [hc]
    have hall := h.ev_all (by omega)
    have hlen := setS_len (allD d)
    have hal := h.all
    have hb := h.map (lessS ⟨s0, s1⟩)
    refine Ev.succ ?_
    simp only [folkmootlaw06_DepsBelow.j0]
    refine Ev.no (by decide) (Ev.bind1 (below_f h (by omega) s0 s1) (Ev.bind (hb.ev_all (by omega)) (Ev.bind hall (Ev.bind (ev_below _ s0 s1 (by omega)) (Ev.bind (ev_sameS _ _ (by have := setS_len (allD (mapD (·.filter (lessS ⟨s0, s1⟩)) d)); have := hb.all; omega)) (Ev.yes (decide_eq_true (set_map d _)) ?_))))))
    have hne : (((mapD (fun l => l.filter (lessS ⟨s0, s1⟩)) d).length : Int) != (d.length : Int)) = false := by unfold mapD; rw [List.length_map]; simp
    rw [hne]
    refine Ev.succ ?_
    simp only [folkmootlaw06_DepsBelow.j1]
    exact Ev.no (by decide) (ev_belowL d s0 s1 h d.length 0 (by omega))
  · rw [show (chkD d != 0) = true by simpa using hc]
    exact hlive
end Go.Proofs.YtaedlmeaconflaaGreat.P
end
section
namespace Go.Proofs.YtaedlmeaconflaaGreat.P
open Go.RowKit Go.Proofs.YtaedlmeaconflaaGreatW.PrintWords
theorem depsBelow_any (A0 : Option Addr) (c0 : Nat) (d : List S26) (a b : Int) (w : World) (C0 : Kd.C k26 w A0 d.length d) (hc : d.length ≤ c0) (hp : d.length ≤ 9223372036854775807 ∧ ∀ s ∈ d, s.f1.length ≤ 9223372036854775807) :
    Calls Tryz.prog 4 #[.slice A0 d.length c0, .agg #[.int .i64 a, .int .i64 b]] w fun e w' => e = .returned (.bool true) ∧ Below w.heap.size w w' := by
  obtain ⟨k, hk⟩ := (depsBelow_law d hp.1 hp.2 a b).get
  exact folkmootlaw06_DepsBelow.calls k A0 c0 d a b true w C0 hc hk
end Go.Proofs.YtaedlmeaconflaaGreat.P
end
