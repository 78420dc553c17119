/- what the claim's row stands on, part 10. -/
import Derived.Test.YtgmlenpcchhmbaaGreatZe8
import Derived.Test.YtgmlenpcchhmbaaGreatZe9
section
set_option linter.unusedVariables false
set_option linter.unusedSimpArgs false
namespace Go.Proofs.YtgmlenpcchhmbaaGreat.P
open Go.RowKit Go.Proofs.YtgmlenpcchhmbaaGreatW.PrintWords Go.Proofs.YtgmlenpcchhmbaaGreatW.PrintLast
def clashT (a b : List S63) : Bool := decide (0 < (cutL (unionT (setSp wK a)) (allT b)).length) || decide (0 < (cutL (unionT (setSp wK b)) (allT a)).length)
theorem meet_f (a b : List S71) (h : a.length + b.length ≤ 1000000) : span_Meet.f a b = some (decide (0 < (cutL a b).length)) := by
  unfold span_Meet.f span_Cut.f
  rw [if_pos h]
  show some _ = _
  congr 1
  rw [Bool.eq_iff_iff, decide_eq_true_eq, decide_eq_true_eq]
  omega
theorem ev_conflict (a b : List S63) (ha : a.length ≤ 8) (hb : b.length ≤ 8) (ka : ∀ o ∈ a, o.f1.size ≤ 16 ∧ o.f2.size ≤ 16) (kb : ∀ o ∈ b, o.f1.size ≤ 16 ∧ o.f2.size ≤ 16) : Ev (fun k => txn_Conflict.f k a b) (clashT a b) := by
  have h1 := reads_le a ha
  have h2 := reads_le b hb
  have h3 := allT_le a ha
  have h4 := allT_le b hb
  unfold txn_Conflict.f clashT
  refine Ev.bind (ev_writes a ha ka) (Ev.bind (ev_all b hb kb) (Ev.bind1 (meet_f _ _ (by omega)) (Ev.cond (fun e => ?_) (fun e => ?_))))
  · rw [e, Bool.true_or]; exact Ev.some _
  · rw [Bool.eq_false_iff.2 e, Bool.false_or]
    exact Ev.bind (ev_writes b hb kb) (Ev.bind (ev_all a ha ka) (Ev.bind1 (meet_f _ _ (by omega)) (Ev.some _)))
theorem hasSs_allT (l : List S63) (k : ByteArray) : hasSs (allT l) k = (hasSs (setSp rK l) k || hasSs (setSp wK l) k) := by
  unfold allT
  rw [hasSs_unionT, hasSs_app, hasSs_unionT, hasSs_unionT]
theorem clash_comm (a b : List S63) : clashT a b = clashT b a := by unfold clashT; rw [Bool.or_comm]
theorem apart_of {a b : List S63} (h : clashT a b = false) (k : ByteArray) (hw : hasSs (setSp wK a) k = true) : hasSs (setSp rK b) k = false ∧ hasSs (setSp wK b) k = false := by
  unfold clashT at h
  have h1 := (Bool.or_eq_false_iff.1 h).1
  have h2 : cutL (unionT (setSp wK a)) (allT b) = [] := by
    rw [decide_eq_false_iff_not] at h1
    exact List.length_eq_zero_iff.1 (by omega)
  have h3 := cutL_has _ (unionT (setSp wK a)) (allT b) (Nat.le_refl _) (unionT_canon _).1 (unionT_canon _).1 k
  rw [h2, hasSs_unionT, hw, Bool.true_and, hasSs_allT] at h3
  exact Bool.or_eq_false_iff.1 h3.symm
theorem getL_some_mem {V : Type} : ∀ (l : List (ByteArray × V)) (k : ByteArray), (getL l k).isSome = true → ∃ v, (k, v) ∈ l
  | [], k, h => by cases h
  | x :: l, k, h => by
    rw [getL_cons] at h
    by_cases e : x.1 = k
    · exact ⟨x.2, by rw [← e]; exact List.mem_cons_self ..⟩
    · rw [if_neg e] at h
      obtain ⟨v, hv⟩ := getL_some_mem l k h
      exact ⟨v, List.mem_cons_of_mem _ hv⟩
theorem c_keys {l : List S63} {d : List S61} {k : ByteArray} (h : (getL (runS l (startT d)).c k).isSome = true) : hasSs (setSp wK l) k = true := by
  obtain ⟨v, hv⟩ := getL_some_mem _ _ h
  exact c_run l l (startT d) (fun _ h => h) (fun x hx => by cases hx) _ hv
theorem ev_e0 (a b : List S63) (d : List S61) (q : Bool) (h : q = false → TxIn a d ∧ TxIn b d) : Ev (fun k => folkmootlaw08_TxnEither.j0 k a b d q) true := by
  refine Ev.succ ?_
  simp only [folkmootlaw08_TxnEither.j0]
  refine Ev.cond (fun _ => ev_live) (fun hq => ?_)
  obtain ⟨hi, hj⟩ := h (by simpa using hq)
  have ka : ∀ o ∈ a, o.f1.size ≤ 16 ∧ o.f2.size ≤ 16 := fun o ho => isT_key (hi.ops o ho)
  have kb : ∀ o ∈ b, o.f1.size ≤ 16 ∧ o.f2.size ≤ 16 := fun o ho => isT_key (hj.ops o ho)
  have ha := hi.len
  have hb := hj.len
  have hd := hi.dl
  have hs := hi.dt.1
  refine Ev.bind (ev_conflict a b ha hb ka kb) (Ev.bind (ev_conflict b a hb ha kb ka) (Ev.no (by rw [clash_comm b a]; simp) (Ev.bind (ev_conflict a b ha hb ka kb) (Ev.cond (fun _ => ev_live) (fun hc => ?_)))))
  have hc1 : clashT a b = false := Bool.eq_false_iff.2 hc
  have hc2 : clashT b a = false := by rw [clash_comm]; exact hc1
  -- the two runs upon the data
  generalize hsa : runS a (startT d) = sa
  generalize hsb : runS b (startT d) = sb
  have oka : sa.ok := hsa ▸ runS_ok a (start_ok d)
  have okb : sb.ok := hsb ▸ runS_ok b (start_ok d)
  have la := runS_le a (startT d)
  have lb := runS_le b (startT d)
  rw [hsa] at la
  rw [hsb] at lb
  have hsd : (startT d).d.length = d.length := by rw [start_d hs, List.length_map]
  have hsc : (startT d).c.length = 0 := rfl
  have wa := writes_len sa
  have wb := writes_len sb
  have kc1 : ∀ k, (getL sa.c k).isSome = true → hasSs (setSp wK a) k = true := fun k hk => by rw [← hsa] at hk; exact c_keys hk
  have kc2 : ∀ k, (getL sb.c k).isSome = true → hasSs (setSp wK b) k = true := fun k hk => by rw [← hsb] at hk; exact c_keys hk
  -- b upon what a left; a upon what b left
  have s1 := applyT_sort (writesT sa) hs
  have s2 := applyT_sort (writesT sb) hs
  have g1 : Agree (unionT (setSp rK b)) (startT d) (startT (applyT d (writesT sa))) := agree_other hs sa _ fun k hk => by
    rw [hasSs_unionT]; exact (apart_of hc1 k (kc1 k hk)).1
  have g2 : Agree (unionT (setSp rK a)) (startT d) (startT (applyT d (writesT sb))) := agree_other hs sb _ fun k hk => by
    rw [hasSs_unionT]; exact (apart_of hc2 k (kc2 k hk)).1
  obtain ⟨r1, r2⟩ := Agree.run b g1 (fun o ho => needs_of ho)
  obtain ⟨r3, r4⟩ := Agree.run a g2 (fun o ho => needs_of ho)
  have w1 := r1.writes
  have w2 := r3.writes
  rw [hsb] at w1
  rw [hsa] at w2
  have hwa := wr_start d hs a rfl
  have hwb := wr_start d hs b rfl
  rw [hsa] at hwa
  rw [hsb] at hwb
  have Ka : KeysD sa.d := hsa ▸ KeysD.run _ (by rw [start_d hs]; exact dataT_keys hi.dt) ka
  have Kb : KeysD sb.d := hsb ▸ KeysD.run _ (by rw [start_d hs]; exact dataT_keys hi.dt) kb
  have e1 := eval_f (l := b) (d := applyT d (writesT sa)) hb hj.ops (by rw [hwa, List.length_map]; omega) (by rw [hwa, map_toA_ofA]; exact Ka)
  have e2 := eval_f (l := a) (d := applyT d (writesT sb)) ha hi.ops (by rw [hwb, List.length_map]; omega) (by rw [hwb, map_toA_ofA]; exact Kb)
  rw [← w1, ← r2] at e1
  rw [← w2, ← r4] at e2
  have l1 := applyT_len (writesT sa) hs
  have l2 := applyT_len (writesT sb) hs
  have ap1 := apply_f (d := d) (l := writesT sa) hs (by omega)
  have ap2 := apply_f (d := d) (l := writesT sb) hs (by omega)
  have ap3 := apply_f (d := applyT d (writesT sa)) (l := writesT sb) s1 (by omega)
  have ap4 := apply_f (d := applyT d (writesT sb)) (l := writesT sa) s2 (by omega)
  have hsw := apply_swap hs sa sb (fun k hk => by
    cases h : (getL sb.c k).isSome with
    | false => rfl
    | true => have := (apart_of hc1 k (kc1 k hk)).2; rw [kc2 k h] at this; cases this)
  rw [← hsw] at ap4
  have f1 := eval_f (l := a) (d := d) ha hi.ops (by omega) (dataT_keys hi.dt)
  have f2 := eval_f (l := b) (d := d) hb hj.ops (by omega) (dataT_keys hi.dt)
  rw [hsa] at f1
  rw [hsb] at f2
  have n1 := runA_len a (startT d)
  have n2 := runA_len b (startT d)
  have p1 := runA_f2 a (startT d)
  have p2 := runA_f2 b (startT d)
  have l3 := applyT_len (writesT sb) s1
  refine Ev.bind1 f1 (Ev.bind1 ap1 (Ev.bind1 e1 (Ev.bind1 ap3 (Ev.bind1 f2 (Ev.bind1 ap2 (Ev.bind1 e2 (Ev.bind1 ap4 ?_)))))))
  dsimp only
  exact Ev.bind (ev_answers _ (by omega) (fun y hy => by have := p1 y hy; omega)) (Ev.yes rfl (Ev.bind (ev_answers _ (by omega) (fun y hy => by have := p2 y hy; omega)) (Ev.yes rfl (Ev.bind (ev_wsame _ (by omega)) (Ev.yes rfl (Ev.bind (ev_wsame _ (by omega)) (Ev.yes rfl (Ev.bind (ev_pairs _ (by omega)) (Ev.yes rfl ev_live)))))))))
theorem txnEither_any (A0 : Option Addr) (c0 : Nat) (a : List S63) (A1 : Option Addr) (c1 : Nat) (b : List S63) (A2 : Option Addr) (c2 : Nat) (d : List S61) (w : World) (C0 : Kd.C k63 w A0 a.length a) (hc : a.length ≤ c0)
    (C1 : Kd.C k63 w A1 b.length b) (hc1 : b.length ≤ c1)
    (C2 : Kd.C k61 w A2 d.length d) (hc2 : d.length ≤ c2) (hp2 : d.length ≤ 9223372036854775807 ∧ ∀ p ∈ d, (Lit.int .u64 p.f1).wf = true) :
    Calls Tryz.prog 12 #[.slice A0 a.length c0, .slice A1 b.length c1, .slice A2 d.length c2] w fun e w' => e = .returned (.bool true) ∧ Below w.heap.size w w' := by
  have hb : ∀ p ∈ d, 0 ≤ p.f1 ∧ p.f1 < 18446744073709551616 := fun p hpd => by
    have h := hp2.2 p hpd
    simp [Lit.wf, IntKind.min, IntKind.max, IntKind.bits, IntKind.signed] at h
    omega
  obtain ⟨q1, hb1, hb2⟩ := ev_small a d
  obtain ⟨q2, hb1', hb2'⟩ := ev_small b []
  obtain ⟨q3, hb3, hb4⟩ := ev_data d hp2.1 hb
  have hev : Ev (fun k => folkmootlaw08_TxnEither.f k a b d) true := by
    unfold folkmootlaw08_TxnEither.f
    have hq : Ev (fun k => folkmootlaw08_TxnEither.j0 k a b d true) true := ev_e0 a b d true (fun h => by cases h)
    refine Ev.bind hb1 (Ev.cond (fun h1 => Ev.bind hb1' (Ev.cond (fun h1' => Ev.bind1 rfl (Ev.bind1 rfl (Ev.cond (fun h2 => Ev.bind1 rfl (Ev.bind1 rfl (Ev.cond (fun h3 => Ev.bind hb3 (ev_e0 a b d _ (fun h5 => ?_))) (fun _ => hq)))) (fun _ => hq)))) (fun _ => hq))) (fun _ => hq))
    obtain ⟨g1, g2⟩ := chk_of h2
    obtain ⟨g3, g4⟩ := chk_of h3
    have h6 : q3 = true := by simpa using h5
    exact ⟨⟨g1, g2, (hb2 h1).2, hb4 h6⟩, ⟨g3, g4, (hb2 h1).2, hb4 h6⟩⟩
  obtain ⟨k, hk⟩ := hev.get
  exact folkmootlaw08_TxnEither.calls k A0 c0 a A1 c1 b A2 c2 d true w C0 hc C1 hc1 C2 hc2 hk
end Go.Proofs.YtgmlenpcchhmbaaGreat.P
end
