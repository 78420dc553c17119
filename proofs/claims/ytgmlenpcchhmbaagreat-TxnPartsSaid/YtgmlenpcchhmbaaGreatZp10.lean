/- what the claim's row stands on, part 10. -/
import Derived.Test.YtgmlenpcchhmbaaGreatZp8
import Derived.Test.YtgmlenpcchhmbaaGreatZp9
section
set_option linter.unusedVariables false
set_option linter.unusedSimpArgs false
namespace Go.Proofs.YtgmlenpcchhmbaaGreat.P
open Go.RowKit Go.Proofs.YtgmlenpcchhmbaaGreatW.PrintWords Go.Proofs.YtgmlenpcchhmbaaGreatW.PrintLast
theorem rd_atA {d : List S65} {i : Nat} (h : i < d.length) : rd_T65 d (i : Int) = d[i] := by
  unfold rd_T65
  rw [Int.toNat_natCast, List.getD_eq_getElem?_getD, List.getElem?_eq_getElem h]; rfl
theorem answers_l0 (d : List S65) (hd : d.length ≤ 9223372036854775807) (hp : ∀ a ∈ d, a.f2.length ≤ 9223372036854775807) : ∀ (m i : Nat), i + m = d.length → Ev (fun k => folkmootref08_Answers.l0 k d d (i : Int)) true
  | 0, i, h => by
    refine Ev.succ ?_
    simp only [folkmootref08_Answers.l0]
    exact Ev.no (by omega) (Ev.some _)
  | m + 1, i, h => by
    refine Ev.succ ?_
    simp only [folkmootref08_Answers.l0]
    rw [w64_succ (by omega)]
    refine Ev.yes (by omega) (Ev.yes (by omega) (Ev.yes (by omega) (Ev.no (by simp) (Ev.yes trivial (Ev.bind (ev_pairs _ ?_) (Ev.yes rfl (answers_l0 d hd hp m (i + 1) (by omega))))))))
    rw [rd_atA (by omega)]
    exact hp _ (List.getElem_mem _)
theorem ev_answers (d : List S65) (hd : d.length ≤ 9223372036854775807) (hp : ∀ a ∈ d, a.f2.length ≤ 9223372036854775807) : Ev (fun k => folkmootref08_Answers.f k d d) true := by
  unfold folkmootref08_Answers.f
  exact Ev.yes rfl (answers_l0 d hd hp d.length 0 (by omega))
theorem stepA_len (o : S63) (s : St) : (stepA o s).f2.length ≤ s.d.length := by
  unfold stepA
  repeat' split
  all_goals first | exact Nat.zero_le _ | exact Nat.le_trans (List.length_filter_le _ _) (by rw [List.length_map]; exact Nat.le_refl _)
theorem runA_f2 : ∀ (l : List S63) (s : St), ∀ a ∈ runA l s, a.f2.length ≤ s.d.length + 2 * l.length
  | [], _, _, h => by cases h
  | o :: l, s, a, h => by
    rw [List.length_cons]
    rcases List.mem_cons.1 h with h | h
    · subst h; have := stepA_len o s; omega
    · have := runA_f2 l (stepS o s) a h
      have := (stepS_le o s).1
      omega
theorem ev_j0p (l : List S63) (d : List S61) (n : Int) (q : Bool) (h : q = false → TxIn l d ∧ 1 ≤ n ∧ n < (l.length : Int)) : Ev (fun k => folkmootlaw08_TxnParts.j0 k l d n q) true := by
  refine Ev.succ ?_
  simp only [folkmootlaw08_TxnParts.j0]
  refine Ev.cond (fun _ => ev_live) (fun hq => ?_)
  obtain ⟨hi, hn0, hn1⟩ := h (by simpa using hq)
  obtain ⟨m, rfl⟩ : ∃ m : Nat, n = (m : Int) := ⟨n.toNat, by omega⟩
  rw [Int.toNat_natCast]
  have hs := hi.dt.1
  have hkd := dataT_keys hi.dt
  have hl := hi.len
  have hd := hi.dl
  have htk : ∀ o ∈ l.take m, isT o = true := fun o ho => hi.ops o (List.mem_of_mem_take ho)
  have hdr : ∀ o ∈ l.drop m, isT o = true := fun o ho => hi.ops o (List.mem_of_mem_drop ho)
  have hlt : (l.take m).length ≤ 8 := by rw [List.length_take]; omega
  have hld : (l.drop m).length ≤ 8 := by rw [List.length_drop]; omega
  have hsd : (startT d).d = d.map toA := start_d hs
  have hsl : (startT d).d.length ≤ 60 := by rw [hsd, List.length_map]; exact hd
  have hsc : (startT d).c.length = 0 := rfl
  have hle1 := runS_le l (startT d)
  have hle2 := runS_le (l.take m) (startT d)
  have hok2 : (runS (l.take m) (startT d)).ok := runS_ok _ (start_ok d)
  have hK2 : KeysD (runS (l.take m) (startT d)).d := KeysD.run _ (by rw [hsd]; exact hkd) (fun o ho => isT_key (htk o ho))
  have hW2 := wr_start d hs (l.take m) rfl
  have hall : runA l (startT d) = runA (l.take m) (startT d) ++ runA (l.drop m) (runS (l.take m) (startT d)) := by
    rw [← runA_app, List.take_append_drop]
  have halS : runS l (startT d) = runS (l.drop m) (runS (l.take m) (startT d)) := by
    rw [← runS_app, List.take_append_drop]
  have hW1 := wr_start d hs l rfl
  generalize hs2 : runS (l.take m) (startT d) = s2 at *
  obtain ⟨d2, c2⟩ := s2
  simp only at hW2 hle2 hK2
  have hsort2 : SortK ((d2.map ofA).map toA) := by rw [map_toA_ofA]; exact hok2.1
  have hst2 : startT (d2.map ofA) = ⟨d2, []⟩ := by
    unfold startT; rw [mapT_id hsort2, map_toA_ofA]
  obtain ⟨hA, hS⟩ := runs_same (l.drop m) d2 c2 []
  have hE3 := eval_f (l := l.drop m) (d := d2.map ofA) hld hdr (by rw [List.length_map]; omega) (by rw [map_toA_ofA]; exact hK2)
  have hW3 := wr_start (d2.map ofA) hsort2 (l.drop m) rfl
  have hle3 := runS_le (l.drop m) (startT (d2.map ofA))
  rw [hst2] at hE3 hW3 hle3
  simp only [List.length_nil] at hle3
  have hf2 := runA_f2 l (startT d)
  have hlen := runA_len l (startT d)
  refine Ev.bind1 (eval_f hi.len hi.ops (by omega) hkd) (Ev.yes (by omega) (Ev.yes (by omega) (Ev.bind1 (eval_f hlt htk (by omega) hkd) ?_)))
  rw [hs2]
  refine Ev.bind1 (apply_f hs (by rw [writes_len]; simp only; omega)) ?_
  rw [hW2]
  refine Ev.bind1 hE3 (Ev.bind1 rfl (Ev.yes ?_ (Ev.bind1 rfl (Ev.yes ?_ ?_))))
  · simp only [List.length_nil, runA_len]; omega
  · simp only [List.nil_append, runA_len]; omega
  · simp only [List.nil_append]
    rw [hall, hA]
    refine Ev.bind (ev_answers _ ?_ ?_) (Ev.yes rfl (Ev.bind1 (apply_f hs ?_) (Ev.bind1 (apply_f hsort2 ?_) ?_)))
    · rw [← hA, ← hall]; omega
    · rw [← hA, ← hall]
      intro a ha
      have := hf2 a ha
      omega
    · rw [writes_len]; omega
    · rw [writes_len, List.length_map]; omega
    · rw [hW1, hW3, halS, hS]
      exact Ev.bind (ev_pairs _ (by rw [List.length_map]; omega)) (Ev.yes rfl ev_live)
theorem txnParts_any (A0 : Option Addr) (c0 : Nat) (l : List S63) (A1 : Option Addr) (c1 : Nat) (d : List S61) (n : Int) (w : World) (C0 : Kd.C k63 w A0 l.length l) (hc : l.length ≤ c0)
    (C1 : Kd.C k61 w A1 d.length d) (hc1 : d.length ≤ c1) (hp1 : d.length ≤ 9223372036854775807 ∧ ∀ p ∈ d, (Lit.int .u64 p.f1).wf = true) :
    Calls Tryz.prog 6 #[.slice A0 l.length c0, .slice A1 d.length c1, .int .i64 n] w fun e w' => e = .returned (.bool true) ∧ Below w.heap.size w w' := by
  have hb : ∀ p ∈ d, 0 ≤ p.f1 ∧ p.f1 < 18446744073709551616 := fun p hp => by
    have h := hp1.2 p hp
    simp [Lit.wf, IntKind.min, IntKind.max, IntKind.bits, IntKind.signed] at h
    omega
  obtain ⟨b, hb1, hb2⟩ := ev_small l d
  obtain ⟨b3, hb3, hb4⟩ := ev_data d hp1.1 hb
  have hev : Ev (fun k => folkmootlaw08_TxnParts.f k l d n) true := by
    unfold folkmootlaw08_TxnParts.f
    have hq : Ev (fun k => folkmootlaw08_TxnParts.j0 k l d n true) true := ev_j0p l d n true (fun h => by cases h)
    refine Ev.bind hb1 (Ev.cond (fun h1 => Ev.bind1 rfl (Ev.bind1 rfl (Ev.cond (fun h2 => Ev.bind hb3 (Ev.cond (fun h3 => Ev.cond (fun _ => hq) (fun h4 => ev_j0p l d n _ (fun h5 => ?_))) (fun _ => hq))) (fun _ => hq)))) (fun _ => hq))
    have h6 := of_decide_eq_false h5
    obtain ⟨g1, g2⟩ := chk_of h2
    exact ⟨⟨g1, g2, (hb2 h1).2, hb4 h3⟩, by omega, by omega⟩
  obtain ⟨k, hk⟩ := hev.get
  exact folkmootlaw08_TxnParts.calls k A0 c0 l A1 c1 d n true w C0 hc C1 hc1 hk
end Go.Proofs.YtgmlenpcchhmbaaGreat.P
end
