/- what the claim's row stands on, part 9. -/
import Derived.Test.YtgmlenpcchhmbaaGreatZu8
import Derived.Test.YtgmlenpcchhmbaaGreatZu3
import Derived.Test.YtgmlenpcchhmbaaGreatZu4
import Derived.Test.YtgmlenpcchhmbaaGreatZu5
section
set_option linter.unusedVariables false
set_option linter.unusedSimpArgs false
namespace Go.Proofs.YtgmlenpcchhmbaaGreat.P
open Go.RowKit Go.Proofs.YtgmlenpcchhmbaaGreatW.PrintWords Go.Proofs.YtgmlenpcchhmbaaGreatW.PrintLast Go.Proofs.YtgmlenpcchhmbaaGreatW.PrintMore
theorem fit_run : ∀ (l : List S63) {s : St} {n : Nat}, StFit s n → (∀ o ∈ l, opOk o) → StFit (runS l s) (n + 2 * l.length)
  | [], _, _, h, _ => h
  | o :: l, _, _, h, ho => (fit_run l (h.step (ho o (List.mem_cons_self ..))) (fun p hp => ho p (List.mem_cons_of_mem _ hp))).mono (by rw [List.length_cons]; omega)
theorem fit_take (l : List S63) {s : St} {n : Nat} (h : StFit s n) (ho : ∀ o ∈ l, opOk o) (k : Nat) : StFit (runS (l.take k) s) (n + 2 * l.length) :=
  (fit_run (l.take k) h (fun p hp => ho p (List.mem_of_mem_take hp))).mono (by rw [List.length_take]; omega)
theorem start_fit {data : List S61} (h : keysOk data) : StFit (startT data) data.length := by
  refine ⟨start_ok data, mapT_len data, Nat.zero_le _, ?_, fun x hx => by cases hx⟩
  have key : ∀ (d : List S61) (l : List (ByteArray × Int)), (∀ p ∈ d, p.f0.size ≤ 1000000) → keySizes l → keySizes (d.foldl (fun l p => putL l p.f0 p.f1) l) := by
    intro d
    induction d with
    | nil => intro l _ hl; exact hl
    | cons p d ih => intro l hd hl; exact ih _ (fun q hq => hd q (List.mem_cons_of_mem _ hq)) (keySizes_put hl (hd p (List.mem_cons_self ..)) _)
  exact key data [] h.2 (fun x hx => by cases hx)
def wrOf (d : List (ByteArray × Int)) (x : ByteArray × Bool) : S69 := ⟨x.1, (getL d x.1).getD 0, (getL d x.1).isNone⟩
set_option maxHeartbeats 4000000 in
set_option maxRecDepth 100000 in
theorem eval_any (A : Option Addr) (c : Nat) (l : List S63) (A' : Option Addr) (c' : Nat) (data : List S61) (w : World) (hr : Kd.C k63 w A l.length l) (hr' : Kd.C k61 w A' data.length data) (hl : l.length ≤ 1000) (ho : ∀ o ∈ l, opOk o) (hd : keysOk data) (hd2 : data.length ≤ 900000) :
    Calls Tryz.prog 26 #[.slice A l.length c, .slice A' data.length c'] w fun e w' => ∃ v1 v2, e = .returned (.tuple #[v1, v2]) ∧ Kd.R k69 69 w' w.heap.size (fun _ => True) v1 (writesT (runS l (startT data))) ∧ Kd.S k65 65 w' w.heap.size (fun _ => True) v2 (runA l (startT data)) ∧ Below w.heap.size w w' := by
  have HM := Lib.hid (mapped_any A' c' data w hr' hd)
  have HF := Lib.hid (fun k => fit_take l (start_fit hd) ho k)
  have HX := Lib.hid (And.intro hr (And.intro ho (And.intro hl hd2)))
  have hmx := Kd.C_max hr
  clear hr hr' hd ho
  have hmm := @run_makeMap Tryz.prog
  go_enter Tryz.func26, Tryz.ntmps26
  go_wp2_with fail
  refine HM.out.mono ?_
  rintro e w1 ⟨rfl, hm1, hb1⟩
  have hlt1 := hm1.lt
  obtain ⟨w3, hw3⟩ : ∃ w3, (w1.alloc (.map #[] 0)).alloc (.cells #[.map (some w.heap.size), .map (some w1.heap.size)] 107) = w3 := ⟨_, rfl⟩
  have hba : Below w1.heap.size w1 (w1.alloc (.map #[] 0)) := (Below.refl _ _).alloc (Nat.le_refl _) _
  have hbb : Below w1.heap.size w1 w3 := hw3 ▸ hba.alloc (by simp) _
  have hrun : RunIs w3 (w1.heap.size + 1) w.heap.size w1.heap.size (startT data) := by
    refine ⟨?_, by omega, hm1.below hbb, ?_⟩
    · have := Blk.new (w1.alloc (.map #[] 0)) 107 #[.map (some w.heap.size), .map (some w1.heap.size)]
      rw [hw3] at this
      simpa using this
    · have := (MS.made encB w1).below (w' := w3) (hw3 ▸ (Below.refl _ _).alloc (Nat.le_refl _) _)
      exact this
  have hgz : w.heap.size < w1.heap.size := hlt1
  have HR := Lib.hid (And.intro hrun (hb1.trans (hbb.mono hb1.size)))
  clear hm1 hlt1 hba hbb hrun HM
  go_wp2
  go_loopw [5, 8, 20] (fun so _ i wr => ∃ (k : Nat) (A2 : Option Addr) (c2 : Nat), so = .slice A2 k c2 ∧ i = .int .i64 k ∧ k ≤ l.length ∧ RowKit.Hid (RunIs wr (w1.heap.size + 1) w.heap.size w1.heap.size (runS (l.take k) (startT data)) ∧ Kd.S k65 65 wr w.heap.size (fun q => q ≠ w1.heap.size + 1 ∧ q ≠ w.heap.size ∧ q ≠ w1.heap.size) (.slice A2 k c2) (runA (l.take k) (startT data)) ∧ Below w.heap.size w wr)) (fun _ _ i _ => l.length - (intOf i).toNat)
  case atStart => exact ⟨0, none, 0, rfl, rfl, Nat.zero_le _, Lib.hid ⟨HR.out.1, Kd.S_nil _ _ _ _ _, HR.out.2⟩⟩
  case round =>
    obtain ⟨k, A2, c2, rfl, rfl, hk, HS⟩ := hrel
    by_cases hlt : k < l.length
    · obtain ⟨ad, hA, d0, d1, d2, d3⟩ := C_atO (Kd.C_below HX.out.1 HS.out.2.2) k hlt
      subst hA
      have hoo := HX.out.2.1 l[k] (List.getElem_mem hlt)
      have hsA : runA (l.take (k + 1)) (startT data) = runA (l.take k) (startT data) ++ [stepA l[k] (runS (l.take k) (startT data))] := by rw [List.take_succ_eq_append_getElem hlt, runA_snoc]
      have hsS : runS (l.take (k + 1)) (startT data) = stepS l[k] (runS (l.take k) (startT data)) := by rw [List.take_succ_eq_append_getElem hlt, runS_snoc]
      have hfit := HF.out k
      have hlenA : (runA (l.take k) (startT data)).length = k := by rw [runA_len, List.length_take]; omega
      generalize l[k] = x at *
      generalize runS (l.take k) (startT data) = s at *
      generalize runA (l.take k) (startT data) = an at *
      generalize hsa : stepA x s = a at *
      generalize hss : stepS x s = s' at *
      obtain ⟨W, hW⟩ : ∃ W, wr.alloc (.cells #[.int .i64 x.f0, .string x.f1, .string x.f2, .int .u64 x.f3] 63) = W := ⟨_, rfl⟩
      have hbW : Below wr.heap.size wr W := hW ▸ (Below.refl _ _).alloc (Nat.le_refl _) _
      have hTW : Blk W wr.heap.size 63 #[.int .i64 x.f0, .string x.f1, .string x.f2, .int .u64 x.f3] := hW ▸ Blk.new wr 63 _
      have t0 : W.cell? ⟨wr.heap.size, 0, none⟩ = some (.int .i64 x.f0) := hTW.cell 0
      have t1 : W.cell? ⟨wr.heap.size, 1, none⟩ = some (.string x.f1) := hTW.cell 1
      have t2 : W.cell? ⟨wr.heap.size, 2, none⟩ = some (.string x.f2) := hTW.cell 2
      have t3 : W.cell? ⟨wr.heap.size, 3, none⟩ = some (.int .u64 x.f3) := hTW.cell 3
      have hdo := rndo_any (HS.out.1.below hbW) hfit (by have := HX.out.2.2; omega) x hoo
      rw [hsa, hss] at hdo
      have HD := Lib.hid hdo
      have HN := Lib.hid (And.intro hsA (And.intro hsS (And.intro hlenA (And.intro hbW hTW.lt))))
      clear hdo hsA hsS hlenA hbW hTW hfit hoo hsa hss
      go_wp2_with fail
      refine HD.out.mono ?_
      rintro e w4 ⟨vs, rfl, hv, hr4, hu4⟩
      obtain ⟨A4, c4, rfl⟩ := Kd.R_slice hv
      have hlv : ∀ q, (Value.slice A2 k c2).ownBlock = some q → q < wr.heap.size := Kd.S_lt HS.out.2.1
      have hszW : wr.heap.size ≤ W.heap.size := HN.out.2.2.2.1.size
      have hin : w1.heap.size + 1 < wr.heap.size := HS.out.1.blk.lt
      have hsw : w.heap.size ≤ wr.heap.size := HS.out.2.2.size
      have hB4 : Below w.heap.size w w4 := (HS.out.2.2.trans (HN.out.2.2.2.1.mono hsw)).trans (hu4.below (by omega) (fun q hq e => by omega))
      have H4 := Lib.hid (And.intro hv (And.intro hr4 (And.intro hu4 (And.intro hB4 hlv))))
      clear hv hr4 hu4 hB4 hlv t0 t1 t2 t3 hW HD
      go_wp2_with (first | ((with_reducible refine gate_builtin (b := .append) (xs := #[.tmp 24, .tmp 28]) rfl ?_); at_builtin; refine stop_append rfl ?_))
      refine Lib.hid ?_
      refine Kd.S_append k65 (w0 := w) w.heap.size rfl (.tmp 24) (.tmp 28) 44 65 (.agg #[.bool false, .int .u64 0, .slice none 0 0]) 40 rfl Tryz.underlying44 info65 rfl (by decide) (by decide) (.slice A2 k c2) an a [.bool a.f0, .int .u64 a.f1, .slice A4 a.f2.length c4] (fun q => q ≠ w1.heap.size + 1 ∧ q ≠ w.heap.size ∧ q ≠ w1.heap.size) (fun q => W.heap.size ≤ q) rfl rfl (k65_mkM _ _ _ _ (Kd.R_lower (Kd.R_mono (Kd.R_bound H4.out.1) (fun q hq => hq.2.1)) (by omega))) ?_ ?_ ?_ H4.out.2.2.2.1 H4.out.2.2.2.1.size ?_ ?_
      · intro q hq
        exact ⟨⟨by omega, by omega, by omega⟩, fun e => by have := H4.out.2.2.2.2 q e.symm; omega⟩
      · intro q hq
        have := H4.out.2.2.1.size
        exact ⟨by omega, by omega, by omega⟩
      · refine Kd.S_step (Kd.S_mono (Kd.S_bound HS.out.2.1) (fun q hq => ⟨hq.1, by have := hq.2.2.1; omega⟩)) (fun q hq hql => ?_)
        exact (H4.out.2.2.1.block q (by omega) (fun e => by rcases e with e | e; exact hq.1.2.1 e; exact hq.1.2.2 e)).trans (HN.out.2.2.2.1.block q hql)
      · have := HN.out.2.2.1; have := HX.out.2.2; omega
      intro v5 w5 hS5 hB5 hg5 hat5
      have hln : (an ++ [a]).length = k + 1 := by rw [List.length_append, HN.out.2.2.1]; rfl
      obtain ⟨A5, c5, e5⟩ := Kd.S_slice hS5
      rw [hln] at e5
      have hr5 : RunIs w5 (w1.heap.size + 1) w.heap.size w1.heap.size s' := by
        have hu5 : Upd w4 w5 (fun q => some q = (Value.slice A2 k c2).ownBlock) := Upd.of_grown hg5 (fun q hq => hq.symm)
        exact H4.out.2.1.upd hu5 (fun h => ((Kd.S_R HS.out.2.1).1 _ h.symm).1 rfl) (fun h => ((Kd.S_R HS.out.2.1).1 _ h.symm).2.1 rfl) (fun h => ((Kd.S_R HS.out.2.1).1 _ h.symm).2.2 rfl)
      have HN5 := Lib.hid (And.intro hS5 (And.intro hB5 hr5))
      rw [e5] at HN5
      rw [e5]
      clear hS5 hB5 hg5 hat5 e5 hr5
      go_wp2_with fail
      go_roundw
      case rel => exact ⟨k + 1, A5, c5, rfl, by go_num, by omega, Lib.hid ⟨by rw [HN.out.2.1]; exact HN5.out.2.2, by rw [HN.out.1]; exact HN5.out.1, HN5.out.2.1⟩⟩
      case measure => simp [intOf]; omega
    · obtain rfl : k = l.length := by omega
      have hfit := HF.out l.length
      rw [List.take_length] at HS hfit
      obtain ⟨s, hse⟩ : ∃ s, runS l (startT data) = s := ⟨_, rfl⟩
      obtain ⟨an, hae⟩ : ∃ an, runA l (startT data) = an := ⟨_, rfl⟩
      rw [hse] at HS hfit
      rw [hae] at HS
      have HE := Lib.hid (And.intro hse hae)
      clear hse hae
      have HF2 := Lib.hid hfit
      have hcl : s.c.length ≤ 1000000 := by have := hfit.cl; have := HX.out.2.2; omega
      have hb5 : Below wr.heap.size wr (wr.alloc (.cells #[.map (some w1.heap.size)] 105)) := (Below.refl _ _).alloc (Nat.le_refl _) _
      have HK := Lib.hid (keysSB_any (some w1.heap.size) wr)
      have HSO := Lib.hid (sortedSB_any (Bm := wr.heap.size) (HS.out.1.c.below hb5) hcl (by simp) ((Blk.new wr 105 #[.map (some w1.heap.size)]).cell 0))
      have HB5 := Lib.hid hb5
      have hr1 : wr.cell? ⟨w1.heap.size + 1, 1, none⟩ = some (.map (some w1.heap.size)) := HS.out.1.blk.cell 1
      clear hfit HF HR hb5
      go_wp2_with fail
      refine HK.out.mono ?_
      rintro e w5 ⟨rfl, rfl⟩
      go_wp2_with fail
      refine HSO.out.mono ?_
      rintro e w6 ⟨v6, rfl, hR6, hb6⟩
      obtain ⟨A6, c6, rfl, hc6, hC6⟩ := Kd.R_reads hR6
      have hB6 : Below wr.heap.size wr w6 := HB5.out.trans (hb6.mono (by simp))
      have hlen : (s.c.map (·.1)).length = s.c.length := List.length_map _
      have HY := Lib.hid (And.intro hC6 (And.intro hB6 (And.intro (HS.out.2.2.trans (hB6.mono HS.out.2.2.size)) HS.out.1)))
      have hge := hB6.size
      clear hR6 hC6 hb6 hB6 HSO HK hr1
      rw [hlen] at HY hc6 ⊢
      go_wp2
      go_loopw [4, 10, 11, 12, 38, 42] (fun so _ _ _ i _ wq => ∃ (k : Nat) (A7 : Option Addr) (c7 : Nat), so = .slice A7 k c7 ∧ i = .int .i64 k ∧ k ≤ s.c.length ∧ RowKit.Hid (Kd.R k69 69 wq w6.heap.size (fun _ => True) (.slice A7 k c7) ((s.c.take k).map (wrOf s.d)) ∧ Below w6.heap.size w6 wq)) (fun _ _ _ _ i _ _ => s.c.length - (intOf i).toNat)
      case atStart => exact ⟨0, none, 0, rfl, rfl, Nat.zero_le _, Lib.hid ⟨Kd.R_nil _ _ _ _ _, Below.refl _ _⟩⟩
      case round =>
        obtain ⟨k, A7, c7, rfl, rfl, hk7, HR7⟩ := hrel
        rename World => wq
        have hbw : Below wr.heap.size wr wq := HY.out.2.1.trans (HR7.out.2.mono hge)
        by_cases hlt : k < s.c.length
        · obtain ⟨ad, hA, d0⟩ := C_atS (Kd.C_below HY.out.1 HR7.out.2) k (by rw [hlen]; exact hlt)
          subst hA
          rw [List.getElem_map] at d0
          have hsz := maxLen_ge (HF2.out.ck s.c[k] (List.getElem_mem hlt))
          have hrq := HY.out.2.2.2.below hbw
          have hr0 : wq.cell? ⟨w1.heap.size + 1, 0, none⟩ = some (.map (some w.heap.size)) := hrq.blk.cell 0
          have hlk := hrq.d.look Tryz.underlying103 (zeroNum _) hsz
          have hst : (s.c.take (k + 1)).map (wrOf s.d) = (s.c.take k).map (wrOf s.d) ++ [⟨s.c[k].1, (getL s.d s.c[k].1).getD 0, (getL s.d s.c[k].1).isNone⟩] := by rw [List.take_succ_eq_append_getElem hlt, List.map_append]; rfl
          have hv : ((getL s.d s.c[k].1).map encN).getD (.int .u64 0) = .int .u64 ((getL s.d s.c[k].1).getD 0) := by cases getL s.d s.c[k].1 <;> rfl
          have hy : (getL s.d s.c[k].1).isNone = !(getL s.d s.c[k].1).isSome := by cases getL s.d s.c[k].1 <;> rfl
          rw [hv] at hlk
          rw [hy] at hst
          clear hv hy
          generalize (getL s.d s.c[k].1).getD 0 = n0 at *
          generalize (getL s.d s.c[k].1).isSome = y0 at *
          generalize s.c[k].1 = x0 at *
          have HN := Lib.hid hst
          clear hst hsz hrq
          go_wp2_with (first | ((with_reducible refine gate_builtin (b := .append) (xs := #[.tmp 51, .tmp 57]) rfl ?_); at_builtin; refine stop_append rfl ?_))
          refine Lib.hid ?_
          refine Kd.R_append k69 (w0 := w6) w6.heap.size rfl (.tmp 51) (.tmp 57) 43 69 (.agg #[.string ⟨#[]⟩, .int .u64 0, .bool false]) 32 rfl Tryz.underlying43 info69 rfl (by decide) (by decide) (.slice A7 k c7) ((s.c.take k).map (wrOf s.d)) ⟨x0, n0, !y0⟩ [.string x0, .int .u64 n0, .bool (!y0)] (fun _ => True) (fun _ => False) rfl rfl (k69_mkM _ _ _ _) (fun _ h => h.elim) (fun _ _ => trivial) HR7.out.1 HR7.out.2 HR7.out.2.size (by rw [List.length_map, List.length_take]; omega) ?_
          intro v9 w9 hS9 hB9 hg9 hat9
          have hln : ((s.c.take k).map (wrOf s.d) ++ [(⟨x0, n0, !y0⟩ : S69)]).length = k + 1 := by simp; omega
          obtain ⟨A9, c9, e9⟩ := Kd.R_slice hS9
          rw [hln] at e9
          have HN9 := Lib.hid (And.intro hS9 hB9)
          rw [e9] at HN9
          rw [e9]
          clear hS9 hB9 hg9 hat9 e9 hlk d0 hr0
          go_wp2_with fail
          go_roundw
          case rel => exact ⟨k + 1, A9, c9, rfl, by go_num, by omega, Lib.hid ⟨by rw [HN.out]; exact HN9.out.1, HN9.out.2⟩⟩
          case measure => simp [intOf]; omega
        · obtain rfl : k = s.c.length := by omega
          have HZ := Lib.hid (And.intro (Kd.R_lower HR7.out.1 (Nat.le_trans HS.out.2.2.size hge)) (And.intro (Kd.S_mono (Kd.S_below HS.out.2.1 hbw) (fun _ _ => trivial)) (HS.out.2.2.trans (hbw.mono HS.out.2.2.size))))
          rw [List.take_length] at HZ
          clear hbw
          go_wp2
          go_ret2
          refine ⟨_, _, rfl, ?_⟩
          rw [HE.out.1, HE.out.2]
          exact HZ.out
def evalOk (l : List S63) (data : List S61) : Prop := l.length ≤ 1000 ∧ (∀ o ∈ l, opOk o) ∧ data.length ≤ 900000 ∧ (∀ p ∈ data, p.f0.size ≤ 1000000)
instance (l : List S63) (data : List S61) : Decidable (evalOk l data) := by unfold evalOk opOk; exact inferInstance
def txn_Eval.f (l : List S63) (data : List S61) : Option (List S69 × List S65) := if evalOk l data then some (writesT (runS l (startT data)), runA l (startT data)) else none
theorem txn_Eval.calls (A0 : Option Addr) (c0 : Nat) (l0 : List S63) (A1 : Option Addr) (c1 : Nat) (l1 : List S61) (r0 : List S69) (r1 : List S65) (w : World) (hr0 : Kd.C k63 w A0 l0.length l0) (_hc0 : l0.length ≤ c0) (hr1 : Kd.C k61 w A1 l1.length l1) (_hc1 : l1.length ≤ c1) (h : txn_Eval.f l0 l1 = some (r0, r1)) :
    Calls Tryz.prog 26 #[.slice A0 l0.length c0, .slice A1 l1.length c1] w fun e w' => ∃ v0_ v1_ : Value, e = .returned (.tuple #[v0_, v1_]) ∧ Kd.R k69 69 w' w.heap.size (fun _ => True) v0_ r0 ∧ Kd.S k65 65 w' w.heap.size (fun _ => True) v1_ r1 ∧ Below w.heap.size w w' := by
  unfold txn_Eval.f at h
  split at h
  · rename_i hc
    injection h with h
    injection h with h0 h1
    subst h0 h1
    exact eval_any A0 c0 l0 A1 c1 l1 w hr0 hr1 hc.1 hc.2.1 ⟨by have := hc.2.2.1; omega, hc.2.2.2⟩ hc.2.2.1
  · cases h
end Go.Proofs.YtgmlenpcchhmbaaGreat.P
end
section
set_option linter.unusedVariables false
set_option linter.unusedSimpArgs false
namespace Go.Proofs.YtgmlenpcchhmbaaGreat.P
open Go.RowKit Go.Sort Go.Shelf Go.Proofs.YtgmlenpcchhmbaaGreatW.PrintWords Go.Proofs.YtgmlenpcchhmbaaGreatW.PrintLast Go.Proofs.YtgmlenpcchhmbaaGreatW.PrintMore
set_option linter.unnecessarySimpa false
theorem C_blk {α : Type} (d : Kd α) {W : World} {g : Nat} {t : TypeId} {cs : Array Value} {xs : List α} (h : Blk W g t cs) (hl : xs.length ≤ 9223372036854775807)
    (hr : ∀ j p, xs[j]? = some p → ∃ c, c.length = d.sz ∧ d.K W p c ∧ ∀ i u, c[i]? = some u → cs[j * d.sz + i]? = some u) : Kd.C d W (some ⟨g, 0, none⟩) xs.length xs := by
  refine ⟨rfl, hl, fun _ => ⟨_, rfl, fun j p hj => ?_⟩⟩
  obtain ⟨c, h1, h2, h3⟩ := hr j p hj
  refine ⟨c, h1, h2, fun i u hu => ?_⟩
  rw [add_plain, h.cell]
  exact h3 i u hu
def sa : ByteArray := ⟨#[97]⟩
def sb : ByteArray := ⟨#[98]⟩
def se : ByteArray := ⟨#[]⟩
def lOps : List S63 := [⟨4, sa, se, rOfN 5⟩, ⟨6, sa, sb, rOfN 3⟩, ⟨1, sb, se, 0⟩]
def lWs : List S69 := [⟨sa, rOfN 2, false⟩, ⟨sb, rOfN 3, false⟩]
def lAs : List S65 := [⟨false, rOfN 5, []⟩, ⟨true, 0, []⟩, ⟨true, rOfN 3, []⟩]
theorem C_lOps (W : World) (g : Nat) (h : Blk W g 63 #[.int .i64 4, .string sa, .string se, .int .u64 (rOfN 5), .int .i64 6, .string sa, .string sb, .int .u64 (rOfN 3), .int .i64 1, .string sb, .string se, .int .u64 0]) : Kd.C k63 W (some ⟨g, 0, none⟩) lOps.length lOps := by
  refine C_blk k63 h (by decide) fun j p hj => ⟨_, rfl, k63_mk W p, fun i u hu => ?_⟩
  rcases j with _ | _ | _ | j <;> simp [lOps] at hj <;> subst hj <;> rcases i with _ | _ | _ | _ | i <;> simpa [show k63.sz = 4 from rfl] using hu
theorem C_lWs (W : World) (g : Nat) (h : Blk W g 69 #[.string sa, .int .u64 (rOfN 2), .bool false, .string sb, .int .u64 (rOfN 3), .bool false]) : Kd.C k69 W (some ⟨g, 0, none⟩) lWs.length lWs := by
  refine C_blk k69 h (by decide) fun j p hj => ⟨_, rfl, k69_mk W p, fun i u hu => ?_⟩
  rcases j with _ | _ | j <;> simp [lWs] at hj <;> subst hj <;> rcases i with _ | _ | _ | i <;> simpa [show k69.sz = 3 from rfl] using hu
theorem C_lAs (W : World) (g : Nat) (h : Blk W g 65 #[.bool false, .int .u64 (rOfN 5), .slice none 0 0, .bool true, .int .u64 0, .slice none 0 0, .bool true, .int .u64 (rOfN 3), .slice none 0 0]) : Kd.C k65 W (some ⟨g, 0, none⟩) lAs.length lAs := by
  refine C_blk k65 h (by decide) fun j p hj => ?_
  rcases j with _ | _ | _ | j <;> simp [lAs] at hj <;> subst hj
  · exact ⟨_, rfl, k65_mk W ⟨false, rOfN 5, []⟩ (c2 := 0) (by simp) (Kd.C_nil _ _), fun i u hu => by rcases i with _ | _ | _ | i <;> simpa [show k65.sz = 3 from rfl] using hu⟩
  · exact ⟨_, rfl, k65_mk W ⟨true, 0, []⟩ (c2 := 0) (by simp) (Kd.C_nil _ _), fun i u hu => by rcases i with _ | _ | _ | i <;> simpa [show k65.sz = 3 from rfl] using hu⟩
  · exact ⟨_, rfl, k65_mk W ⟨true, rOfN 3, []⟩ (c2 := 0) (by simp) (Kd.C_nil _ _), fun i u hu => by rcases i with _ | _ | _ | i <;> simpa [show k65.sz = 3 from rfl] using hu⟩
theorem live_eval : evalOk lOps [] := by decide +kernel
theorem live_ws : folkmootref08_WritesSame.f 9 (writesT (runS lOps (startT []))) lWs = some true := by decide +kernel
theorem live_as : folkmootref08_Answers.f 9 (runA lOps (startT [])) lAs = some true := by decide +kernel
theorem live_put : txn_Put.f lOps = some (laidOps lOps) := by decide +kernel
theorem live_parse : txn_Parse.f (laidOps lOps) = some (lOps, 0) := by kernel_rfl
theorem live_ops : folkmootref08_Ops.f 9 lOps lOps = some true := by decide +kernel
theorem live_chk : txn_Check.f lOps = some 0 := by decide +kernel
theorem live_nil : txn_Check.f ([] : List S63) = some 80 := by decide +kernel
def bL : List Int := laidOps lOps
def vW : List S69 := writesT (runS lOps (startT []))
def vA : List S65 := runA lOps (startT [])
theorem evC (W : World) : Calls Tryz.prog 26 #[.slice (some ⟨W.heap.size, 0, none⟩) 3 3, .slice none 0 0] (W.alloc (.cells #[.int .i64 4, .string ⟨#[97]⟩, .string ⟨#[]⟩, .int .u64 (rOfN 5), .int .i64 6, .string ⟨#[97]⟩, .string ⟨#[98]⟩, .int .u64 (rOfN 3), .int .i64 1, .string ⟨#[98]⟩, .string ⟨#[]⟩, .int .u64 0] 63)) fun e w' =>
    ∃ A1 c1 A2 c2, e = .returned (.tuple #[.slice A1 vW.length c1, .slice A2 vA.length c2]) ∧ (vW.length ≤ c1 ∧ Kd.C k69 w' A1 vW.length vW ∧ vA.length ≤ c2 ∧ Kd.C k65 w' A2 vA.length vA ∧ Kd.C k63 w' (some ⟨W.heap.size, 0, none⟩) 3 lOps) ∧ Below W.heap.size W w' := by
  have hL := C_lOps (W.alloc (.cells #[.int .i64 4, .string sa, .string se, .int .u64 (rOfN 5), .int .i64 6, .string sa, .string sb, .int .u64 (rOfN 3), .int .i64 1, .string sb, .string se, .int .u64 0] 63)) W.heap.size (Blk.new W 63 _)
  refine (txn_Eval.calls _ 3 lOps none 0 [] vW vA _ hL (by decide) (Kd.C_nil _ _) (by simp) (by unfold txn_Eval.f; rw [if_pos live_eval]; rfl)).mono ?_
  rintro e w' ⟨v1, v2, rfl, h1, h2, hb⟩
  obtain ⟨A1, c1, rfl⟩ := Kd.R_slice h1
  obtain ⟨A2, c2, rfl⟩ := Kd.S_slice h2
  obtain ⟨_, l1, C1⟩ := Kd.R_reads' h1
  obtain ⟨_, l2, C2⟩ := Kd.S_reads' h2
  exact ⟨A1, c1, A2, c2, rfl, ⟨l1, C1, l2, C2, Kd.C_below hL hb⟩, ((Below.refl _ _).alloc (Nat.le_refl _) _).trans (hb.mono (by simp))⟩
theorem putC (g : Nat) (W : World) (hr : Kd.C k63 W (some ⟨g, 0, none⟩) 3 lOps) : Calls Tryz.prog 22 #[.slice (some ⟨g, 0, none⟩) 3 3] W fun e w' => ∃ A c, e = .returned (.slice A bL.length c) ∧ (bL.length ≤ c ∧ Kd.C (Kd.int .u8) w' A bL.length bL) ∧ Below W.heap.size W w' := by
  refine (txn_Put.calls _ 3 lOps _ _ hr (by decide) live_put).mono ?_
  rintro e w' ⟨v1, rfl, h1, hb⟩
  obtain ⟨A1, c1, rfl, l1, C1⟩ := Kd.R_reads h1
  exact ⟨A1, c1, rfl, ⟨l1, C1⟩, hb⟩
theorem parseC (A : Option Addr) (c : Nat) (W : World) (hc : bL.length ≤ c) (hr : Kd.C (Kd.int .u8) W A bL.length bL) : Calls Tryz.prog 15 #[.slice A bL.length c] W fun e w' => ∃ A' c', e = .returned (.tuple #[.slice A' 3 c', .int .i64 0]) ∧ (3 ≤ c' ∧ Kd.C k63 w' A' 3 lOps) ∧ Below W.heap.size W w' := by
  refine (txn_Parse.calls A c bL lOps 0 _ hr hc live_parse).mono ?_
  rintro e w' ⟨v1, rfl, h1, hb⟩
  obtain ⟨A1, c1, rfl, l1, C1⟩ := Kd.R_reads h1
  exact ⟨A1, c1, rfl, ⟨l1, C1⟩, hb⟩
theorem chkC (g : Nat) (W : World) (hr : Kd.C k63 W (some ⟨g, 0, none⟩) 3 lOps) : Calls Tryz.prog 18 #[.slice (some ⟨g, 0, none⟩) 3 3] W fun e w' => e = .returned (.int .i64 0) ∧ Below W.heap.size W w' :=
  txn_Check.calls _ 3 lOps _ _ hr (by decide) live_chk
theorem chkN (W : World) : Calls Tryz.prog 18 #[.slice none 0 0] W fun e w' => e = .returned (.int .i64 80) ∧ Below W.heap.size W w' :=
  txn_Check.calls none 0 [] _ _ (Kd.C_nil _ _) (by decide) live_nil
theorem wsC (A : Option Addr) (c : Nat) (W : World) (hc : vW.length ≤ c) (hr : Kd.C k69 W A vW.length vW) : Calls Tryz.prog 29 #[.slice A vW.length c, .slice (some ⟨W.heap.size, 0, none⟩) 2 2] (W.alloc (.cells #[.string ⟨#[97]⟩, .int .u64 (rOfN 2), .bool false, .string ⟨#[98]⟩, .int .u64 (rOfN 3), .bool false] 69)) fun e w' => e = .returned (.bool true) ∧ Below W.heap.size W w' := by
  have hL := C_lWs (W.alloc (.cells #[.string sa, .int .u64 (rOfN 2), .bool false, .string sb, .int .u64 (rOfN 3), .bool false] 69)) W.heap.size (Blk.new W 69 _)
  exact (folkmootref08_WritesSame.calls 9 A c vW _ 2 lWs true _ (Kd.C_alloc hr _) hc hL (by decide) live_ws).mono fun e w' ⟨he, hd⟩ => ⟨he, ((Below.refl _ _).alloc (Nat.le_refl _) _).trans (hd.below.mono (by simp))⟩
theorem ansC (A : Option Addr) (c : Nat) (W : World) (hc : vA.length ≤ c) (hr : Kd.C k65 W A vA.length vA) : Calls Tryz.prog 30 #[.slice A vA.length c, .slice (some ⟨W.heap.size, 0, none⟩) 3 3] (W.alloc (.cells #[.bool false, .int .u64 (rOfN 5), .slice none 0 0, .bool true, .int .u64 0, .slice none 0 0, .bool true, .int .u64 (rOfN 3), .slice none 0 0] 65)) fun e w' => e = .returned (.bool true) ∧ Below W.heap.size W w' := by
  have hL := C_lAs (W.alloc (.cells #[.bool false, .int .u64 (rOfN 5), .slice none 0 0, .bool true, .int .u64 0, .slice none 0 0, .bool true, .int .u64 (rOfN 3), .slice none 0 0] 65)) W.heap.size (Blk.new W 65 _)
  exact (folkmootref08_Answers.calls 9 A c vA _ 3 lAs true _ (Kd.C_alloc hr _) hc hL (by decide) live_as).mono fun e w' ⟨he, hd⟩ => ⟨he, ((Below.refl _ _).alloc (Nat.le_refl _) _).trans (hd.mono (by simp))⟩
theorem opsC (A : Option Addr) (c g : Nat) (W : World) (hc : 3 ≤ c) (hr : Kd.C k63 W A 3 lOps) (hr' : Kd.C k63 W (some ⟨g, 0, none⟩) 3 lOps) : Calls Tryz.prog 21 #[.slice A 3 c, .slice (some ⟨g, 0, none⟩) 3 3] W fun e w' => e = .returned (.bool true) ∧ Below W.heap.size W w' :=
  (folkmootref08_Ops.calls 9 A c lOps _ 3 lOps true _ hr hc hr' (by decide) live_ops).mono fun e w' ⟨he, hd⟩ => ⟨he, hd.below⟩
def folkmootlaw08_live.f : Option Bool := some true
set_option maxHeartbeats 8000000 in
set_option maxRecDepth 100000 in
theorem folkmootlaw08_live.calls (r : Bool) (w : World) (h : folkmootlaw08_live.f = some r) : Calls Tryz.prog 14 #[] w fun e w' => e = .returned (.bool r) ∧ Below w.heap.size w w' := by
  injection h with h
  subst h
  have HO := Lib.hid (fun (a : Int) (W : World) => folkmootref07_Of.calls a _ W rfl)
  have HN := Lib.hid (fun (a : Int) (W : World) => folkmootlaw08_num.calls a _ W rfl)
  have H0 := Lib.hid (Below.refl w.heap.size w)
  go_enter Tryz.func14, Tryz.ntmps14
  go_wp2_with fail
  refine (HO.out 5 _).mono ?_
  rintro e w1 ⟨rfl, hb⟩
  have H1 := Lib.hid (hb.below); clear hb
  go_wp2_with fail
  refine (HO.out 3 _).mono ?_
  rintro e w2 ⟨rfl, hb⟩
  have H2 := Lib.hid (hb.below); clear hb
  go_wp2_with fail
  refine (evC _).mono ?_
  rintro e w3 ⟨A1, c1, A2, c2, rfl, he_, hb⟩
  have H3 := Lib.hid (hb); clear hb
  have HE := Lib.hid he_; clear he_
  go_wp2_with fail
  refine (putC _ _ (HE.out.2.2.2.2)).mono ?_
  rintro e w4 ⟨A3, c3, rfl, hp_, hb⟩
  have H4 := Lib.hid (hb); clear hb
  have HP := Lib.hid hp_; clear hp_
  go_wp2_with fail
  refine (parseC A3 c3 _ HP.out.1 HP.out.2).mono ?_
  rintro e w5 ⟨A4, c4, rfl, hq_, hb⟩
  have H5 := Lib.hid (hb); clear hb
  have HQ := Lib.hid hq_; clear hq_
  go_wp2_with fail
  refine (chkC _ _ (Kd.C_below (Kd.C_below (HE.out.2.2.2.2) H4.out) H5.out)).mono ?_
  rintro e w6 ⟨rfl, hb⟩
  have H6 := Lib.hid (hb); clear hb
  go_wp2_with fail
  refine (HN.out 0 _).mono ?_
  rintro e w7 ⟨rfl, hb⟩
  have H7 := Lib.hid (hb.below); clear hb
  go_wp2_with fail
  refine (HO.out 2 _).mono ?_
  rintro e w8 ⟨rfl, hb⟩
  have H8 := Lib.hid (hb.below); clear hb
  go_wp2_with fail
  refine (HO.out 3 _).mono ?_
  rintro e w9 ⟨rfl, hb⟩
  have H9 := Lib.hid (hb.below); clear hb
  go_wp2_with fail
  refine (wsC A1 c1 _ HE.out.1 (Kd.C_below (Kd.C_below (Kd.C_below (Kd.C_below (Kd.C_below (Kd.C_below (HE.out.2.1) H4.out) H5.out) H6.out) H7.out) H8.out) H9.out)).mono ?_
  rintro e w10 ⟨rfl, hb⟩
  have H10 := Lib.hid (hb); clear hb
  go_wp2_with fail
  refine (HO.out 5 _).mono ?_
  rintro e w11 ⟨rfl, hb⟩
  have H11 := Lib.hid (hb.below); clear hb
  go_wp2_with fail
  refine (HO.out 3 _).mono ?_
  rintro e w12 ⟨rfl, hb⟩
  have H12 := Lib.hid (hb.below); clear hb
  go_wp2_with fail
  refine (ansC A2 c2 _ HE.out.2.2.1 (Kd.C_below (Kd.C_below (Kd.C_below (Kd.C_below (Kd.C_below (Kd.C_below (Kd.C_below (Kd.C_below (Kd.C_below (HE.out.2.2.2.1) H4.out) H5.out) H6.out) H7.out) H8.out) H9.out) H10.out) H11.out) H12.out)).mono ?_
  rintro e w13 ⟨rfl, hb⟩
  have H13 := Lib.hid (hb); clear hb
  go_wp2_with fail
  refine (HN.out 0 _).mono ?_
  rintro e w14 ⟨rfl, hb⟩
  have H14 := Lib.hid (hb.below); clear hb
  go_wp2_with fail
  refine (opsC A4 c4 _ _ HQ.out.1 (Kd.C_below (Kd.C_below (Kd.C_below (Kd.C_below (Kd.C_below (Kd.C_below (Kd.C_below (Kd.C_below (Kd.C_below (HQ.out.2) H6.out) H7.out) H8.out) H9.out) H10.out) H11.out) H12.out) H13.out) H14.out) (Kd.C_below (Kd.C_below (Kd.C_below (Kd.C_below (Kd.C_below (Kd.C_below (Kd.C_below (Kd.C_below (Kd.C_below (Kd.C_below (Kd.C_below (HE.out.2.2.2.2) H4.out) H5.out) H6.out) H7.out) H8.out) H9.out) H10.out) H11.out) H12.out) H13.out) H14.out)).mono ?_
  rintro e w15 ⟨rfl, hb⟩
  have H15 := Lib.hid (hb); clear hb
  go_wp2_with fail
  refine (chkN _).mono ?_
  rintro e w16 ⟨rfl, hb⟩
  have H16 := Lib.hid (hb); clear hb
  go_wp2_with fail
  refine (HN.out 80 _).mono ?_
  rintro e w17 ⟨rfl, hb⟩
  have H17 := Lib.hid (hb.below); clear hb
  go_wp2_with fail
  go_ret
  have X0 := H0.out
  have X1 := X0.trans (H1.out.mono X0.size)
  have X2 := X1.trans (H2.out.mono X1.size)
  have X3 := X2.trans (H3.out.mono X2.size)
  have X4 := X3.trans (H4.out.mono X3.size)
  have X5 := X4.trans (H5.out.mono X4.size)
  have X6 := X5.trans (H6.out.mono X5.size)
  have X7 := X6.trans (H7.out.mono X6.size)
  have X8 := X7.trans (H8.out.mono X7.size)
  have X9 := X8.trans (H9.out.mono X8.size)
  have X10 := X9.trans (H10.out.mono X9.size)
  have X11 := X10.trans (H11.out.mono X10.size)
  have X12 := X11.trans (H12.out.mono X11.size)
  have X13 := X12.trans (H13.out.mono X12.size)
  have X14 := X13.trans (H14.out.mono X13.size)
  have X15 := X14.trans (H15.out.mono X14.size)
  have X16 := X15.trans (H16.out.mono X15.size)
  have X17 := X16.trans (H17.out.mono X16.size)
  exact ⟨rfl, X17⟩
end Go.Proofs.YtgmlenpcchhmbaaGreat.P
end
