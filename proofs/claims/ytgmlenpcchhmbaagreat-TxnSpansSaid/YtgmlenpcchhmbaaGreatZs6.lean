/- what the claim's row stands on, part 6. -/
import Derived.Test.YtgmlenpcchhmbaaGreatZs5
import Derived.Test.YtgmlenpcchhmbaaGreatZs3
import Derived.Test.YtgmlenpcchhmbaaGreatZs2
section
set_option linter.unusedVariables false
set_option linter.unusedSimpArgs false
namespace Go.Proofs.YtgmlenpcchhmbaaGreat.P
open Go.RowKit Go.Proofs.YtgmlenpcchhmbaaGreatW.PrintWords Go.Proofs.YtgmlenpcchhmbaaGreatW.PrintLast Go.Proofs.YtgmlenpcchhmbaaGreatW.PrintMore
def stepJ (j : Nat) (out : List ByteArray) (s : S71) : List ByteArray := if j = 0 then out else if j = 1 then insK out s.f0 else markS out s
theorem C_atT {w : World} {A : Option Addr} {n : Nat} {xs : List ByteArray} (h : Kd.C Kd.string w A n xs) (k : Nat) (hk : k < xs.length) : ∃ ad, A = some ad ∧ w.cell? (ad.add k) = some (.string xs[k]) := by
  obtain ⟨ad, hA, x0⟩ := Kd.at_string h (k : Int) (by omega) (by have := h.1; omega)
  have er : rdOf ByteArray.empty xs (k : Int) = xs[k] := by
    unfold rdOf
    rw [Int.toNat_natCast, List.getD_eq_getElem?_getD, List.getElem?_eq_getElem hk]
    rfl
  rw [er, Int.toNat_natCast] at x0
  exact ⟨ad, hA, x0⟩
theorem stepJ_len (j : Nat) (out : List ByteArray) (s : S71) : (stepJ j out s).length ≤ out.length + 2 := by
  unfold stepJ
  have := insK_len out s.f0
  have := markS_len out s
  repeat' split
  all_goals omega
theorem cutA_of {W0 : World} {b co : Nat} {A : Option Addr} {xs : List ByteArray} {ok : Nat → Prop} (h : Kd.R Kd.string 9 W0 b ok (.slice A xs.length co) xs) (k : Nat) (hk : k ≤ xs.length) :
    ∀ W : World, (Instr.slice 56 (.slice A xs.length co) none (some (.int .i64 (k : Int))) none).run Tryz.prog W = .ok (.slice A k co) W := by
  obtain ⟨i0, hi0, _, _, _⟩ := info_parts info9
  have hc := (Kd.R_reads' h).2.1
  intro W
  have := cut_to (P := Tryz.prog) 56 9 .i64 Tryz.underlying56 hi0 A xs.length co (k : Int) (by omega) (by omega) hc W
  rw [Int.toNat_natCast] at this
  exact this
theorem C_takeK {w : World} {A : Option Addr} {xs : List ByteArray} {k : Nat} (h : Kd.C Kd.string w A xs.length xs) (hk : k ≤ xs.length) : Kd.C Kd.string w A k (xs.take k) := by
  have := Kd.C_take h hk
  rwa [List.length_take, Nat.min_eq_left hk] at this
theorem cutB_of {W0 : World} {b co : Nat} {A : Option Addr} {xs : List ByteArray} {ok : Nat → Prop} (h : Kd.R Kd.string 9 W0 b ok (.slice A xs.length co) xs) (k : Nat) (hk : k ≤ xs.length) :
    ∃ A2 c2, (∀ W : World, (Instr.slice 56 (.slice A xs.length co) (some (.int .i64 (k : Int))) none none).run Tryz.prog W = .ok (.slice A2 (xs.length - k) c2) W) ∧ ∀ W : World, Kd.C Kd.string W A xs.length xs → Kd.C Kd.string W A2 (xs.length - k) (xs.drop k) := by
  obtain ⟨i0, hi0, _, hsz, _⟩ := info_parts info9
  have hc := (Kd.R_reads' h).2.1
  refine ⟨_, co - k, fun W => ?_, fun W hC => by rw [← List.length_drop]; exact Kd.C_drop (c := co) hC hk hc⟩
  have := cut_from (P := Tryz.prog) 56 9 .i64 Tryz.underlying56 hi0 1 hsz A xs.length co (k : Int) (by omega) (by omega) W
  rw [Int.toNat_natCast] at this
  exact this
theorem up_meas {n i : Nat} (h : i < n) (hw : wrap64 ((i : Int) + 1) = (i : Int) + 1) : n - (intOf (Value.int .i64 (wrap64 ((i : Int) + 1)))).toNat < n - (intOf (Value.int .i64 (i : Int))).toNat := by
  rw [hw]
  show n - ((i : Int) + 1).toNat < n - ((i : Int)).toNat
  omega
theorem up_meas2 {n i : Nat} (h : i < n) : n - (intOf (Value.int .i64 ((i : Int) + 1))).toNat < n - (intOf (Value.int .i64 (i : Int))).toNat := by
  show n - ((i : Int) + 1).toNat < n - ((i : Int)).toNat
  omega
set_option maxHeartbeats 8000000 in
set_option maxRecDepth 100000 in
theorem marks_any (A : Option Addr) (c : Nat) (l : List S71) (w : World) (hr : Kd.C k71 w A l.length l) (hc : l.length ≤ c) (hl : l.length ≤ 100000) :
    Calls Tryz.prog 108 #[.slice A l.length c] w fun e w' => ∃ v, e = .returned v ∧ Kd.R Kd.string 9 w' w.heap.size (fun _ => True) v (marksL l) ∧ Below w.heap.size w w' := by
  have HX := Lib.hid (And.intro hr (And.intro hc hl))
  clear hr hc hl
  have H0 := Lib.hid (Below.refl w.heap.size w)
  go_enter Tryz.func108, Tryz.ntmps108
  go_wp2_with fail
  go_loopw [3, 4, 5, 6, 7, 11, 26, 36, 51, 68] (fun so si _ _ _ _ _ _ _ _ wq => ∃ (i : Nat) (out : List ByteArray), si = .int .i64 (i : Int) ∧ i ≤ l.length ∧ RowKit.Hid (out = marksL (l.take i) ∧ Kd.R Kd.string 9 wq w.heap.size (fun _ => True) so out ∧ Below w.heap.size w wq)) (fun _ si _ _ _ _ _ _ _ _ _ => l.length - (intOf si).toNat)
  case atStart => exact ⟨0, [], rfl, Nat.zero_le _, Lib.hid ⟨rfl, Kd.R_nil _ _ _ _ _, H0.out⟩⟩
  case round =>
    obtain ⟨i, out, rfl, hi, HR⟩ := hrel
    rename World => wq
    by_cases hlt : i < l.length
    · obtain ⟨al, rfl, x0, x1⟩ := at_T71 HX.out.1 (i : Int) (by omega) (by omega)
      rw [Int.toNat_natCast] at x0 x1
      obtain ⟨s, hs⟩ : ∃ s, l[i] = s := ⟨_, rfl⟩
      have hrd : rd_T71 l (i : Int) = s := by unfold rd_T71; rw [Int.toNat_natCast, List.getD_eq_getElem?_getD, List.getElem?_eq_getElem hlt, hs]; rfl
      rw [hrd] at x0 x1
      have hst : marksL (l.take (i + 1)) = markS out s := by rw [List.take_succ_eq_append_getElem hlt, HR.out.1, ← hs]; unfold marksL; rw [List.foldl_append]; rfl
      obtain ⟨s0, s1⟩ := s
      have y0 : wq.cell? (al.add (i * 2)) = some (.string s0) := pw_cell_below HR.out.2.2 x0
      have y1 : wq.cell? ⟨(al.add (i * 2)).block, (al.add (i * 2)).off + 1, none⟩ = some (.string s1) := pw_cell_below HR.out.2.2 x1
      have HS := Lib.hid (And.intro hst hs)
      clear hst hs hrd x0 x1
      have hic : (i : Int) < (l.length : Int) := by omega
      have h0i : (0 : Int) ≤ (i : Int) := by omega
      have hiw : wrap64 ((i : Int) + 1) = (i : Int) + 1 := by have := HX.out.2.2; unfold wrap64; omega
      go_upto_region 5 with fail
      refine wp_region_last1_held (S := (fun W => Below wq.heap.size wq W ∧ W.cell? (al.add (i * 2)) = some (.string s0) ∧ W.cell? ⟨(al.add (i * 2)).block, (al.add (i * 2)).off + 1, none⟩ = some (.string s1))) (l := [_, _, _, _, _, _, _, _, _, _, _]) (o := _) (by kernel_rfl) (by kernel_rfl) ?_;simp only [List.size_toArray, List.length_cons, List.length_nil, Nat.zero_add, Nat.reduceAdd]
      have hHeld : ((fun W => Below wq.heap.size wq W ∧ W.cell? (al.add (i * 2)) = some (.string s0) ∧ W.cell? ⟨(al.add (i * 2)).block, (al.add (i * 2)).off + 1, none⟩ = some (.string s1))) wq.drew := ⟨below_drew (Below.refl _ _), y0, y1⟩
      refine tk_ 0 hHeld ?_;refine tk_ 1 hHeld ?_;refine tk_ 2 hHeld ?_;refine tk_ 3 hHeld ?_;refine tk_ 4 hHeld ?_;refine tk_ 5 hHeld ?_;refine tk_ 6 hHeld ?_;refine tk_ 7 hHeld ?_;refine tk_ 8 hHeld ?_;refine tk_ 9 hHeld ?_;refine wpAnyH_ready (rs := [10]) (by kernel_rfl) (by simp) ?_;refine (AllReadyH.cons rfl (fun K hK => ?_) AllReadyH.nil);go_simp;refine hK.out _ _ ?_ (fun hHeld => ?_)
      · exact ⟨below_drew ((Below.refl _ _).alloc (Nat.le_refl _) _), cellA y0 _, cellA y1 _⟩
      clear hK K
      try simp only [List.getElem_toArray, List.getElem_cons_succ, List.getElem_cons_zero, Act.put, List.setIfInBounds_toArray, List.set_cons_zero, List.set_cons_succ]
      refine wpAnyH_done (by kernel_rfl) ?_ _;refine lastPost_wp ?_;clear hHeld
      go_wp2_with fail
      obtain ⟨wb, hwb⟩ : ∃ wb, wq.alloc (.cells #[.string s0, .string s1] 9) = wb := ⟨_, rfl⟩
      have hBb : Blk wb wq.heap.size 9 #[.string s0, .string s1] := hwb ▸ Blk.new wq 9 _
      have hbb : Below wq.heap.size wq wb := hwb ▸ (Below.refl _ _).alloc (Nat.le_refl _) _
      have HW := Lib.hid (And.intro hwb (And.intro hBb hbb))
      clear hBb hbb y0 y1 hwb
      rw [HW.out.1]
      have hbq : Below wq.heap.size wq wb.drew := below_drew HW.out.2.2
      have HQ := Lib.hid hbq
      clear hbq
      obtain ⟨wc, hwc⟩ : ∃ wc, wb.drew = wc := ⟨_, rfl⟩
      have HWc := Lib.hid (And.intro (show Blk wc wq.heap.size 9 #[.string s0, .string s1] from hwc ▸ HW.out.2.1.drew) (show Below wq.heap.size wq wc from hwc ▸ HQ.out))
      rw [hwc]
      clear hwc HQ HW
      go_loopw [3, 6, 7, 26, 36, 51, 68] (fun so sj _ _ _ _ _ wj => ∃ (j : Nat) (out' : List ByteArray), sj = .int .i64 (j : Int) ∧ j ≤ 2 ∧ RowKit.Hid (out' = stepJ j out ⟨s0, s1⟩ ∧ Kd.R Kd.string 9 wj w.heap.size (fun _ => True) so out' ∧ Below wc.heap.size wc wj ∧ Below w.heap.size w wj)) (fun _ sj _ _ _ _ _ _ => 2 - (intOf sj).toNat)
      case atStart => exact ⟨0, out, rfl, by omega, Lib.hid ⟨rfl, Kd.R_step HR.out.2.1 (fun k _ hk => HWc.out.2.block k hk), Below.refl _ _, HR.out.2.2.trans (HWc.out.2.mono HR.out.2.2.size)⟩⟩
      case round =>
        obtain ⟨j, out', rfl, hj, HJ⟩ := hrel
        rename World => wj
        obtain ⟨A', co, rfl⟩ := Kd.R_slice HJ.out.2.1
        have HOb := Lib.hid (show out'.length ≤ 300000 by
          have h1 := stepJ_len j out ⟨s0, s1⟩
          have h2 := marks_len (l.take i)
          rw [← HJ.out.1] at h1
          rw [← HR.out.1, List.length_take] at h2
          have := HX.out.2.2
          omega)
        have hBj : Blk wj wq.heap.size 9 #[.string s0, .string s1] := HWc.out.1.below HJ.out.2.2.1 HWc.out.1.lt
        by_cases h2 : j = 2
        · have hout : out' = markS out ⟨s0, s1⟩ := by rw [HJ.out.1, h2]; rfl
          have hjn : ¬ ((j : Int) < 2) := by omega
          clear h2
          have HO := Lib.hid hout
          clear hout
          go_wp2_with fail
          go_roundw
          case rel => exact ⟨i + 1, out', by rw [hiw]; rfl, by omega, Lib.hid ⟨by rw [HO.out, HS.out.1], HJ.out.2.1, HJ.out.2.2.2⟩⟩
          case measure => exact up_meas hlt hiw
        · have hjl : (j : Int) < 2 := by omega
          have hjw : wrap64 ((j : Int) + 1) = (j : Int) + 1 := by unfold wrap64; omega
          have h0j : (0 : Int) ≤ (j : Int) := by omega
          by_cases h0 : j = 0
          · have hj1 : ¬ ((j : Int) = 1) := by omega
            have hxj : wj.cell? ⟨wq.heap.size, j, none⟩ = some (.string s0) := by rw [h0]; exact hBj.cell 0
            have hfin : stepJ (j + 1) out ⟨s0, s1⟩ = insK out' s0 := by rw [HJ.out.1, h0]; rfl
            have HF := Lib.hid hfin
            clear hfin h0 h2
            go_wp2_with fail
            go_loopw [7, 51] (fun sk _ wk => ∃ k : Nat, sk = .int .i64 (k : Int) ∧ k ≤ out'.length ∧ RowKit.Hid (Below wj.heap.size wj wk ∧ ∀ y ∈ out'.take k, klt y s0 = true)) (fun sk _ _ => out'.length - (intOf sk).toNat)
            case atStart => exact ⟨0, rfl, Nat.zero_le _, Lib.hid ⟨Below.refl _ _, fun y hy => by simp at hy⟩⟩
            case round =>
              obtain ⟨k, rfl, hk, HKr⟩ := hrel
              rename World => wk
              have hxk : wk.cell? ⟨wq.heap.size, j, none⟩ = some (.string s0) := pw_cell_below HKr.out.1 hxj
              have hR : Kd.R Kd.string 9 wk w.heap.size (fun _ => True) (.slice A' out'.length co) out' := Kd.R_step HJ.out.2.1 (fun q _ hq => HKr.out.1.block q hq)
              have hbk : Below wc.heap.size wc wk := HJ.out.2.2.1.trans (HKr.out.1.mono HJ.out.2.2.1.size)
              have hbk2 : Below w.heap.size w wk := HJ.out.2.2.2.trans (HKr.out.1.mono HJ.out.2.2.2.size)
              have HRk := Lib.hid (And.intro hR (And.intro hbk hbk2))
              clear hR hbk hbk2
              have h0k : (0 : Int) ≤ (k : Int) := by omega
              have HOL := Lib.hid (show out'.length ≤ 1000000 by have := HOb.out; omega)
              by_cases hkl : k < out'.length
              · obtain ⟨ol, rfl, z0⟩ := C_atT (Kd.R_reads' HRk.out.1).2.2 k hkl
                obtain ⟨y, hy⟩ : ∃ y, out'[k] = y := ⟨_, rfl⟩
                rw [hy] at z0
                have hki : (k : Int) < (out'.length : Int) := by omega
                have hkb : ((k : Int) == (out'.length : Int)) = false := by rw [beq_eq_false_iff_ne]; omega
                have hyx : klt y s0 = Op.bytesLess y.toList s0.toList := (klt_list y s0).symm
                have hkw : wrap64 ((k : Int) + 1) = (k : Int) + 1 := by have := HOL.out; unfold wrap64; omega
                cases hq : klt y s0 with
                | true =>
                  rw [hq] at hyx
                  have hbl := hyx.symm
                  have HY := Lib.hid (And.intro hy hq)
                  clear hy hq hyx
                  go_wp2_with fail
                  refine wp_region_held (S := (fun W => Below wk.heap.size wk W ∧ W.cell? (ol.add k) = some (.string y) ∧ W.cell? ⟨wq.heap.size, j, none⟩ = some (.string s0))) (by kernel_rfl) ?_;simp only [List.size_toArray, List.length_cons, List.length_nil, Nat.zero_add, Nat.reduceAdd]
                  have hHeld : ((fun W => Below wk.heap.size wk W ∧ W.cell? (ol.add k) = some (.string y) ∧ W.cell? ⟨wq.heap.size, j, none⟩ = some (.string s0))) wk.drew := ⟨below_drew (Below.refl _ _), z0, hxk⟩
                  refine tk_ 0 hHeld ?_;refine tk_ 1 hHeld ?_;refine tk_ 2 hHeld ?_;refine tk_ 3 hHeld ?_;refine tk_ 4 hHeld ?_;refine tk_ 5 hHeld ?_;refine tk_ 6 hHeld ?_;refine tk_ 7 hHeld ?_;refine tk_ 8 hHeld ?_;refine tk_ 9 hHeld ?_;refine tk_ 10 hHeld ?_;refine tk_ 11 hHeld ?_;refine tk_ 12 hHeld ?_;refine tk_ 13 hHeld ?_;refine tk_ 14 hHeld ?_;refine wpAnyH_done (by kernel_rfl) ?_ _;clear hHeld
                  go_wp2_with fail
                  go_roundw
                  case rel => exact ⟨k + 1, by rw [hkw]; rfl, by omega, Lib.hid ⟨below_drew HKr.out.1, fun u hu => by
                    rw [List.take_succ_eq_append_getElem hkl, List.mem_append, List.mem_singleton] at hu
                    rcases hu with hu | hu
                    · exact HKr.out.2 u hu
                    · rw [hu, HY.out.1]; exact HY.out.2⟩⟩
                  case measure => exact up_meas hkl hkw
                | false =>
                  rw [hq] at hyx
                  have hbl := hyx.symm
                  have HY := Lib.hid (And.intro hy hq)
                  clear hy hq hyx
                  go_wp2_with fail
                  refine wp_region_held (S := (fun W => Below wk.heap.size wk W ∧ W.cell? (ol.add k) = some (.string y) ∧ W.cell? ⟨wq.heap.size, j, none⟩ = some (.string s0))) (by kernel_rfl) ?_;simp only [List.size_toArray, List.length_cons, List.length_nil, Nat.zero_add, Nat.reduceAdd]
                  have hHeld : ((fun W => Below wk.heap.size wk W ∧ W.cell? (ol.add k) = some (.string y) ∧ W.cell? ⟨wq.heap.size, j, none⟩ = some (.string s0))) wk.drew := ⟨below_drew (Below.refl _ _), z0, hxk⟩
                  refine tk_ 0 hHeld ?_;refine tk_ 1 hHeld ?_;refine tk_ 2 hHeld ?_;refine tk_ 3 hHeld ?_;refine tk_ 4 hHeld ?_;refine tk_ 5 hHeld ?_;refine tk_ 6 hHeld ?_;refine tk_ 7 hHeld ?_;refine tk_ 8 hHeld ?_;refine tk_ 9 hHeld ?_;refine tk_ 10 hHeld ?_;refine tk_ 11 hHeld ?_;refine tk_ 12 hHeld ?_;refine tk_ 13 hHeld ?_;refine tk_ 14 hHeld ?_;refine wpAnyH_done (by kernel_rfl) ?_ _
                  obtain ⟨hq1, hq2, hq3⟩ := hHeld
                  clear hq1 hbl
                  by_cases hyX : y = s0
                  · have hbe : (y.toList == s0.toList) = true := by rw [hyX]; simp
                    have HE := Lib.hid (show insK out' s0 = out' by rw [insK_at k out' s0 hk HKr.out.2 (fun u hu => by rw [List.getElem?_eq_getElem hkl, HY.out.1] at hu; injection hu with hu; rw [← hu]; exact HY.out.2), if_pos (by rw [List.getElem?_eq_getElem hkl, HY.out.1, hyX])])
                    clear hyX
                    go_wp2_with fail
                    refine wp_region_held (S := (fun W => Below wk.heap.size wk W ∧ W.cell? (ol.add k) = some (.string y) ∧ W.cell? ⟨wq.heap.size, j, none⟩ = some (.string s0))) (by kernel_rfl) ?_;simp only [List.size_toArray, List.length_cons, List.length_nil, Nat.zero_add, Nat.reduceAdd]
                    have hHeld : ((fun W => Below wk.heap.size wk W ∧ W.cell? (ol.add k) = some (.string y) ∧ W.cell? ⟨wq.heap.size, j, none⟩ = some (.string s0))) wk.drew.drew := ⟨below_drew (below_drew (Below.refl _ _)), z0, hxk⟩
                    refine tk_ 0 hHeld ?_;refine tk_ 1 hHeld ?_;refine tk_ 2 hHeld ?_;refine tk_ 3 hHeld ?_;refine tk_ 4 hHeld ?_;refine tk_ 5 hHeld ?_;refine tk_ 6 hHeld ?_;refine tk_ 7 hHeld ?_;refine tk_ 8 hHeld ?_;refine tk_ 9 hHeld ?_;refine tk_ 10 hHeld ?_;refine tk_ 11 hHeld ?_;refine tk_ 12 hHeld ?_;refine tk_ 13 hHeld ?_;refine tk_ 14 hHeld ?_;refine wpAnyH_done (by kernel_rfl) ?_ _
                    obtain ⟨hq1, hq2, hq3⟩ := hHeld
                    have HQ1 := Lib.hid hq1
                    clear hq1 hq2 hq3 hbe
                    go_wp2_with fail
                    go_roundw
                    case rel => exact ⟨j + 1, out', by first | rfl | (rw [hjw]; rfl), by omega, Lib.hid ⟨by rw [HF.out, HE.out], Kd.R_step HRk.out.1 (fun q _ hq => HQ1.out.block q hq), HRk.out.2.1.trans (HQ1.out.mono HRk.out.2.1.size), HRk.out.2.2.trans (HQ1.out.mono HRk.out.2.2.size)⟩⟩
                    case measure => first | exact up_meas (by omega) hjw | exact up_meas2 (by omega) | exact (by decide : (2 : Nat) - (2 : Int).toNat < 2 - (1 : Int).toNat)
                  · have hbe : (y.toList == s0.toList) = false := by rw [beq_eq_false_iff_ne]; intro h; exact hyX (toList_inj.1 h)
                    have HE := Lib.hid (show insK out' s0 = out'.take k ++ [s0] ++ out'.drop k by rw [insK_at k out' s0 hk HKr.out.2 (fun u hu => by rw [List.getElem?_eq_getElem hkl, HY.out.1] at hu; injection hu with hu; rw [← hu]; exact HY.out.2), if_neg (by rw [List.getElem?_eq_getElem hkl, HY.out.1]; intro h; injection h with h; exact hyX h)])
                    clear hyX
                    go_wp2_with fail
                    refine wp_region_held (S := (fun W => Below wk.heap.size wk W ∧ W.cell? (ol.add k) = some (.string y) ∧ W.cell? ⟨wq.heap.size, j, none⟩ = some (.string s0))) (by kernel_rfl) ?_;simp only [List.size_toArray, List.length_cons, List.length_nil, Nat.zero_add, Nat.reduceAdd]
                    have hHeld : ((fun W => Below wk.heap.size wk W ∧ W.cell? (ol.add k) = some (.string y) ∧ W.cell? ⟨wq.heap.size, j, none⟩ = some (.string s0))) wk.drew.drew := ⟨below_drew (below_drew (Below.refl _ _)), z0, hxk⟩
                    refine tk_ 0 hHeld ?_;refine tk_ 1 hHeld ?_;refine tk_ 2 hHeld ?_;refine tk_ 3 hHeld ?_;refine tk_ 4 hHeld ?_;refine tk_ 5 hHeld ?_;refine tk_ 6 hHeld ?_;refine tk_ 7 hHeld ?_;refine tk_ 8 hHeld ?_;refine tk_ 9 hHeld ?_;refine tk_ 10 hHeld ?_;refine tk_ 11 hHeld ?_;refine tk_ 12 hHeld ?_;refine tk_ 13 hHeld ?_;refine tk_ 14 hHeld ?_;refine wpAnyH_done (by kernel_rfl) ?_ _
                    obtain ⟨hq1, hq2, hq3⟩ := hHeld
                    have HQ1 := Lib.hid hq1
                    clear hq1 hq2 hq3 hbe
                    have HZ := Lib.hid HRk.out
                    have hcA := cutA_of HRk.out.1 k hk
                    obtain ⟨A2, c2, hcB, hcC⟩ := cutB_of HRk.out.1 k hk
                    have HCC := Lib.hid hcC
                    clear hcC
                    go_wp2_with fail
                    refine wp_region_last1_held (S := (fun W => Below wk.heap.size wk W ∧ W.cell? ⟨wq.heap.size, j, none⟩ = some (.string s0))) (l := [_, _, _, _, _, _, _, _, _, _, _, _, _, _, _]) (o := _) (by kernel_rfl) (by kernel_rfl) ?_;simp only [List.size_toArray, List.length_cons, List.length_nil, Nat.zero_add, Nat.reduceAdd]
                    have hHeld : ((fun W => Below wk.heap.size wk W ∧ W.cell? ⟨wq.heap.size, j, none⟩ = some (.string s0))) wk.drew.drew.drew := ⟨below_drew (below_drew (below_drew (Below.refl _ _))), hxk⟩
                    refine tk_ 1 hHeld ?_;refine tk_ 2 hHeld ?_;refine tk_ 3 hHeld ?_;refine tk_ 5 hHeld ?_;refine tk_ 6 hHeld ?_;refine tk_ 7 hHeld ?_;refine tk_ 8 hHeld ?_;refine tk_ 11 hHeld ?_;refine tk_ 12 hHeld ?_;refine tk_ 13 hHeld ?_;refine wpAnyH_ready (rs := [0, 9]) (by kernel_rfl) (by simp) ?_;refine (AllReadyH.cons rfl (fun K hK => ?_) (AllReadyH.cons rfl (fun K hK => ?_) AllReadyH.nil))
                    · refine Kd.R_lit_step Kd.string _ 9 ?hg (N := 69) ?hd (xs := ([] : List ByteArray)) (inner := []) (ok := fun _ => True) (okp := fun _ => True) ?hr ?hp (fun _ hk => hk) trivial (Below.refl _ _) (Nat.le_refl _) (by simp) ?_; (case hd => rfl); (case hg => rfl); (case hr => first | (go_simp; done) | (go_simp; rfl)); (case hp => exact (Reps.none _ _));intro v0 w0_ ho0 hb0 hg0 hn0
                      have hr0 := Kd.R_lower ho0 hHeld.1.size
                      have hB0 := hHeld.1.trans (hb0.mono hHeld.1.size)
                      try have hs9 := Kd.R_elder' hr9 (Kd.R_base ho0) hb0
                      refine hK.out _ _ ?_ (fun hHeld => ?_)
                      · exact ⟨hB0, pw_cell_below hB0 hxk⟩
                      clear hK K hg0 hn0 hB0
                      try simp only [List.getElem_toArray, List.getElem_cons_succ, List.getElem_cons_zero, Act.put, List.setIfInBounds_toArray, List.set_cons_zero, List.set_cons_succ]
                      refine wpAnyH_ready (rs := [4, 9]) (by kernel_rfl) (by simp) ?_;refine (AllReadyH.cons rfl (fun K hK => ?_) (AllReadyH.cons rfl (fun K hK => ?_) AllReadyH.nil))
                      · refine Kd.R_append_rows_step Kd.string (w0 := wk) wk.heap.size (by rfl) (.tmp 69) (.tmp 72) 56 9 (.string ⟨#[]⟩) 16 rfl Tryz.underlying56 info9 rfl (by decide) (by omega) v0 [] (out'.take k) _ _ _ (fun _ => True) (fun _ => False) rfl rfl hr0 (Kd.C_below (C_takeK (Kd.R_reads' HZ.out.1).2.2 hk) hHeld.1) (fun _ _ h => h) (fun _ h => h.elim) (fun _ _ => trivial) hHeld.1 hHeld.1.size (by have := HOL.out; simp only [List.length_nil]; omega) ?_;intro v4 w4 hr4 hb4 hg4 hat4
                        try have hs4 := Kd.R_after hs9 hg4 hat4
                        refine hK.out _ _ ?_ (fun hHeld => ?_)
                        · exact ⟨hb4, pw_cell_below hb4 hxk⟩
                        clear hK K hg4 hat4
                        try simp only [List.getElem_toArray, List.getElem_cons_succ, List.getElem_cons_zero, Act.put, List.setIfInBounds_toArray, List.set_cons_zero, List.set_cons_succ]
                        refine wpAnyH_ready (rs := [9]) (by kernel_rfl) (by simp) ?_;refine (AllReadyH.cons rfl (fun K hK => ?_) AllReadyH.nil);refine Kd.R_lit_step Kd.string _ 9 ?hg (N := 78) ?hd (xs := [s0]) (inner := [.string s0]) (ok := fun _ => True) (okp := fun _ => True) ?hr ?hp (fun _ hk => hk) trivial (Below.refl _ _) (Nat.le_refl _) (by simp) ?_; (case hd => rfl); (case hg => rfl); (case hr => first | (go_simp; done) | (go_simp; rfl)); (case hp => exact (Reps.one rfl (Reps.none _ _)));intro v9 w9 ho9 hb9 hg9 hn9
                        obtain ⟨A9, c9, rfl⟩ := Kd.R_slice ho9
                        have hr9 := Kd.R_lower ho9 hHeld.1.size
                        have hB9 := hHeld.1.trans (hb9.mono hHeld.1.size)
                        try have hs9 := Kd.R_lower (Kd.R_new' ho9 (Kd.R_lt hr0)) hHeld.1.size
                        try have hr0 := Kd.R_step hr0 (fun q _ hq => hb9.block q hq)
                        try have hr4 := Kd.R_step hr4 (fun q _ hq => hb9.block q hq)
                        refine hK.out _ _ ?_ (fun hHeld => ?_)
                        · exact ⟨hB9, pw_cell_below hB9 hxk⟩
                        clear hK K hg9 hn9 hB9
                        try simp only [List.getElem_toArray, List.getElem_cons_succ, List.getElem_cons_zero, Act.put, List.setIfInBounds_toArray, List.set_cons_zero, List.set_cons_succ]
                        refine wpAnyH_ready (rs := [10]) (by kernel_rfl) (by simp) ?_;refine (AllReadyH.cons rfl (fun K hK => ?_) AllReadyH.nil);refine Kd.R_append_rows_step Kd.string (w0 := wk) wk.heap.size (by rfl) (.tmp 73) (.tmp 78) 56 9 (.string ⟨#[]⟩) 16 rfl Tryz.underlying56 info9 rfl (by decide) (by omega) v4 _ [s0] _ _ _ (fun _ => True) (fun _ => False) rfl rfl hr4 (by first | exact (Kd.R_reads' hs4).2.2 | exact (Kd.R_reads' hr9).2.2) (fun _ _ h => h) (fun _ h => h.elim) (fun _ _ => trivial) hHeld.1 hHeld.1.size (by have := HOL.out; rw [List.nil_append, List.length_take]; simp only [List.length_cons, List.length_nil]; omega) ?_;intro v10 w10 hr10 hb10 hg10 hat10;refine hK.out _ _ ?_ (fun hHeld => ?_)
                        · exact ⟨hb10, pw_cell_below hb10 hxk⟩
                        clear hK K hg10 hat10
                        try simp only [List.getElem_toArray, List.getElem_cons_succ, List.getElem_cons_zero, Act.put, List.setIfInBounds_toArray, List.set_cons_zero, List.set_cons_succ]
                        refine wpAnyH_ready (rs := [14]) (by kernel_rfl) (by simp) ?_;refine (AllReadyH.cons rfl (fun K hK => ?_) AllReadyH.nil);refine Kd.R_append_rows_step Kd.string (w0 := wk) wk.heap.size (by rfl) (.tmp 79) (.tmp 82) 56 9 (.string ⟨#[]⟩) 16 rfl Tryz.underlying56 info9 rfl (by decide) (by omega) v10 _ (out'.drop k) _ _ _ (fun _ => True) (fun _ => False) rfl rfl hr10 (Kd.C_below (HCC.out _ (Kd.R_reads' HZ.out.1).2.2) hHeld.1) (fun _ _ h => h) (fun _ h => h.elim) (fun _ _ => trivial) hHeld.1 hHeld.1.size (by have := HOL.out; rw [List.nil_append, List.length_append, List.length_take]; simp only [List.length_cons, List.length_nil]; omega) ?_;intro v14 w14 hr14 hb14 hg14 hat14
                        rw [List.nil_append, ← HE.out] at hr14
                        refine hK.out _ _ ?_ (fun hHeld => ?_)
                        · exact ⟨hb14, pw_cell_below hb14 hxk⟩
                        clear hK K hg14 hat14
                        try simp only [List.getElem_toArray, List.getElem_cons_succ, List.getElem_cons_zero, Act.put, List.setIfInBounds_toArray, List.set_cons_zero, List.set_cons_succ]
                        refine wpAnyH_done (by kernel_rfl) ?_ _;refine lastPost_wp ?_
                        have HR14 := Lib.hid (And.intro hr14 hb14)
                        clear hHeld hr14 hb14 hxk hcA hcB
                        go_wp2_with fail
                        go_roundw
                        case rel => exact ⟨j + 1, insK out' s0, by first | rfl | (rw [hjw]; rfl), by omega, Lib.hid ⟨HF.out.symm, Kd.R_lower HR14.out.1 HZ.out.2.2.size, HZ.out.2.1.trans (HR14.out.2.mono HZ.out.2.1.size), HZ.out.2.2.trans (HR14.out.2.mono HZ.out.2.2.size)⟩⟩
                        case measure => first | exact up_meas (by omega) hjw | exact up_meas2 (by omega) | exact (by decide : (2 : Nat) - (2 : Int).toNat < 2 - (1 : Int).toNat)
                      · refine Kd.R_lit_step Kd.string _ 9 ?hg (N := 78) ?hd (xs := [s0]) (inner := [.string s0]) (ok := fun _ => True) (okp := fun _ => True) ?hr ?hp (fun _ hk => hk) trivial (Below.refl _ _) (Nat.le_refl _) (by simp) ?_; (case hd => rfl); (case hg => rfl); (case hr => first | (go_simp; done) | (go_simp; rfl)); (case hp => exact (Reps.one rfl (Reps.none _ _)));intro v9 w9 ho9 hb9 hg9 hn9
                        obtain ⟨A9, c9, rfl⟩ := Kd.R_slice ho9
                        have hr9 := Kd.R_lower ho9 hHeld.1.size
                        have hB9 := hHeld.1.trans (hb9.mono hHeld.1.size)
                        try have hs9 := Kd.R_lower (Kd.R_new' ho9 (Kd.R_lt hr0)) hHeld.1.size
                        try have hr0 := Kd.R_step hr0 (fun q _ hq => hb9.block q hq)
                        try have hr4 := Kd.R_step hr4 (fun q _ hq => hb9.block q hq)
                        refine hK.out _ _ ?_ (fun hHeld => ?_)
                        · exact ⟨hB9, pw_cell_below hB9 hxk⟩
                        clear hK K hg9 hn9 hB9
                        try simp only [List.getElem_toArray, List.getElem_cons_succ, List.getElem_cons_zero, Act.put, List.setIfInBounds_toArray, List.set_cons_zero, List.set_cons_succ]
                        refine wpAnyH_ready (rs := [4]) (by kernel_rfl) (by simp) ?_;refine (AllReadyH.cons rfl (fun K hK => ?_) AllReadyH.nil);refine Kd.R_append_rows_step Kd.string (w0 := wk) wk.heap.size (by rfl) (.tmp 69) (.tmp 72) 56 9 (.string ⟨#[]⟩) 16 rfl Tryz.underlying56 info9 rfl (by decide) (by omega) v0 [] (out'.take k) _ _ _ (fun _ => True) (fun _ => False) rfl rfl hr0 (Kd.C_below (C_takeK (Kd.R_reads' HZ.out.1).2.2 hk) hHeld.1) (fun _ _ h => h) (fun _ h => h.elim) (fun _ _ => trivial) hHeld.1 hHeld.1.size (by have := HOL.out; simp only [List.length_nil]; omega) ?_;intro v4 w4 hr4 hb4 hg4 hat4
                        try have hs4 := Kd.R_after hs9 hg4 hat4
                        refine hK.out _ _ ?_ (fun hHeld => ?_)
                        · exact ⟨hb4, pw_cell_below hb4 hxk⟩
                        clear hK K hg4 hat4
                        try simp only [List.getElem_toArray, List.getElem_cons_succ, List.getElem_cons_zero, Act.put, List.setIfInBounds_toArray, List.set_cons_zero, List.set_cons_succ]
                        refine wpAnyH_ready (rs := [10]) (by kernel_rfl) (by simp) ?_;refine (AllReadyH.cons rfl (fun K hK => ?_) AllReadyH.nil);refine Kd.R_append_rows_step Kd.string (w0 := wk) wk.heap.size (by rfl) (.tmp 73) (.tmp 78) 56 9 (.string ⟨#[]⟩) 16 rfl Tryz.underlying56 info9 rfl (by decide) (by omega) v4 _ [s0] _ _ _ (fun _ => True) (fun _ => False) rfl rfl hr4 (by first | exact (Kd.R_reads' hs4).2.2 | exact (Kd.R_reads' hr9).2.2) (fun _ _ h => h) (fun _ h => h.elim) (fun _ _ => trivial) hHeld.1 hHeld.1.size (by have := HOL.out; rw [List.nil_append, List.length_take]; simp only [List.length_cons, List.length_nil]; omega) ?_;intro v10 w10 hr10 hb10 hg10 hat10;refine hK.out _ _ ?_ (fun hHeld => ?_)
                        · exact ⟨hb10, pw_cell_below hb10 hxk⟩
                        clear hK K hg10 hat10
                        try simp only [List.getElem_toArray, List.getElem_cons_succ, List.getElem_cons_zero, Act.put, List.setIfInBounds_toArray, List.set_cons_zero, List.set_cons_succ]
                        refine wpAnyH_ready (rs := [14]) (by kernel_rfl) (by simp) ?_;refine (AllReadyH.cons rfl (fun K hK => ?_) AllReadyH.nil);refine Kd.R_append_rows_step Kd.string (w0 := wk) wk.heap.size (by rfl) (.tmp 79) (.tmp 82) 56 9 (.string ⟨#[]⟩) 16 rfl Tryz.underlying56 info9 rfl (by decide) (by omega) v10 _ (out'.drop k) _ _ _ (fun _ => True) (fun _ => False) rfl rfl hr10 (Kd.C_below (HCC.out _ (Kd.R_reads' HZ.out.1).2.2) hHeld.1) (fun _ _ h => h) (fun _ h => h.elim) (fun _ _ => trivial) hHeld.1 hHeld.1.size (by have := HOL.out; rw [List.nil_append, List.length_append, List.length_take]; simp only [List.length_cons, List.length_nil]; omega) ?_;intro v14 w14 hr14 hb14 hg14 hat14
                        rw [List.nil_append, ← HE.out] at hr14
                        refine hK.out _ _ ?_ (fun hHeld => ?_)
                        · exact ⟨hb14, pw_cell_below hb14 hxk⟩
                        clear hK K hg14 hat14
                        try simp only [List.getElem_toArray, List.getElem_cons_succ, List.getElem_cons_zero, Act.put, List.setIfInBounds_toArray, List.set_cons_zero, List.set_cons_succ]
                        refine wpAnyH_done (by kernel_rfl) ?_ _;refine lastPost_wp ?_
                        have HR14 := Lib.hid (And.intro hr14 hb14)
                        clear hHeld hr14 hb14 hxk hcA hcB
                        go_wp2_with fail
                        go_roundw
                        case rel => exact ⟨j + 1, insK out' s0, by first | rfl | (rw [hjw]; rfl), by omega, Lib.hid ⟨HF.out.symm, Kd.R_lower HR14.out.1 HZ.out.2.2.size, HZ.out.2.1.trans (HR14.out.2.mono HZ.out.2.1.size), HZ.out.2.2.trans (HR14.out.2.mono HZ.out.2.2.size)⟩⟩
                        case measure => first | exact up_meas (by omega) hjw | exact up_meas2 (by omega) | exact (by decide : (2 : Nat) - (2 : Int).toNat < 2 - (1 : Int).toNat)
                    · refine Kd.R_lit_step Kd.string _ 9 ?hg (N := 78) ?hd (xs := [s0]) (inner := [.string s0]) (ok := fun _ => True) (okp := fun _ => True) ?hr ?hp (fun _ hk => hk) trivial (Below.refl _ _) (Nat.le_refl _) (by simp) ?_; (case hd => rfl); (case hg => rfl); (case hr => first | (go_simp; done) | (go_simp; rfl)); (case hp => exact (Reps.one rfl (Reps.none _ _)));intro v9 w9 ho9 hb9 hg9 hn9
                      obtain ⟨A9, c9, rfl⟩ := Kd.R_slice ho9
                      have hr9 := Kd.R_lower ho9 hHeld.1.size
                      have hB9 := hHeld.1.trans (hb9.mono hHeld.1.size)
                      try have hs9 := Kd.R_lower (Kd.R_new' ho9 (Kd.R_lt hr0)) hHeld.1.size
                      try have hr0 := Kd.R_step hr0 (fun q _ hq => hb9.block q hq)
                      try have hr4 := Kd.R_step hr4 (fun q _ hq => hb9.block q hq)
                      refine hK.out _ _ ?_ (fun hHeld => ?_)
                      · exact ⟨hB9, pw_cell_below hB9 hxk⟩
                      clear hK K hg9 hn9 hB9
                      try simp only [List.getElem_toArray, List.getElem_cons_succ, List.getElem_cons_zero, Act.put, List.setIfInBounds_toArray, List.set_cons_zero, List.set_cons_succ]
                      refine wpAnyH_ready (rs := [0]) (by kernel_rfl) (by simp) ?_;refine (AllReadyH.cons rfl (fun K hK => ?_) AllReadyH.nil);refine Kd.R_lit_step Kd.string _ 9 ?hg (N := 69) ?hd (xs := ([] : List ByteArray)) (inner := []) (ok := fun _ => True) (okp := fun _ => True) ?hr ?hp (fun _ hk => hk) trivial (Below.refl _ _) (Nat.le_refl _) (by simp) ?_; (case hd => rfl); (case hg => rfl); (case hr => first | (go_simp; done) | (go_simp; rfl)); (case hp => exact (Reps.none _ _));intro v0 w0_ ho0 hb0 hg0 hn0
                      have hr0 := Kd.R_lower ho0 hHeld.1.size
                      have hB0 := hHeld.1.trans (hb0.mono hHeld.1.size)
                      try have hs9 := Kd.R_elder' hr9 (Kd.R_base ho0) hb0
                      refine hK.out _ _ ?_ (fun hHeld => ?_)
                      · exact ⟨hB0, pw_cell_below hB0 hxk⟩
                      clear hK K hg0 hn0 hB0
                      try simp only [List.getElem_toArray, List.getElem_cons_succ, List.getElem_cons_zero, Act.put, List.setIfInBounds_toArray, List.set_cons_zero, List.set_cons_succ]
                      refine wpAnyH_ready (rs := [4]) (by kernel_rfl) (by simp) ?_;refine (AllReadyH.cons rfl (fun K hK => ?_) AllReadyH.nil);refine Kd.R_append_rows_step Kd.string (w0 := wk) wk.heap.size (by rfl) (.tmp 69) (.tmp 72) 56 9 (.string ⟨#[]⟩) 16 rfl Tryz.underlying56 info9 rfl (by decide) (by omega) v0 [] (out'.take k) _ _ _ (fun _ => True) (fun _ => False) rfl rfl hr0 (Kd.C_below (C_takeK (Kd.R_reads' HZ.out.1).2.2 hk) hHeld.1) (fun _ _ h => h) (fun _ h => h.elim) (fun _ _ => trivial) hHeld.1 hHeld.1.size (by have := HOL.out; simp only [List.length_nil]; omega) ?_;intro v4 w4 hr4 hb4 hg4 hat4
                      try have hs4 := Kd.R_after hs9 hg4 hat4
                      refine hK.out _ _ ?_ (fun hHeld => ?_)
                      · exact ⟨hb4, pw_cell_below hb4 hxk⟩
                      clear hK K hg4 hat4
                      try simp only [List.getElem_toArray, List.getElem_cons_succ, List.getElem_cons_zero, Act.put, List.setIfInBounds_toArray, List.set_cons_zero, List.set_cons_succ]
                      refine wpAnyH_ready (rs := [10]) (by kernel_rfl) (by simp) ?_;refine (AllReadyH.cons rfl (fun K hK => ?_) AllReadyH.nil);refine Kd.R_append_rows_step Kd.string (w0 := wk) wk.heap.size (by rfl) (.tmp 73) (.tmp 78) 56 9 (.string ⟨#[]⟩) 16 rfl Tryz.underlying56 info9 rfl (by decide) (by omega) v4 _ [s0] _ _ _ (fun _ => True) (fun _ => False) rfl rfl hr4 (by first | exact (Kd.R_reads' hs4).2.2 | exact (Kd.R_reads' hr9).2.2) (fun _ _ h => h) (fun _ h => h.elim) (fun _ _ => trivial) hHeld.1 hHeld.1.size (by have := HOL.out; rw [List.nil_append, List.length_take]; simp only [List.length_cons, List.length_nil]; omega) ?_;intro v10 w10 hr10 hb10 hg10 hat10;refine hK.out _ _ ?_ (fun hHeld => ?_)
                      · exact ⟨hb10, pw_cell_below hb10 hxk⟩
                      clear hK K hg10 hat10
                      try simp only [List.getElem_toArray, List.getElem_cons_succ, List.getElem_cons_zero, Act.put, List.setIfInBounds_toArray, List.set_cons_zero, List.set_cons_succ]
                      refine wpAnyH_ready (rs := [14]) (by kernel_rfl) (by simp) ?_;refine (AllReadyH.cons rfl (fun K hK => ?_) AllReadyH.nil);refine Kd.R_append_rows_step Kd.string (w0 := wk) wk.heap.size (by rfl) (.tmp 79) (.tmp 82) 56 9 (.string ⟨#[]⟩) 16 rfl Tryz.underlying56 info9 rfl (by decide) (by omega) v10 _ (out'.drop k) _ _ _ (fun _ => True) (fun _ => False) rfl rfl hr10 (Kd.C_below (HCC.out _ (Kd.R_reads' HZ.out.1).2.2) hHeld.1) (fun _ _ h => h) (fun _ h => h.elim) (fun _ _ => trivial) hHeld.1 hHeld.1.size (by have := HOL.out; rw [List.nil_append, List.length_append, List.length_take]; simp only [List.length_cons, List.length_nil]; omega) ?_;intro v14 w14 hr14 hb14 hg14 hat14
                      rw [List.nil_append, ← HE.out] at hr14
                      refine hK.out _ _ ?_ (fun hHeld => ?_)
                      · exact ⟨hb14, pw_cell_below hb14 hxk⟩
                      clear hK K hg14 hat14
                      try simp only [List.getElem_toArray, List.getElem_cons_succ, List.getElem_cons_zero, Act.put, List.setIfInBounds_toArray, List.set_cons_zero, List.set_cons_succ]
                      refine wpAnyH_done (by kernel_rfl) ?_ _;refine lastPost_wp ?_
                      have HR14 := Lib.hid (And.intro hr14 hb14)
                      clear hHeld hr14 hb14 hxk hcA hcB
                      go_wp2_with fail
                      go_roundw
                      case rel => exact ⟨j + 1, insK out' s0, by first | rfl | (rw [hjw]; rfl), by omega, Lib.hid ⟨HF.out.symm, Kd.R_lower HR14.out.1 HZ.out.2.2.size, HZ.out.2.1.trans (HR14.out.2.mono HZ.out.2.1.size), HZ.out.2.2.trans (HR14.out.2.mono HZ.out.2.2.size)⟩⟩
                      case measure => first | exact up_meas (by omega) hjw | exact up_meas2 (by omega) | exact (by decide : (2 : Nat) - (2 : Int).toNat < 2 - (1 : Int).toNat)
              · have hki : ¬ ((k : Int) < (out'.length : Int)) := by omega
                have hkd : decide ((k : Int) < (out'.length : Int)) = false := decide_eq_false hki
                have hkb : ((k : Int) == (out'.length : Int)) = true := by rw [beq_iff_eq]; omega
                have hke : out'[k]? = none := List.getElem?_eq_none (by omega)
                have HE := Lib.hid (show insK out' s0 = out'.take k ++ [s0] ++ out'.drop k by rw [insK_at k out' s0 hk HKr.out.2 (fun u hu => by rw [hke] at hu; cases hu), if_neg (by rw [hke]; simp)])
                clear hke
                go_wp2_with fail
                refine wp_region_held (S := (fun W => Below wk.heap.size wk W ∧ W.cell? ⟨wq.heap.size, j, none⟩ = some (.string s0))) (by kernel_rfl) ?_;simp only [List.size_toArray, List.length_cons, List.length_nil, Nat.zero_add, Nat.reduceAdd]
                have hHeld : ((fun W => Below wk.heap.size wk W ∧ W.cell? ⟨wq.heap.size, j, none⟩ = some (.string s0))) wk.drew := ⟨below_drew (Below.refl _ _), hxk⟩
                refine tk_ 0 hHeld ?_;refine tk_ 1 hHeld ?_;refine tk_ 2 hHeld ?_;refine tk_ 3 hHeld ?_;refine tk_ 4 hHeld ?_;refine tf_ 5 hHeld ?_;refine tf_ 6 hHeld ?_;refine tf_ 7 hHeld ?_;refine tf_ 8 hHeld ?_;refine tf_ 9 hHeld ?_;refine tf_ 10 hHeld ?_;refine tf_ 11 hHeld ?_;refine tf_ 12 hHeld ?_;refine tf_ 13 hHeld ?_;refine tk_ 14 hHeld ?_;refine wpAnyH_done (by kernel_rfl) ?_ _;clear hHeld
                go_wp2_with fail
                refine wp_region_held (S := (fun W => Below wk.heap.size wk W ∧ W.cell? ⟨wq.heap.size, j, none⟩ = some (.string s0))) (by kernel_rfl) ?_;simp only [List.size_toArray, List.length_cons, List.length_nil, Nat.zero_add, Nat.reduceAdd]
                have hHeld : ((fun W => Below wk.heap.size wk W ∧ W.cell? ⟨wq.heap.size, j, none⟩ = some (.string s0))) wk.drew.drew := ⟨below_drew (below_drew (Below.refl _ _)), hxk⟩
                refine tk_ 0 hHeld ?_;refine tk_ 1 hHeld ?_;refine tk_ 2 hHeld ?_;refine tk_ 3 hHeld ?_;refine tk_ 4 hHeld ?_;refine tf_ 5 hHeld ?_;refine tf_ 6 hHeld ?_;refine tf_ 7 hHeld ?_;refine tf_ 8 hHeld ?_;refine tf_ 9 hHeld ?_;refine tf_ 10 hHeld ?_;refine tf_ 11 hHeld ?_;refine tf_ 12 hHeld ?_;refine tf_ 13 hHeld ?_;refine tk_ 14 hHeld ?_;refine wpAnyH_done (by kernel_rfl) ?_ _;clear hHeld
                have HZ := Lib.hid HRk.out
                have hcA := cutA_of HRk.out.1 k hk
                obtain ⟨A2, c2, hcB, hcC⟩ := cutB_of HRk.out.1 k hk
                have HCC := Lib.hid hcC
                clear hcC
                go_wp2_with fail
                refine wp_region_last1_held (S := (fun W => Below wk.heap.size wk W ∧ W.cell? ⟨wq.heap.size, j, none⟩ = some (.string s0))) (l := [_, _, _, _, _, _, _, _, _, _, _, _, _, _, _]) (o := _) (by kernel_rfl) (by kernel_rfl) ?_;simp only [List.size_toArray, List.length_cons, List.length_nil, Nat.zero_add, Nat.reduceAdd]
                have hHeld : ((fun W => Below wk.heap.size wk W ∧ W.cell? ⟨wq.heap.size, j, none⟩ = some (.string s0))) wk.drew.drew.drew := ⟨below_drew (below_drew (below_drew (Below.refl _ _))), hxk⟩
                refine tk_ 1 hHeld ?_;refine tk_ 2 hHeld ?_;refine tk_ 3 hHeld ?_;refine tk_ 5 hHeld ?_;refine tk_ 6 hHeld ?_;refine tk_ 7 hHeld ?_;refine tk_ 8 hHeld ?_;refine tk_ 11 hHeld ?_;refine tk_ 12 hHeld ?_;refine tk_ 13 hHeld ?_;refine wpAnyH_ready (rs := [0, 9]) (by kernel_rfl) (by simp) ?_;refine (AllReadyH.cons rfl (fun K hK => ?_) (AllReadyH.cons rfl (fun K hK => ?_) AllReadyH.nil))
                · refine Kd.R_lit_step Kd.string _ 9 ?hg (N := 69) ?hd (xs := ([] : List ByteArray)) (inner := []) (ok := fun _ => True) (okp := fun _ => True) ?hr ?hp (fun _ hk => hk) trivial (Below.refl _ _) (Nat.le_refl _) (by simp) ?_; (case hd => rfl); (case hg => rfl); (case hr => first | (go_simp; done) | (go_simp; rfl)); (case hp => exact (Reps.none _ _));intro v0 w0_ ho0 hb0 hg0 hn0
                  have hr0 := Kd.R_lower ho0 hHeld.1.size
                  have hB0 := hHeld.1.trans (hb0.mono hHeld.1.size)
                  try have hs9 := Kd.R_elder' hr9 (Kd.R_base ho0) hb0
                  refine hK.out _ _ ?_ (fun hHeld => ?_)
                  · exact ⟨hB0, pw_cell_below hB0 hxk⟩
                  clear hK K hg0 hn0 hB0
                  try simp only [List.getElem_toArray, List.getElem_cons_succ, List.getElem_cons_zero, Act.put, List.setIfInBounds_toArray, List.set_cons_zero, List.set_cons_succ]
                  refine wpAnyH_ready (rs := [4, 9]) (by kernel_rfl) (by simp) ?_;refine (AllReadyH.cons rfl (fun K hK => ?_) (AllReadyH.cons rfl (fun K hK => ?_) AllReadyH.nil))
                  · refine Kd.R_append_rows_step Kd.string (w0 := wk) wk.heap.size (by rfl) (.tmp 69) (.tmp 72) 56 9 (.string ⟨#[]⟩) 16 rfl Tryz.underlying56 info9 rfl (by decide) (by omega) v0 [] (out'.take k) _ _ _ (fun _ => True) (fun _ => False) rfl rfl hr0 (Kd.C_below (C_takeK (Kd.R_reads' HZ.out.1).2.2 hk) hHeld.1) (fun _ _ h => h) (fun _ h => h.elim) (fun _ _ => trivial) hHeld.1 hHeld.1.size (by have := HOL.out; simp only [List.length_nil]; omega) ?_;intro v4 w4 hr4 hb4 hg4 hat4
                    try have hs4 := Kd.R_after hs9 hg4 hat4
                    refine hK.out _ _ ?_ (fun hHeld => ?_)
                    · exact ⟨hb4, pw_cell_below hb4 hxk⟩
                    clear hK K hg4 hat4
                    try simp only [List.getElem_toArray, List.getElem_cons_succ, List.getElem_cons_zero, Act.put, List.setIfInBounds_toArray, List.set_cons_zero, List.set_cons_succ]
                    refine wpAnyH_ready (rs := [9]) (by kernel_rfl) (by simp) ?_;refine (AllReadyH.cons rfl (fun K hK => ?_) AllReadyH.nil);refine Kd.R_lit_step Kd.string _ 9 ?hg (N := 78) ?hd (xs := [s0]) (inner := [.string s0]) (ok := fun _ => True) (okp := fun _ => True) ?hr ?hp (fun _ hk => hk) trivial (Below.refl _ _) (Nat.le_refl _) (by simp) ?_; (case hd => rfl); (case hg => rfl); (case hr => first | (go_simp; done) | (go_simp; rfl)); (case hp => exact (Reps.one rfl (Reps.none _ _)));intro v9 w9 ho9 hb9 hg9 hn9
                    obtain ⟨A9, c9, rfl⟩ := Kd.R_slice ho9
                    have hr9 := Kd.R_lower ho9 hHeld.1.size
                    have hB9 := hHeld.1.trans (hb9.mono hHeld.1.size)
                    try have hs9 := Kd.R_lower (Kd.R_new' ho9 (Kd.R_lt hr0)) hHeld.1.size
                    try have hr0 := Kd.R_step hr0 (fun q _ hq => hb9.block q hq)
                    try have hr4 := Kd.R_step hr4 (fun q _ hq => hb9.block q hq)
                    refine hK.out _ _ ?_ (fun hHeld => ?_)
                    · exact ⟨hB9, pw_cell_below hB9 hxk⟩
                    clear hK K hg9 hn9 hB9
                    try simp only [List.getElem_toArray, List.getElem_cons_succ, List.getElem_cons_zero, Act.put, List.setIfInBounds_toArray, List.set_cons_zero, List.set_cons_succ]
                    refine wpAnyH_ready (rs := [10]) (by kernel_rfl) (by simp) ?_;refine (AllReadyH.cons rfl (fun K hK => ?_) AllReadyH.nil);refine Kd.R_append_rows_step Kd.string (w0 := wk) wk.heap.size (by rfl) (.tmp 73) (.tmp 78) 56 9 (.string ⟨#[]⟩) 16 rfl Tryz.underlying56 info9 rfl (by decide) (by omega) v4 _ [s0] _ _ _ (fun _ => True) (fun _ => False) rfl rfl hr4 (by first | exact (Kd.R_reads' hs4).2.2 | exact (Kd.R_reads' hr9).2.2) (fun _ _ h => h) (fun _ h => h.elim) (fun _ _ => trivial) hHeld.1 hHeld.1.size (by have := HOL.out; rw [List.nil_append, List.length_take]; simp only [List.length_cons, List.length_nil]; omega) ?_;intro v10 w10 hr10 hb10 hg10 hat10;refine hK.out _ _ ?_ (fun hHeld => ?_)
                    · exact ⟨hb10, pw_cell_below hb10 hxk⟩
                    clear hK K hg10 hat10
                    try simp only [List.getElem_toArray, List.getElem_cons_succ, List.getElem_cons_zero, Act.put, List.setIfInBounds_toArray, List.set_cons_zero, List.set_cons_succ]
                    refine wpAnyH_ready (rs := [14]) (by kernel_rfl) (by simp) ?_;refine (AllReadyH.cons rfl (fun K hK => ?_) AllReadyH.nil);refine Kd.R_append_rows_step Kd.string (w0 := wk) wk.heap.size (by rfl) (.tmp 79) (.tmp 82) 56 9 (.string ⟨#[]⟩) 16 rfl Tryz.underlying56 info9 rfl (by decide) (by omega) v10 _ (out'.drop k) _ _ _ (fun _ => True) (fun _ => False) rfl rfl hr10 (Kd.C_below (HCC.out _ (Kd.R_reads' HZ.out.1).2.2) hHeld.1) (fun _ _ h => h) (fun _ h => h.elim) (fun _ _ => trivial) hHeld.1 hHeld.1.size (by have := HOL.out; rw [List.nil_append, List.length_append, List.length_take]; simp only [List.length_cons, List.length_nil]; omega) ?_;intro v14 w14 hr14 hb14 hg14 hat14
                    rw [List.nil_append, ← HE.out] at hr14
                    refine hK.out _ _ ?_ (fun hHeld => ?_)
                    · exact ⟨hb14, pw_cell_below hb14 hxk⟩
                    clear hK K hg14 hat14
                    try simp only [List.getElem_toArray, List.getElem_cons_succ, List.getElem_cons_zero, Act.put, List.setIfInBounds_toArray, List.set_cons_zero, List.set_cons_succ]
                    refine wpAnyH_done (by kernel_rfl) ?_ _;refine lastPost_wp ?_
                    have HR14 := Lib.hid (And.intro hr14 hb14)
                    clear hHeld hr14 hb14 hxk hcA hcB
                    go_wp2_with fail
                    go_roundw
                    case rel => exact ⟨j + 1, insK out' s0, by first | rfl | (rw [hjw]; rfl), by omega, Lib.hid ⟨HF.out.symm, Kd.R_lower HR14.out.1 HZ.out.2.2.size, HZ.out.2.1.trans (HR14.out.2.mono HZ.out.2.1.size), HZ.out.2.2.trans (HR14.out.2.mono HZ.out.2.2.size)⟩⟩
                    case measure => first | exact up_meas (by omega) hjw | exact up_meas2 (by omega) | exact (by decide : (2 : Nat) - (2 : Int).toNat < 2 - (1 : Int).toNat)
                  · refine Kd.R_lit_step Kd.string _ 9 ?hg (N := 78) ?hd (xs := [s0]) (inner := [.string s0]) (ok := fun _ => True) (okp := fun _ => True) ?hr ?hp (fun _ hk => hk) trivial (Below.refl _ _) (Nat.le_refl _) (by simp) ?_; (case hd => rfl); (case hg => rfl); (case hr => first | (go_simp; done) | (go_simp; rfl)); (case hp => exact (Reps.one rfl (Reps.none _ _)));intro v9 w9 ho9 hb9 hg9 hn9
                    obtain ⟨A9, c9, rfl⟩ := Kd.R_slice ho9
                    have hr9 := Kd.R_lower ho9 hHeld.1.size
                    have hB9 := hHeld.1.trans (hb9.mono hHeld.1.size)
                    try have hs9 := Kd.R_lower (Kd.R_new' ho9 (Kd.R_lt hr0)) hHeld.1.size
                    try have hr0 := Kd.R_step hr0 (fun q _ hq => hb9.block q hq)
                    try have hr4 := Kd.R_step hr4 (fun q _ hq => hb9.block q hq)
                    refine hK.out _ _ ?_ (fun hHeld => ?_)
                    · exact ⟨hB9, pw_cell_below hB9 hxk⟩
                    clear hK K hg9 hn9 hB9
                    try simp only [List.getElem_toArray, List.getElem_cons_succ, List.getElem_cons_zero, Act.put, List.setIfInBounds_toArray, List.set_cons_zero, List.set_cons_succ]
                    refine wpAnyH_ready (rs := [4]) (by kernel_rfl) (by simp) ?_;refine (AllReadyH.cons rfl (fun K hK => ?_) AllReadyH.nil);refine Kd.R_append_rows_step Kd.string (w0 := wk) wk.heap.size (by rfl) (.tmp 69) (.tmp 72) 56 9 (.string ⟨#[]⟩) 16 rfl Tryz.underlying56 info9 rfl (by decide) (by omega) v0 [] (out'.take k) _ _ _ (fun _ => True) (fun _ => False) rfl rfl hr0 (Kd.C_below (C_takeK (Kd.R_reads' HZ.out.1).2.2 hk) hHeld.1) (fun _ _ h => h) (fun _ h => h.elim) (fun _ _ => trivial) hHeld.1 hHeld.1.size (by have := HOL.out; simp only [List.length_nil]; omega) ?_;intro v4 w4 hr4 hb4 hg4 hat4
                    try have hs4 := Kd.R_after hs9 hg4 hat4
                    refine hK.out _ _ ?_ (fun hHeld => ?_)
                    · exact ⟨hb4, pw_cell_below hb4 hxk⟩
                    clear hK K hg4 hat4
                    try simp only [List.getElem_toArray, List.getElem_cons_succ, List.getElem_cons_zero, Act.put, List.setIfInBounds_toArray, List.set_cons_zero, List.set_cons_succ]
                    refine wpAnyH_ready (rs := [10]) (by kernel_rfl) (by simp) ?_;refine (AllReadyH.cons rfl (fun K hK => ?_) AllReadyH.nil);refine Kd.R_append_rows_step Kd.string (w0 := wk) wk.heap.size (by rfl) (.tmp 73) (.tmp 78) 56 9 (.string ⟨#[]⟩) 16 rfl Tryz.underlying56 info9 rfl (by decide) (by omega) v4 _ [s0] _ _ _ (fun _ => True) (fun _ => False) rfl rfl hr4 (by first | exact (Kd.R_reads' hs4).2.2 | exact (Kd.R_reads' hr9).2.2) (fun _ _ h => h) (fun _ h => h.elim) (fun _ _ => trivial) hHeld.1 hHeld.1.size (by have := HOL.out; rw [List.nil_append, List.length_take]; simp only [List.length_cons, List.length_nil]; omega) ?_;intro v10 w10 hr10 hb10 hg10 hat10;refine hK.out _ _ ?_ (fun hHeld => ?_)
                    · exact ⟨hb10, pw_cell_below hb10 hxk⟩
                    clear hK K hg10 hat10
                    try simp only [List.getElem_toArray, List.getElem_cons_succ, List.getElem_cons_zero, Act.put, List.setIfInBounds_toArray, List.set_cons_zero, List.set_cons_succ]
                    refine wpAnyH_ready (rs := [14]) (by kernel_rfl) (by simp) ?_;refine (AllReadyH.cons rfl (fun K hK => ?_) AllReadyH.nil);refine Kd.R_append_rows_step Kd.string (w0 := wk) wk.heap.size (by rfl) (.tmp 79) (.tmp 82) 56 9 (.string ⟨#[]⟩) 16 rfl Tryz.underlying56 info9 rfl (by decide) (by omega) v10 _ (out'.drop k) _ _ _ (fun _ => True) (fun _ => False) rfl rfl hr10 (Kd.C_below (HCC.out _ (Kd.R_reads' HZ.out.1).2.2) hHeld.1) (fun _ _ h => h) (fun _ h => h.elim) (fun _ _ => trivial) hHeld.1 hHeld.1.size (by have := HOL.out; rw [List.nil_append, List.length_append, List.length_take]; simp only [List.length_cons, List.length_nil]; omega) ?_;intro v14 w14 hr14 hb14 hg14 hat14
                    rw [List.nil_append, ← HE.out] at hr14
                    refine hK.out _ _ ?_ (fun hHeld => ?_)
                    · exact ⟨hb14, pw_cell_below hb14 hxk⟩
                    clear hK K hg14 hat14
                    try simp only [List.getElem_toArray, List.getElem_cons_succ, List.getElem_cons_zero, Act.put, List.setIfInBounds_toArray, List.set_cons_zero, List.set_cons_succ]
                    refine wpAnyH_done (by kernel_rfl) ?_ _;refine lastPost_wp ?_
                    have HR14 := Lib.hid (And.intro hr14 hb14)
                    clear hHeld hr14 hb14 hxk hcA hcB
                    go_wp2_with fail
                    go_roundw
                    case rel => exact ⟨j + 1, insK out' s0, by first | rfl | (rw [hjw]; rfl), by omega, Lib.hid ⟨HF.out.symm, Kd.R_lower HR14.out.1 HZ.out.2.2.size, HZ.out.2.1.trans (HR14.out.2.mono HZ.out.2.1.size), HZ.out.2.2.trans (HR14.out.2.mono HZ.out.2.2.size)⟩⟩
                    case measure => first | exact up_meas (by omega) hjw | exact up_meas2 (by omega) | exact (by decide : (2 : Nat) - (2 : Int).toNat < 2 - (1 : Int).toNat)
                · refine Kd.R_lit_step Kd.string _ 9 ?hg (N := 78) ?hd (xs := [s0]) (inner := [.string s0]) (ok := fun _ => True) (okp := fun _ => True) ?hr ?hp (fun _ hk => hk) trivial (Below.refl _ _) (Nat.le_refl _) (by simp) ?_; (case hd => rfl); (case hg => rfl); (case hr => first | (go_simp; done) | (go_simp; rfl)); (case hp => exact (Reps.one rfl (Reps.none _ _)));intro v9 w9 ho9 hb9 hg9 hn9
                  obtain ⟨A9, c9, rfl⟩ := Kd.R_slice ho9
                  have hr9 := Kd.R_lower ho9 hHeld.1.size
                  have hB9 := hHeld.1.trans (hb9.mono hHeld.1.size)
                  try have hs9 := Kd.R_lower (Kd.R_new' ho9 (Kd.R_lt hr0)) hHeld.1.size
                  try have hr0 := Kd.R_step hr0 (fun q _ hq => hb9.block q hq)
                  try have hr4 := Kd.R_step hr4 (fun q _ hq => hb9.block q hq)
                  refine hK.out _ _ ?_ (fun hHeld => ?_)
                  · exact ⟨hB9, pw_cell_below hB9 hxk⟩
                  clear hK K hg9 hn9 hB9
                  try simp only [List.getElem_toArray, List.getElem_cons_succ, List.getElem_cons_zero, Act.put, List.setIfInBounds_toArray, List.set_cons_zero, List.set_cons_succ]
                  refine wpAnyH_ready (rs := [0]) (by kernel_rfl) (by simp) ?_;refine (AllReadyH.cons rfl (fun K hK => ?_) AllReadyH.nil);refine Kd.R_lit_step Kd.string _ 9 ?hg (N := 69) ?hd (xs := ([] : List ByteArray)) (inner := []) (ok := fun _ => True) (okp := fun _ => True) ?hr ?hp (fun _ hk => hk) trivial (Below.refl _ _) (Nat.le_refl _) (by simp) ?_; (case hd => rfl); (case hg => rfl); (case hr => first | (go_simp; done) | (go_simp; rfl)); (case hp => exact (Reps.none _ _));intro v0 w0_ ho0 hb0 hg0 hn0
                  have hr0 := Kd.R_lower ho0 hHeld.1.size
                  have hB0 := hHeld.1.trans (hb0.mono hHeld.1.size)
                  try have hs9 := Kd.R_elder' hr9 (Kd.R_base ho0) hb0
                  refine hK.out _ _ ?_ (fun hHeld => ?_)
                  · exact ⟨hB0, pw_cell_below hB0 hxk⟩
                  clear hK K hg0 hn0 hB0
                  try simp only [List.getElem_toArray, List.getElem_cons_succ, List.getElem_cons_zero, Act.put, List.setIfInBounds_toArray, List.set_cons_zero, List.set_cons_succ]
                  refine wpAnyH_ready (rs := [4]) (by kernel_rfl) (by simp) ?_;refine (AllReadyH.cons rfl (fun K hK => ?_) AllReadyH.nil);refine Kd.R_append_rows_step Kd.string (w0 := wk) wk.heap.size (by rfl) (.tmp 69) (.tmp 72) 56 9 (.string ⟨#[]⟩) 16 rfl Tryz.underlying56 info9 rfl (by decide) (by omega) v0 [] (out'.take k) _ _ _ (fun _ => True) (fun _ => False) rfl rfl hr0 (Kd.C_below (C_takeK (Kd.R_reads' HZ.out.1).2.2 hk) hHeld.1) (fun _ _ h => h) (fun _ h => h.elim) (fun _ _ => trivial) hHeld.1 hHeld.1.size (by have := HOL.out; simp only [List.length_nil]; omega) ?_;intro v4 w4 hr4 hb4 hg4 hat4
                  try have hs4 := Kd.R_after hs9 hg4 hat4
                  refine hK.out _ _ ?_ (fun hHeld => ?_)
                  · exact ⟨hb4, pw_cell_below hb4 hxk⟩
                  clear hK K hg4 hat4
                  try simp only [List.getElem_toArray, List.getElem_cons_succ, List.getElem_cons_zero, Act.put, List.setIfInBounds_toArray, List.set_cons_zero, List.set_cons_succ]
                  refine wpAnyH_ready (rs := [10]) (by kernel_rfl) (by simp) ?_;refine (AllReadyH.cons rfl (fun K hK => ?_) AllReadyH.nil);refine Kd.R_append_rows_step Kd.string (w0 := wk) wk.heap.size (by rfl) (.tmp 73) (.tmp 78) 56 9 (.string ⟨#[]⟩) 16 rfl Tryz.underlying56 info9 rfl (by decide) (by omega) v4 _ [s0] _ _ _ (fun _ => True) (fun _ => False) rfl rfl hr4 (by first | exact (Kd.R_reads' hs4).2.2 | exact (Kd.R_reads' hr9).2.2) (fun _ _ h => h) (fun _ h => h.elim) (fun _ _ => trivial) hHeld.1 hHeld.1.size (by have := HOL.out; rw [List.nil_append, List.length_take]; simp only [List.length_cons, List.length_nil]; omega) ?_;intro v10 w10 hr10 hb10 hg10 hat10;refine hK.out _ _ ?_ (fun hHeld => ?_)
                  · exact ⟨hb10, pw_cell_below hb10 hxk⟩
                  clear hK K hg10 hat10
                  try simp only [List.getElem_toArray, List.getElem_cons_succ, List.getElem_cons_zero, Act.put, List.setIfInBounds_toArray, List.set_cons_zero, List.set_cons_succ]
                  refine wpAnyH_ready (rs := [14]) (by kernel_rfl) (by simp) ?_;refine (AllReadyH.cons rfl (fun K hK => ?_) AllReadyH.nil);refine Kd.R_append_rows_step Kd.string (w0 := wk) wk.heap.size (by rfl) (.tmp 79) (.tmp 82) 56 9 (.string ⟨#[]⟩) 16 rfl Tryz.underlying56 info9 rfl (by decide) (by omega) v10 _ (out'.drop k) _ _ _ (fun _ => True) (fun _ => False) rfl rfl hr10 (Kd.C_below (HCC.out _ (Kd.R_reads' HZ.out.1).2.2) hHeld.1) (fun _ _ h => h) (fun _ h => h.elim) (fun _ _ => trivial) hHeld.1 hHeld.1.size (by have := HOL.out; rw [List.nil_append, List.length_append, List.length_take]; simp only [List.length_cons, List.length_nil]; omega) ?_;intro v14 w14 hr14 hb14 hg14 hat14
                  rw [List.nil_append, ← HE.out] at hr14
                  refine hK.out _ _ ?_ (fun hHeld => ?_)
                  · exact ⟨hb14, pw_cell_below hb14 hxk⟩
                  clear hK K hg14 hat14
                  try simp only [List.getElem_toArray, List.getElem_cons_succ, List.getElem_cons_zero, Act.put, List.setIfInBounds_toArray, List.set_cons_zero, List.set_cons_succ]
                  refine wpAnyH_done (by kernel_rfl) ?_ _;refine lastPost_wp ?_
                  have HR14 := Lib.hid (And.intro hr14 hb14)
                  clear hHeld hr14 hb14 hxk hcA hcB
                  go_wp2_with fail
                  go_roundw
                  case rel => exact ⟨j + 1, insK out' s0, by first | rfl | (rw [hjw]; rfl), by omega, Lib.hid ⟨HF.out.symm, Kd.R_lower HR14.out.1 HZ.out.2.2.size, HZ.out.2.1.trans (HR14.out.2.mono HZ.out.2.1.size), HZ.out.2.2.trans (HR14.out.2.mono HZ.out.2.2.size)⟩⟩
                  case measure => first | exact up_meas (by omega) hjw | exact up_meas2 (by omega) | exact (by decide : (2 : Nat) - (2 : Int).toNat < 2 - (1 : Int).toNat)
          · obtain rfl : j = 1 := by omega
            have hxj : wj.cell? ⟨wq.heap.size, 1, none⟩ = some (.string s1) := hBj.cell 1
            by_cases he : s1 = emptyB
            · have e1 : s1.toList.isEmpty = true := by rw [(toList_nil _).2 he]; rfl
              have HE := Lib.hid (show stepJ 2 out ⟨s0, s1⟩ = out' by rw [HJ.out.1]; show markS out ⟨s0, s1⟩ = insK out s0; unfold markS; rw [if_pos he])
              clear he h2 h0
              go_wp2_with fail
              go_roundw
              case rel => exact ⟨2, out', rfl, by omega, Lib.hid ⟨HE.out.symm, HJ.out.2⟩⟩
              case measure => exact (by decide : (2 : Nat) - (2 : Int).toNat < 2 - (1 : Int).toNat)
            · have e1 : s1.toList.isEmpty = false := by
                cases h : s1.toList with
                | nil => exact absurd ((toList_nil _).1 h) he
                | cons y r => rfl
              have hfin : stepJ (1 + 1) out ⟨s0, s1⟩ = insK out' s1 := by rw [HJ.out.1]; show markS out ⟨s0, s1⟩ = insK (insK out s0) s1; unfold markS; rw [if_neg he]
              have HF := Lib.hid hfin
              clear hfin h0 h2 he
              go_wp2_with fail
              go_loopw [7, 51] (fun sk _ wk => ∃ k : Nat, sk = .int .i64 (k : Int) ∧ k ≤ out'.length ∧ RowKit.Hid (Below wj.heap.size wj wk ∧ ∀ y ∈ out'.take k, klt y s1 = true)) (fun sk _ _ => out'.length - (intOf sk).toNat)
              case atStart => exact ⟨0, rfl, Nat.zero_le _, Lib.hid ⟨Below.refl _ _, fun y hy => by simp at hy⟩⟩
              case round =>
                obtain ⟨k, rfl, hk, HKr⟩ := hrel
                rename World => wk
                have hxk : wk.cell? ⟨wq.heap.size, 1, none⟩ = some (.string s1) := pw_cell_below HKr.out.1 hxj
                have hR : Kd.R Kd.string 9 wk w.heap.size (fun _ => True) (.slice A' out'.length co) out' := Kd.R_step HJ.out.2.1 (fun q _ hq => HKr.out.1.block q hq)
                have hbk : Below wc.heap.size wc wk := HJ.out.2.2.1.trans (HKr.out.1.mono HJ.out.2.2.1.size)
                have hbk2 : Below w.heap.size w wk := HJ.out.2.2.2.trans (HKr.out.1.mono HJ.out.2.2.2.size)
                have HRk := Lib.hid (And.intro hR (And.intro hbk hbk2))
                clear hR hbk hbk2
                have h0k : (0 : Int) ≤ (k : Int) := by omega
                have HOL := Lib.hid (show out'.length ≤ 1000000 by have := HOb.out; omega)
                by_cases hkl : k < out'.length
                · obtain ⟨ol, rfl, z0⟩ := C_atT (Kd.R_reads' HRk.out.1).2.2 k hkl
                  obtain ⟨y, hy⟩ : ∃ y, out'[k] = y := ⟨_, rfl⟩
                  rw [hy] at z0
                  have hki : (k : Int) < (out'.length : Int) := by omega
                  have hkb : ((k : Int) == (out'.length : Int)) = false := by rw [beq_eq_false_iff_ne]; omega
                  have hyx : klt y s1 = Op.bytesLess y.toList s1.toList := (klt_list y s1).symm
                  have hkw : wrap64 ((k : Int) + 1) = (k : Int) + 1 := by have := HOL.out; unfold wrap64; omega
                  cases hq : klt y s1 with
                  | true =>
                    rw [hq] at hyx
                    have hbl := hyx.symm
                    have HY := Lib.hid (And.intro hy hq)
                    clear hy hq hyx
                    go_wp2_with fail
                    refine wp_region_held (S := (fun W => Below wk.heap.size wk W ∧ W.cell? (ol.add k) = some (.string y) ∧ W.cell? ⟨wq.heap.size, 1, none⟩ = some (.string s1))) (by kernel_rfl) ?_;simp only [List.size_toArray, List.length_cons, List.length_nil, Nat.zero_add, Nat.reduceAdd]
                    have hHeld : ((fun W => Below wk.heap.size wk W ∧ W.cell? (ol.add k) = some (.string y) ∧ W.cell? ⟨wq.heap.size, 1, none⟩ = some (.string s1))) wk.drew := ⟨below_drew (Below.refl _ _), z0, hxk⟩
                    refine tk_ 0 hHeld ?_;refine tk_ 1 hHeld ?_;refine tk_ 2 hHeld ?_;refine tk_ 3 hHeld ?_;refine tk_ 4 hHeld ?_;refine tk_ 5 hHeld ?_;refine tk_ 6 hHeld ?_;refine tk_ 7 hHeld ?_;refine tk_ 8 hHeld ?_;refine tk_ 9 hHeld ?_;refine tk_ 10 hHeld ?_;refine tk_ 11 hHeld ?_;refine tk_ 12 hHeld ?_;refine tk_ 13 hHeld ?_;refine tk_ 14 hHeld ?_;refine wpAnyH_done (by kernel_rfl) ?_ _;clear hHeld
                    go_wp2_with fail
                    go_roundw
                    case rel => exact ⟨k + 1, by rw [hkw]; rfl, by omega, Lib.hid ⟨below_drew HKr.out.1, fun u hu => by
                      rw [List.take_succ_eq_append_getElem hkl, List.mem_append, List.mem_singleton] at hu
                      rcases hu with hu | hu
                      · exact HKr.out.2 u hu
                      · rw [hu, HY.out.1]; exact HY.out.2⟩⟩
                    case measure => exact up_meas hkl hkw
                  | false =>
                    rw [hq] at hyx
                    have hbl := hyx.symm
                    have HY := Lib.hid (And.intro hy hq)
                    clear hy hq hyx
                    go_wp2_with fail
                    refine wp_region_held (S := (fun W => Below wk.heap.size wk W ∧ W.cell? (ol.add k) = some (.string y) ∧ W.cell? ⟨wq.heap.size, 1, none⟩ = some (.string s1))) (by kernel_rfl) ?_;simp only [List.size_toArray, List.length_cons, List.length_nil, Nat.zero_add, Nat.reduceAdd]
                    have hHeld : ((fun W => Below wk.heap.size wk W ∧ W.cell? (ol.add k) = some (.string y) ∧ W.cell? ⟨wq.heap.size, 1, none⟩ = some (.string s1))) wk.drew := ⟨below_drew (Below.refl _ _), z0, hxk⟩
                    refine tk_ 0 hHeld ?_;refine tk_ 1 hHeld ?_;refine tk_ 2 hHeld ?_;refine tk_ 3 hHeld ?_;refine tk_ 4 hHeld ?_;refine tk_ 5 hHeld ?_;refine tk_ 6 hHeld ?_;refine tk_ 7 hHeld ?_;refine tk_ 8 hHeld ?_;refine tk_ 9 hHeld ?_;refine tk_ 10 hHeld ?_;refine tk_ 11 hHeld ?_;refine tk_ 12 hHeld ?_;refine tk_ 13 hHeld ?_;refine tk_ 14 hHeld ?_;refine wpAnyH_done (by kernel_rfl) ?_ _
                    obtain ⟨hq1, hq2, hq3⟩ := hHeld
                    clear hq1 hbl
                    by_cases hyX : y = s1
                    · have hbe : (y.toList == s1.toList) = true := by rw [hyX]; simp
                      have HE := Lib.hid (show insK out' s1 = out' by rw [insK_at k out' s1 hk HKr.out.2 (fun u hu => by rw [List.getElem?_eq_getElem hkl, HY.out.1] at hu; injection hu with hu; rw [← hu]; exact HY.out.2), if_pos (by rw [List.getElem?_eq_getElem hkl, HY.out.1, hyX])])
                      clear hyX
                      go_wp2_with fail
                      refine wp_region_held (S := (fun W => Below wk.heap.size wk W ∧ W.cell? (ol.add k) = some (.string y) ∧ W.cell? ⟨wq.heap.size, 1, none⟩ = some (.string s1))) (by kernel_rfl) ?_;simp only [List.size_toArray, List.length_cons, List.length_nil, Nat.zero_add, Nat.reduceAdd]
                      have hHeld : ((fun W => Below wk.heap.size wk W ∧ W.cell? (ol.add k) = some (.string y) ∧ W.cell? ⟨wq.heap.size, 1, none⟩ = some (.string s1))) wk.drew.drew := ⟨below_drew (below_drew (Below.refl _ _)), z0, hxk⟩
                      refine tk_ 0 hHeld ?_;refine tk_ 1 hHeld ?_;refine tk_ 2 hHeld ?_;refine tk_ 3 hHeld ?_;refine tk_ 4 hHeld ?_;refine tk_ 5 hHeld ?_;refine tk_ 6 hHeld ?_;refine tk_ 7 hHeld ?_;refine tk_ 8 hHeld ?_;refine tk_ 9 hHeld ?_;refine tk_ 10 hHeld ?_;refine tk_ 11 hHeld ?_;refine tk_ 12 hHeld ?_;refine tk_ 13 hHeld ?_;refine tk_ 14 hHeld ?_;refine wpAnyH_done (by kernel_rfl) ?_ _
                      obtain ⟨hq1, hq2, hq3⟩ := hHeld
                      have HQ1 := Lib.hid hq1
                      clear hq1 hq2 hq3 hbe
                      go_wp2_with fail
                      go_roundw
                      case rel => exact ⟨1 + 1, out', by first | rfl | (rw [hjw]; rfl), by omega, Lib.hid ⟨by rw [HF.out, HE.out], Kd.R_step HRk.out.1 (fun q _ hq => HQ1.out.block q hq), HRk.out.2.1.trans (HQ1.out.mono HRk.out.2.1.size), HRk.out.2.2.trans (HQ1.out.mono HRk.out.2.2.size)⟩⟩
                      case measure => first | exact up_meas (by omega) hjw | exact up_meas2 (by omega) | exact (by decide : (2 : Nat) - (2 : Int).toNat < 2 - (1 : Int).toNat)
                    · have hbe : (y.toList == s1.toList) = false := by rw [beq_eq_false_iff_ne]; intro h; exact hyX (toList_inj.1 h)
                      have HE := Lib.hid (show insK out' s1 = out'.take k ++ [s1] ++ out'.drop k by rw [insK_at k out' s1 hk HKr.out.2 (fun u hu => by rw [List.getElem?_eq_getElem hkl, HY.out.1] at hu; injection hu with hu; rw [← hu]; exact HY.out.2), if_neg (by rw [List.getElem?_eq_getElem hkl, HY.out.1]; intro h; injection h with h; exact hyX h)])
                      clear hyX
                      go_wp2_with fail
                      refine wp_region_held (S := (fun W => Below wk.heap.size wk W ∧ W.cell? (ol.add k) = some (.string y) ∧ W.cell? ⟨wq.heap.size, 1, none⟩ = some (.string s1))) (by kernel_rfl) ?_;simp only [List.size_toArray, List.length_cons, List.length_nil, Nat.zero_add, Nat.reduceAdd]
                      have hHeld : ((fun W => Below wk.heap.size wk W ∧ W.cell? (ol.add k) = some (.string y) ∧ W.cell? ⟨wq.heap.size, 1, none⟩ = some (.string s1))) wk.drew.drew := ⟨below_drew (below_drew (Below.refl _ _)), z0, hxk⟩
                      refine tk_ 0 hHeld ?_;refine tk_ 1 hHeld ?_;refine tk_ 2 hHeld ?_;refine tk_ 3 hHeld ?_;refine tk_ 4 hHeld ?_;refine tk_ 5 hHeld ?_;refine tk_ 6 hHeld ?_;refine tk_ 7 hHeld ?_;refine tk_ 8 hHeld ?_;refine tk_ 9 hHeld ?_;refine tk_ 10 hHeld ?_;refine tk_ 11 hHeld ?_;refine tk_ 12 hHeld ?_;refine tk_ 13 hHeld ?_;refine tk_ 14 hHeld ?_;refine wpAnyH_done (by kernel_rfl) ?_ _
                      obtain ⟨hq1, hq2, hq3⟩ := hHeld
                      have HQ1 := Lib.hid hq1
                      clear hq1 hq2 hq3 hbe
                      have HZ := Lib.hid HRk.out
                      have hcA := cutA_of HRk.out.1 k hk
                      obtain ⟨A2, c2, hcB, hcC⟩ := cutB_of HRk.out.1 k hk
                      have HCC := Lib.hid hcC
                      clear hcC
                      go_wp2_with fail
                      refine wp_region_last1_held (S := (fun W => Below wk.heap.size wk W ∧ W.cell? ⟨wq.heap.size, 1, none⟩ = some (.string s1))) (l := [_, _, _, _, _, _, _, _, _, _, _, _, _, _, _]) (o := _) (by kernel_rfl) (by kernel_rfl) ?_;simp only [List.size_toArray, List.length_cons, List.length_nil, Nat.zero_add, Nat.reduceAdd]
                      have hHeld : ((fun W => Below wk.heap.size wk W ∧ W.cell? ⟨wq.heap.size, 1, none⟩ = some (.string s1))) wk.drew.drew.drew := ⟨below_drew (below_drew (below_drew (Below.refl _ _))), hxk⟩
                      refine tk_ 1 hHeld ?_;refine tk_ 2 hHeld ?_;refine tk_ 3 hHeld ?_;refine tk_ 5 hHeld ?_;refine tk_ 6 hHeld ?_;refine tk_ 7 hHeld ?_;refine tk_ 8 hHeld ?_;refine tk_ 11 hHeld ?_;refine tk_ 12 hHeld ?_;refine tk_ 13 hHeld ?_;refine wpAnyH_ready (rs := [0, 9]) (by kernel_rfl) (by simp) ?_;refine (AllReadyH.cons rfl (fun K hK => ?_) (AllReadyH.cons rfl (fun K hK => ?_) AllReadyH.nil))
                      · refine Kd.R_lit_step Kd.string _ 9 ?hg (N := 69) ?hd (xs := ([] : List ByteArray)) (inner := []) (ok := fun _ => True) (okp := fun _ => True) ?hr ?hp (fun _ hk => hk) trivial (Below.refl _ _) (Nat.le_refl _) (by simp) ?_; (case hd => rfl); (case hg => rfl); (case hr => first | (go_simp; done) | (go_simp; rfl)); (case hp => exact (Reps.none _ _));intro v0 w0_ ho0 hb0 hg0 hn0
                        have hr0 := Kd.R_lower ho0 hHeld.1.size
                        have hB0 := hHeld.1.trans (hb0.mono hHeld.1.size)
                        try have hs9 := Kd.R_elder' hr9 (Kd.R_base ho0) hb0
                        refine hK.out _ _ ?_ (fun hHeld => ?_)
                        · exact ⟨hB0, pw_cell_below hB0 hxk⟩
                        clear hK K hg0 hn0 hB0
                        try simp only [List.getElem_toArray, List.getElem_cons_succ, List.getElem_cons_zero, Act.put, List.setIfInBounds_toArray, List.set_cons_zero, List.set_cons_succ]
                        refine wpAnyH_ready (rs := [4, 9]) (by kernel_rfl) (by simp) ?_;refine (AllReadyH.cons rfl (fun K hK => ?_) (AllReadyH.cons rfl (fun K hK => ?_) AllReadyH.nil))
                        · refine Kd.R_append_rows_step Kd.string (w0 := wk) wk.heap.size (by rfl) (.tmp 69) (.tmp 72) 56 9 (.string ⟨#[]⟩) 16 rfl Tryz.underlying56 info9 rfl (by decide) (by omega) v0 [] (out'.take k) _ _ _ (fun _ => True) (fun _ => False) rfl rfl hr0 (Kd.C_below (C_takeK (Kd.R_reads' HZ.out.1).2.2 hk) hHeld.1) (fun _ _ h => h) (fun _ h => h.elim) (fun _ _ => trivial) hHeld.1 hHeld.1.size (by have := HOL.out; simp only [List.length_nil]; omega) ?_;intro v4 w4 hr4 hb4 hg4 hat4
                          try have hs4 := Kd.R_after hs9 hg4 hat4
                          refine hK.out _ _ ?_ (fun hHeld => ?_)
                          · exact ⟨hb4, pw_cell_below hb4 hxk⟩
                          clear hK K hg4 hat4
                          try simp only [List.getElem_toArray, List.getElem_cons_succ, List.getElem_cons_zero, Act.put, List.setIfInBounds_toArray, List.set_cons_zero, List.set_cons_succ]
                          refine wpAnyH_ready (rs := [9]) (by kernel_rfl) (by simp) ?_;refine (AllReadyH.cons rfl (fun K hK => ?_) AllReadyH.nil);refine Kd.R_lit_step Kd.string _ 9 ?hg (N := 78) ?hd (xs := [s1]) (inner := [.string s1]) (ok := fun _ => True) (okp := fun _ => True) ?hr ?hp (fun _ hk => hk) trivial (Below.refl _ _) (Nat.le_refl _) (by simp) ?_; (case hd => rfl); (case hg => rfl); (case hr => first | (go_simp; done) | (go_simp; rfl)); (case hp => exact (Reps.one rfl (Reps.none _ _)));intro v9 w9 ho9 hb9 hg9 hn9
                          obtain ⟨A9, c9, rfl⟩ := Kd.R_slice ho9
                          have hr9 := Kd.R_lower ho9 hHeld.1.size
                          have hB9 := hHeld.1.trans (hb9.mono hHeld.1.size)
                          try have hs9 := Kd.R_lower (Kd.R_new' ho9 (Kd.R_lt hr0)) hHeld.1.size
                          try have hr0 := Kd.R_step hr0 (fun q _ hq => hb9.block q hq)
                          try have hr4 := Kd.R_step hr4 (fun q _ hq => hb9.block q hq)
                          refine hK.out _ _ ?_ (fun hHeld => ?_)
                          · exact ⟨hB9, pw_cell_below hB9 hxk⟩
                          clear hK K hg9 hn9 hB9
                          try simp only [List.getElem_toArray, List.getElem_cons_succ, List.getElem_cons_zero, Act.put, List.setIfInBounds_toArray, List.set_cons_zero, List.set_cons_succ]
                          refine wpAnyH_ready (rs := [10]) (by kernel_rfl) (by simp) ?_;refine (AllReadyH.cons rfl (fun K hK => ?_) AllReadyH.nil);refine Kd.R_append_rows_step Kd.string (w0 := wk) wk.heap.size (by rfl) (.tmp 73) (.tmp 78) 56 9 (.string ⟨#[]⟩) 16 rfl Tryz.underlying56 info9 rfl (by decide) (by omega) v4 _ [s1] _ _ _ (fun _ => True) (fun _ => False) rfl rfl hr4 (by first | exact (Kd.R_reads' hs4).2.2 | exact (Kd.R_reads' hr9).2.2) (fun _ _ h => h) (fun _ h => h.elim) (fun _ _ => trivial) hHeld.1 hHeld.1.size (by have := HOL.out; rw [List.nil_append, List.length_take]; simp only [List.length_cons, List.length_nil]; omega) ?_;intro v10 w10 hr10 hb10 hg10 hat10;refine hK.out _ _ ?_ (fun hHeld => ?_)
                          · exact ⟨hb10, pw_cell_below hb10 hxk⟩
                          clear hK K hg10 hat10
                          try simp only [List.getElem_toArray, List.getElem_cons_succ, List.getElem_cons_zero, Act.put, List.setIfInBounds_toArray, List.set_cons_zero, List.set_cons_succ]
                          refine wpAnyH_ready (rs := [14]) (by kernel_rfl) (by simp) ?_;refine (AllReadyH.cons rfl (fun K hK => ?_) AllReadyH.nil);refine Kd.R_append_rows_step Kd.string (w0 := wk) wk.heap.size (by rfl) (.tmp 79) (.tmp 82) 56 9 (.string ⟨#[]⟩) 16 rfl Tryz.underlying56 info9 rfl (by decide) (by omega) v10 _ (out'.drop k) _ _ _ (fun _ => True) (fun _ => False) rfl rfl hr10 (Kd.C_below (HCC.out _ (Kd.R_reads' HZ.out.1).2.2) hHeld.1) (fun _ _ h => h) (fun _ h => h.elim) (fun _ _ => trivial) hHeld.1 hHeld.1.size (by have := HOL.out; rw [List.nil_append, List.length_append, List.length_take]; simp only [List.length_cons, List.length_nil]; omega) ?_;intro v14 w14 hr14 hb14 hg14 hat14
                          rw [List.nil_append, ← HE.out] at hr14
                          refine hK.out _ _ ?_ (fun hHeld => ?_)
                          · exact ⟨hb14, pw_cell_below hb14 hxk⟩
                          clear hK K hg14 hat14
                          try simp only [List.getElem_toArray, List.getElem_cons_succ, List.getElem_cons_zero, Act.put, List.setIfInBounds_toArray, List.set_cons_zero, List.set_cons_succ]
                          refine wpAnyH_done (by kernel_rfl) ?_ _;refine lastPost_wp ?_
                          have HR14 := Lib.hid (And.intro hr14 hb14)
                          clear hHeld hr14 hb14 hxk hcA hcB
                          go_wp2_with fail
                          go_roundw
                          case rel => exact ⟨1 + 1, insK out' s1, by first | rfl | (rw [hjw]; rfl), by omega, Lib.hid ⟨HF.out.symm, Kd.R_lower HR14.out.1 HZ.out.2.2.size, HZ.out.2.1.trans (HR14.out.2.mono HZ.out.2.1.size), HZ.out.2.2.trans (HR14.out.2.mono HZ.out.2.2.size)⟩⟩
                          case measure => first | exact up_meas (by omega) hjw | exact up_meas2 (by omega) | exact (by decide : (2 : Nat) - (2 : Int).toNat < 2 - (1 : Int).toNat)
                        · refine Kd.R_lit_step Kd.string _ 9 ?hg (N := 78) ?hd (xs := [s1]) (inner := [.string s1]) (ok := fun _ => True) (okp := fun _ => True) ?hr ?hp (fun _ hk => hk) trivial (Below.refl _ _) (Nat.le_refl _) (by simp) ?_; (case hd => rfl); (case hg => rfl); (case hr => first | (go_simp; done) | (go_simp; rfl)); (case hp => exact (Reps.one rfl (Reps.none _ _)));intro v9 w9 ho9 hb9 hg9 hn9
                          obtain ⟨A9, c9, rfl⟩ := Kd.R_slice ho9
                          have hr9 := Kd.R_lower ho9 hHeld.1.size
                          have hB9 := hHeld.1.trans (hb9.mono hHeld.1.size)
                          try have hs9 := Kd.R_lower (Kd.R_new' ho9 (Kd.R_lt hr0)) hHeld.1.size
                          try have hr0 := Kd.R_step hr0 (fun q _ hq => hb9.block q hq)
                          try have hr4 := Kd.R_step hr4 (fun q _ hq => hb9.block q hq)
                          refine hK.out _ _ ?_ (fun hHeld => ?_)
                          · exact ⟨hB9, pw_cell_below hB9 hxk⟩
                          clear hK K hg9 hn9 hB9
                          try simp only [List.getElem_toArray, List.getElem_cons_succ, List.getElem_cons_zero, Act.put, List.setIfInBounds_toArray, List.set_cons_zero, List.set_cons_succ]
                          refine wpAnyH_ready (rs := [4]) (by kernel_rfl) (by simp) ?_;refine (AllReadyH.cons rfl (fun K hK => ?_) AllReadyH.nil);refine Kd.R_append_rows_step Kd.string (w0 := wk) wk.heap.size (by rfl) (.tmp 69) (.tmp 72) 56 9 (.string ⟨#[]⟩) 16 rfl Tryz.underlying56 info9 rfl (by decide) (by omega) v0 [] (out'.take k) _ _ _ (fun _ => True) (fun _ => False) rfl rfl hr0 (Kd.C_below (C_takeK (Kd.R_reads' HZ.out.1).2.2 hk) hHeld.1) (fun _ _ h => h) (fun _ h => h.elim) (fun _ _ => trivial) hHeld.1 hHeld.1.size (by have := HOL.out; simp only [List.length_nil]; omega) ?_;intro v4 w4 hr4 hb4 hg4 hat4
                          try have hs4 := Kd.R_after hs9 hg4 hat4
                          refine hK.out _ _ ?_ (fun hHeld => ?_)
                          · exact ⟨hb4, pw_cell_below hb4 hxk⟩
                          clear hK K hg4 hat4
                          try simp only [List.getElem_toArray, List.getElem_cons_succ, List.getElem_cons_zero, Act.put, List.setIfInBounds_toArray, List.set_cons_zero, List.set_cons_succ]
                          refine wpAnyH_ready (rs := [10]) (by kernel_rfl) (by simp) ?_;refine (AllReadyH.cons rfl (fun K hK => ?_) AllReadyH.nil);refine Kd.R_append_rows_step Kd.string (w0 := wk) wk.heap.size (by rfl) (.tmp 73) (.tmp 78) 56 9 (.string ⟨#[]⟩) 16 rfl Tryz.underlying56 info9 rfl (by decide) (by omega) v4 _ [s1] _ _ _ (fun _ => True) (fun _ => False) rfl rfl hr4 (by first | exact (Kd.R_reads' hs4).2.2 | exact (Kd.R_reads' hr9).2.2) (fun _ _ h => h) (fun _ h => h.elim) (fun _ _ => trivial) hHeld.1 hHeld.1.size (by have := HOL.out; rw [List.nil_append, List.length_take]; simp only [List.length_cons, List.length_nil]; omega) ?_;intro v10 w10 hr10 hb10 hg10 hat10;refine hK.out _ _ ?_ (fun hHeld => ?_)
                          · exact ⟨hb10, pw_cell_below hb10 hxk⟩
                          clear hK K hg10 hat10
                          try simp only [List.getElem_toArray, List.getElem_cons_succ, List.getElem_cons_zero, Act.put, List.setIfInBounds_toArray, List.set_cons_zero, List.set_cons_succ]
                          refine wpAnyH_ready (rs := [14]) (by kernel_rfl) (by simp) ?_;refine (AllReadyH.cons rfl (fun K hK => ?_) AllReadyH.nil);refine Kd.R_append_rows_step Kd.string (w0 := wk) wk.heap.size (by rfl) (.tmp 79) (.tmp 82) 56 9 (.string ⟨#[]⟩) 16 rfl Tryz.underlying56 info9 rfl (by decide) (by omega) v10 _ (out'.drop k) _ _ _ (fun _ => True) (fun _ => False) rfl rfl hr10 (Kd.C_below (HCC.out _ (Kd.R_reads' HZ.out.1).2.2) hHeld.1) (fun _ _ h => h) (fun _ h => h.elim) (fun _ _ => trivial) hHeld.1 hHeld.1.size (by have := HOL.out; rw [List.nil_append, List.length_append, List.length_take]; simp only [List.length_cons, List.length_nil]; omega) ?_;intro v14 w14 hr14 hb14 hg14 hat14
                          rw [List.nil_append, ← HE.out] at hr14
                          refine hK.out _ _ ?_ (fun hHeld => ?_)
                          · exact ⟨hb14, pw_cell_below hb14 hxk⟩
                          clear hK K hg14 hat14
                          try simp only [List.getElem_toArray, List.getElem_cons_succ, List.getElem_cons_zero, Act.put, List.setIfInBounds_toArray, List.set_cons_zero, List.set_cons_succ]
                          refine wpAnyH_done (by kernel_rfl) ?_ _;refine lastPost_wp ?_
                          have HR14 := Lib.hid (And.intro hr14 hb14)
                          clear hHeld hr14 hb14 hxk hcA hcB
                          go_wp2_with fail
                          go_roundw
                          case rel => exact ⟨1 + 1, insK out' s1, by first | rfl | (rw [hjw]; rfl), by omega, Lib.hid ⟨HF.out.symm, Kd.R_lower HR14.out.1 HZ.out.2.2.size, HZ.out.2.1.trans (HR14.out.2.mono HZ.out.2.1.size), HZ.out.2.2.trans (HR14.out.2.mono HZ.out.2.2.size)⟩⟩
                          case measure => first | exact up_meas (by omega) hjw | exact up_meas2 (by omega) | exact (by decide : (2 : Nat) - (2 : Int).toNat < 2 - (1 : Int).toNat)
                      · refine Kd.R_lit_step Kd.string _ 9 ?hg (N := 78) ?hd (xs := [s1]) (inner := [.string s1]) (ok := fun _ => True) (okp := fun _ => True) ?hr ?hp (fun _ hk => hk) trivial (Below.refl _ _) (Nat.le_refl _) (by simp) ?_; (case hd => rfl); (case hg => rfl); (case hr => first | (go_simp; done) | (go_simp; rfl)); (case hp => exact (Reps.one rfl (Reps.none _ _)));intro v9 w9 ho9 hb9 hg9 hn9
                        obtain ⟨A9, c9, rfl⟩ := Kd.R_slice ho9
                        have hr9 := Kd.R_lower ho9 hHeld.1.size
                        have hB9 := hHeld.1.trans (hb9.mono hHeld.1.size)
                        try have hs9 := Kd.R_lower (Kd.R_new' ho9 (Kd.R_lt hr0)) hHeld.1.size
                        try have hr0 := Kd.R_step hr0 (fun q _ hq => hb9.block q hq)
                        try have hr4 := Kd.R_step hr4 (fun q _ hq => hb9.block q hq)
                        refine hK.out _ _ ?_ (fun hHeld => ?_)
                        · exact ⟨hB9, pw_cell_below hB9 hxk⟩
                        clear hK K hg9 hn9 hB9
                        try simp only [List.getElem_toArray, List.getElem_cons_succ, List.getElem_cons_zero, Act.put, List.setIfInBounds_toArray, List.set_cons_zero, List.set_cons_succ]
                        refine wpAnyH_ready (rs := [0]) (by kernel_rfl) (by simp) ?_;refine (AllReadyH.cons rfl (fun K hK => ?_) AllReadyH.nil);refine Kd.R_lit_step Kd.string _ 9 ?hg (N := 69) ?hd (xs := ([] : List ByteArray)) (inner := []) (ok := fun _ => True) (okp := fun _ => True) ?hr ?hp (fun _ hk => hk) trivial (Below.refl _ _) (Nat.le_refl _) (by simp) ?_; (case hd => rfl); (case hg => rfl); (case hr => first | (go_simp; done) | (go_simp; rfl)); (case hp => exact (Reps.none _ _));intro v0 w0_ ho0 hb0 hg0 hn0
                        have hr0 := Kd.R_lower ho0 hHeld.1.size
                        have hB0 := hHeld.1.trans (hb0.mono hHeld.1.size)
                        try have hs9 := Kd.R_elder' hr9 (Kd.R_base ho0) hb0
                        refine hK.out _ _ ?_ (fun hHeld => ?_)
                        · exact ⟨hB0, pw_cell_below hB0 hxk⟩
                        clear hK K hg0 hn0 hB0
                        try simp only [List.getElem_toArray, List.getElem_cons_succ, List.getElem_cons_zero, Act.put, List.setIfInBounds_toArray, List.set_cons_zero, List.set_cons_succ]
                        refine wpAnyH_ready (rs := [4]) (by kernel_rfl) (by simp) ?_;refine (AllReadyH.cons rfl (fun K hK => ?_) AllReadyH.nil);refine Kd.R_append_rows_step Kd.string (w0 := wk) wk.heap.size (by rfl) (.tmp 69) (.tmp 72) 56 9 (.string ⟨#[]⟩) 16 rfl Tryz.underlying56 info9 rfl (by decide) (by omega) v0 [] (out'.take k) _ _ _ (fun _ => True) (fun _ => False) rfl rfl hr0 (Kd.C_below (C_takeK (Kd.R_reads' HZ.out.1).2.2 hk) hHeld.1) (fun _ _ h => h) (fun _ h => h.elim) (fun _ _ => trivial) hHeld.1 hHeld.1.size (by have := HOL.out; simp only [List.length_nil]; omega) ?_;intro v4 w4 hr4 hb4 hg4 hat4
                        try have hs4 := Kd.R_after hs9 hg4 hat4
                        refine hK.out _ _ ?_ (fun hHeld => ?_)
                        · exact ⟨hb4, pw_cell_below hb4 hxk⟩
                        clear hK K hg4 hat4
                        try simp only [List.getElem_toArray, List.getElem_cons_succ, List.getElem_cons_zero, Act.put, List.setIfInBounds_toArray, List.set_cons_zero, List.set_cons_succ]
                        refine wpAnyH_ready (rs := [10]) (by kernel_rfl) (by simp) ?_;refine (AllReadyH.cons rfl (fun K hK => ?_) AllReadyH.nil);refine Kd.R_append_rows_step Kd.string (w0 := wk) wk.heap.size (by rfl) (.tmp 73) (.tmp 78) 56 9 (.string ⟨#[]⟩) 16 rfl Tryz.underlying56 info9 rfl (by decide) (by omega) v4 _ [s1] _ _ _ (fun _ => True) (fun _ => False) rfl rfl hr4 (by first | exact (Kd.R_reads' hs4).2.2 | exact (Kd.R_reads' hr9).2.2) (fun _ _ h => h) (fun _ h => h.elim) (fun _ _ => trivial) hHeld.1 hHeld.1.size (by have := HOL.out; rw [List.nil_append, List.length_take]; simp only [List.length_cons, List.length_nil]; omega) ?_;intro v10 w10 hr10 hb10 hg10 hat10;refine hK.out _ _ ?_ (fun hHeld => ?_)
                        · exact ⟨hb10, pw_cell_below hb10 hxk⟩
                        clear hK K hg10 hat10
                        try simp only [List.getElem_toArray, List.getElem_cons_succ, List.getElem_cons_zero, Act.put, List.setIfInBounds_toArray, List.set_cons_zero, List.set_cons_succ]
                        refine wpAnyH_ready (rs := [14]) (by kernel_rfl) (by simp) ?_;refine (AllReadyH.cons rfl (fun K hK => ?_) AllReadyH.nil);refine Kd.R_append_rows_step Kd.string (w0 := wk) wk.heap.size (by rfl) (.tmp 79) (.tmp 82) 56 9 (.string ⟨#[]⟩) 16 rfl Tryz.underlying56 info9 rfl (by decide) (by omega) v10 _ (out'.drop k) _ _ _ (fun _ => True) (fun _ => False) rfl rfl hr10 (Kd.C_below (HCC.out _ (Kd.R_reads' HZ.out.1).2.2) hHeld.1) (fun _ _ h => h) (fun _ h => h.elim) (fun _ _ => trivial) hHeld.1 hHeld.1.size (by have := HOL.out; rw [List.nil_append, List.length_append, List.length_take]; simp only [List.length_cons, List.length_nil]; omega) ?_;intro v14 w14 hr14 hb14 hg14 hat14
                        rw [List.nil_append, ← HE.out] at hr14
                        refine hK.out _ _ ?_ (fun hHeld => ?_)
                        · exact ⟨hb14, pw_cell_below hb14 hxk⟩
                        clear hK K hg14 hat14
                        try simp only [List.getElem_toArray, List.getElem_cons_succ, List.getElem_cons_zero, Act.put, List.setIfInBounds_toArray, List.set_cons_zero, List.set_cons_succ]
                        refine wpAnyH_done (by kernel_rfl) ?_ _;refine lastPost_wp ?_
                        have HR14 := Lib.hid (And.intro hr14 hb14)
                        clear hHeld hr14 hb14 hxk hcA hcB
                        go_wp2_with fail
                        go_roundw
                        case rel => exact ⟨1 + 1, insK out' s1, by first | rfl | (rw [hjw]; rfl), by omega, Lib.hid ⟨HF.out.symm, Kd.R_lower HR14.out.1 HZ.out.2.2.size, HZ.out.2.1.trans (HR14.out.2.mono HZ.out.2.1.size), HZ.out.2.2.trans (HR14.out.2.mono HZ.out.2.2.size)⟩⟩
                        case measure => first | exact up_meas (by omega) hjw | exact up_meas2 (by omega) | exact (by decide : (2 : Nat) - (2 : Int).toNat < 2 - (1 : Int).toNat)
                · have hki : ¬ ((k : Int) < (out'.length : Int)) := by omega
                  have hkd : decide ((k : Int) < (out'.length : Int)) = false := decide_eq_false hki
                  have hkb : ((k : Int) == (out'.length : Int)) = true := by rw [beq_iff_eq]; omega
                  have hke : out'[k]? = none := List.getElem?_eq_none (by omega)
                  have HE := Lib.hid (show insK out' s1 = out'.take k ++ [s1] ++ out'.drop k by rw [insK_at k out' s1 hk HKr.out.2 (fun u hu => by rw [hke] at hu; cases hu), if_neg (by rw [hke]; simp)])
                  clear hke
                  go_wp2_with fail
                  refine wp_region_held (S := (fun W => Below wk.heap.size wk W ∧ W.cell? ⟨wq.heap.size, 1, none⟩ = some (.string s1))) (by kernel_rfl) ?_;simp only [List.size_toArray, List.length_cons, List.length_nil, Nat.zero_add, Nat.reduceAdd]
                  have hHeld : ((fun W => Below wk.heap.size wk W ∧ W.cell? ⟨wq.heap.size, 1, none⟩ = some (.string s1))) wk.drew := ⟨below_drew (Below.refl _ _), hxk⟩
                  refine tk_ 0 hHeld ?_;refine tk_ 1 hHeld ?_;refine tk_ 2 hHeld ?_;refine tk_ 3 hHeld ?_;refine tk_ 4 hHeld ?_;refine tf_ 5 hHeld ?_;refine tf_ 6 hHeld ?_;refine tf_ 7 hHeld ?_;refine tf_ 8 hHeld ?_;refine tf_ 9 hHeld ?_;refine tf_ 10 hHeld ?_;refine tf_ 11 hHeld ?_;refine tf_ 12 hHeld ?_;refine tf_ 13 hHeld ?_;refine tk_ 14 hHeld ?_;refine wpAnyH_done (by kernel_rfl) ?_ _;clear hHeld
                  go_wp2_with fail
                  refine wp_region_held (S := (fun W => Below wk.heap.size wk W ∧ W.cell? ⟨wq.heap.size, 1, none⟩ = some (.string s1))) (by kernel_rfl) ?_;simp only [List.size_toArray, List.length_cons, List.length_nil, Nat.zero_add, Nat.reduceAdd]
                  have hHeld : ((fun W => Below wk.heap.size wk W ∧ W.cell? ⟨wq.heap.size, 1, none⟩ = some (.string s1))) wk.drew.drew := ⟨below_drew (below_drew (Below.refl _ _)), hxk⟩
                  refine tk_ 0 hHeld ?_;refine tk_ 1 hHeld ?_;refine tk_ 2 hHeld ?_;refine tk_ 3 hHeld ?_;refine tk_ 4 hHeld ?_;refine tf_ 5 hHeld ?_;refine tf_ 6 hHeld ?_;refine tf_ 7 hHeld ?_;refine tf_ 8 hHeld ?_;refine tf_ 9 hHeld ?_;refine tf_ 10 hHeld ?_;refine tf_ 11 hHeld ?_;refine tf_ 12 hHeld ?_;refine tf_ 13 hHeld ?_;refine tk_ 14 hHeld ?_;refine wpAnyH_done (by kernel_rfl) ?_ _;clear hHeld
                  have HZ := Lib.hid HRk.out
                  have hcA := cutA_of HRk.out.1 k hk
                  obtain ⟨A2, c2, hcB, hcC⟩ := cutB_of HRk.out.1 k hk
                  have HCC := Lib.hid hcC
                  clear hcC
                  go_wp2_with fail
                  refine wp_region_last1_held (S := (fun W => Below wk.heap.size wk W ∧ W.cell? ⟨wq.heap.size, 1, none⟩ = some (.string s1))) (l := [_, _, _, _, _, _, _, _, _, _, _, _, _, _, _]) (o := _) (by kernel_rfl) (by kernel_rfl) ?_;simp only [List.size_toArray, List.length_cons, List.length_nil, Nat.zero_add, Nat.reduceAdd]
                  have hHeld : ((fun W => Below wk.heap.size wk W ∧ W.cell? ⟨wq.heap.size, 1, none⟩ = some (.string s1))) wk.drew.drew.drew := ⟨below_drew (below_drew (below_drew (Below.refl _ _))), hxk⟩
                  refine tk_ 1 hHeld ?_;refine tk_ 2 hHeld ?_;refine tk_ 3 hHeld ?_;refine tk_ 5 hHeld ?_;refine tk_ 6 hHeld ?_;refine tk_ 7 hHeld ?_;refine tk_ 8 hHeld ?_;refine tk_ 11 hHeld ?_;refine tk_ 12 hHeld ?_;refine tk_ 13 hHeld ?_;refine wpAnyH_ready (rs := [0, 9]) (by kernel_rfl) (by simp) ?_;refine (AllReadyH.cons rfl (fun K hK => ?_) (AllReadyH.cons rfl (fun K hK => ?_) AllReadyH.nil))
                  · refine Kd.R_lit_step Kd.string _ 9 ?hg (N := 69) ?hd (xs := ([] : List ByteArray)) (inner := []) (ok := fun _ => True) (okp := fun _ => True) ?hr ?hp (fun _ hk => hk) trivial (Below.refl _ _) (Nat.le_refl _) (by simp) ?_; (case hd => rfl); (case hg => rfl); (case hr => first | (go_simp; done) | (go_simp; rfl)); (case hp => exact (Reps.none _ _));intro v0 w0_ ho0 hb0 hg0 hn0
                    have hr0 := Kd.R_lower ho0 hHeld.1.size
                    have hB0 := hHeld.1.trans (hb0.mono hHeld.1.size)
                    try have hs9 := Kd.R_elder' hr9 (Kd.R_base ho0) hb0
                    refine hK.out _ _ ?_ (fun hHeld => ?_)
                    · exact ⟨hB0, pw_cell_below hB0 hxk⟩
                    clear hK K hg0 hn0 hB0
                    try simp only [List.getElem_toArray, List.getElem_cons_succ, List.getElem_cons_zero, Act.put, List.setIfInBounds_toArray, List.set_cons_zero, List.set_cons_succ]
                    refine wpAnyH_ready (rs := [4, 9]) (by kernel_rfl) (by simp) ?_;refine (AllReadyH.cons rfl (fun K hK => ?_) (AllReadyH.cons rfl (fun K hK => ?_) AllReadyH.nil))
                    · refine Kd.R_append_rows_step Kd.string (w0 := wk) wk.heap.size (by rfl) (.tmp 69) (.tmp 72) 56 9 (.string ⟨#[]⟩) 16 rfl Tryz.underlying56 info9 rfl (by decide) (by omega) v0 [] (out'.take k) _ _ _ (fun _ => True) (fun _ => False) rfl rfl hr0 (Kd.C_below (C_takeK (Kd.R_reads' HZ.out.1).2.2 hk) hHeld.1) (fun _ _ h => h) (fun _ h => h.elim) (fun _ _ => trivial) hHeld.1 hHeld.1.size (by have := HOL.out; simp only [List.length_nil]; omega) ?_;intro v4 w4 hr4 hb4 hg4 hat4
                      try have hs4 := Kd.R_after hs9 hg4 hat4
                      refine hK.out _ _ ?_ (fun hHeld => ?_)
                      · exact ⟨hb4, pw_cell_below hb4 hxk⟩
                      clear hK K hg4 hat4
                      try simp only [List.getElem_toArray, List.getElem_cons_succ, List.getElem_cons_zero, Act.put, List.setIfInBounds_toArray, List.set_cons_zero, List.set_cons_succ]
                      refine wpAnyH_ready (rs := [9]) (by kernel_rfl) (by simp) ?_;refine (AllReadyH.cons rfl (fun K hK => ?_) AllReadyH.nil);refine Kd.R_lit_step Kd.string _ 9 ?hg (N := 78) ?hd (xs := [s1]) (inner := [.string s1]) (ok := fun _ => True) (okp := fun _ => True) ?hr ?hp (fun _ hk => hk) trivial (Below.refl _ _) (Nat.le_refl _) (by simp) ?_; (case hd => rfl); (case hg => rfl); (case hr => first | (go_simp; done) | (go_simp; rfl)); (case hp => exact (Reps.one rfl (Reps.none _ _)));intro v9 w9 ho9 hb9 hg9 hn9
                      obtain ⟨A9, c9, rfl⟩ := Kd.R_slice ho9
                      have hr9 := Kd.R_lower ho9 hHeld.1.size
                      have hB9 := hHeld.1.trans (hb9.mono hHeld.1.size)
                      try have hs9 := Kd.R_lower (Kd.R_new' ho9 (Kd.R_lt hr0)) hHeld.1.size
                      try have hr0 := Kd.R_step hr0 (fun q _ hq => hb9.block q hq)
                      try have hr4 := Kd.R_step hr4 (fun q _ hq => hb9.block q hq)
                      refine hK.out _ _ ?_ (fun hHeld => ?_)
                      · exact ⟨hB9, pw_cell_below hB9 hxk⟩
                      clear hK K hg9 hn9 hB9
                      try simp only [List.getElem_toArray, List.getElem_cons_succ, List.getElem_cons_zero, Act.put, List.setIfInBounds_toArray, List.set_cons_zero, List.set_cons_succ]
                      refine wpAnyH_ready (rs := [10]) (by kernel_rfl) (by simp) ?_;refine (AllReadyH.cons rfl (fun K hK => ?_) AllReadyH.nil);refine Kd.R_append_rows_step Kd.string (w0 := wk) wk.heap.size (by rfl) (.tmp 73) (.tmp 78) 56 9 (.string ⟨#[]⟩) 16 rfl Tryz.underlying56 info9 rfl (by decide) (by omega) v4 _ [s1] _ _ _ (fun _ => True) (fun _ => False) rfl rfl hr4 (by first | exact (Kd.R_reads' hs4).2.2 | exact (Kd.R_reads' hr9).2.2) (fun _ _ h => h) (fun _ h => h.elim) (fun _ _ => trivial) hHeld.1 hHeld.1.size (by have := HOL.out; rw [List.nil_append, List.length_take]; simp only [List.length_cons, List.length_nil]; omega) ?_;intro v10 w10 hr10 hb10 hg10 hat10;refine hK.out _ _ ?_ (fun hHeld => ?_)
                      · exact ⟨hb10, pw_cell_below hb10 hxk⟩
                      clear hK K hg10 hat10
                      try simp only [List.getElem_toArray, List.getElem_cons_succ, List.getElem_cons_zero, Act.put, List.setIfInBounds_toArray, List.set_cons_zero, List.set_cons_succ]
                      refine wpAnyH_ready (rs := [14]) (by kernel_rfl) (by simp) ?_;refine (AllReadyH.cons rfl (fun K hK => ?_) AllReadyH.nil);refine Kd.R_append_rows_step Kd.string (w0 := wk) wk.heap.size (by rfl) (.tmp 79) (.tmp 82) 56 9 (.string ⟨#[]⟩) 16 rfl Tryz.underlying56 info9 rfl (by decide) (by omega) v10 _ (out'.drop k) _ _ _ (fun _ => True) (fun _ => False) rfl rfl hr10 (Kd.C_below (HCC.out _ (Kd.R_reads' HZ.out.1).2.2) hHeld.1) (fun _ _ h => h) (fun _ h => h.elim) (fun _ _ => trivial) hHeld.1 hHeld.1.size (by have := HOL.out; rw [List.nil_append, List.length_append, List.length_take]; simp only [List.length_cons, List.length_nil]; omega) ?_;intro v14 w14 hr14 hb14 hg14 hat14
                      rw [List.nil_append, ← HE.out] at hr14
                      refine hK.out _ _ ?_ (fun hHeld => ?_)
                      · exact ⟨hb14, pw_cell_below hb14 hxk⟩
                      clear hK K hg14 hat14
                      try simp only [List.getElem_toArray, List.getElem_cons_succ, List.getElem_cons_zero, Act.put, List.setIfInBounds_toArray, List.set_cons_zero, List.set_cons_succ]
                      refine wpAnyH_done (by kernel_rfl) ?_ _;refine lastPost_wp ?_
                      have HR14 := Lib.hid (And.intro hr14 hb14)
                      clear hHeld hr14 hb14 hxk hcA hcB
                      go_wp2_with fail
                      go_roundw
                      case rel => exact ⟨1 + 1, insK out' s1, by first | rfl | (rw [hjw]; rfl), by omega, Lib.hid ⟨HF.out.symm, Kd.R_lower HR14.out.1 HZ.out.2.2.size, HZ.out.2.1.trans (HR14.out.2.mono HZ.out.2.1.size), HZ.out.2.2.trans (HR14.out.2.mono HZ.out.2.2.size)⟩⟩
                      case measure => first | exact up_meas (by omega) hjw | exact up_meas2 (by omega) | exact (by decide : (2 : Nat) - (2 : Int).toNat < 2 - (1 : Int).toNat)
                    · refine Kd.R_lit_step Kd.string _ 9 ?hg (N := 78) ?hd (xs := [s1]) (inner := [.string s1]) (ok := fun _ => True) (okp := fun _ => True) ?hr ?hp (fun _ hk => hk) trivial (Below.refl _ _) (Nat.le_refl _) (by simp) ?_; (case hd => rfl); (case hg => rfl); (case hr => first | (go_simp; done) | (go_simp; rfl)); (case hp => exact (Reps.one rfl (Reps.none _ _)));intro v9 w9 ho9 hb9 hg9 hn9
                      obtain ⟨A9, c9, rfl⟩ := Kd.R_slice ho9
                      have hr9 := Kd.R_lower ho9 hHeld.1.size
                      have hB9 := hHeld.1.trans (hb9.mono hHeld.1.size)
                      try have hs9 := Kd.R_lower (Kd.R_new' ho9 (Kd.R_lt hr0)) hHeld.1.size
                      try have hr0 := Kd.R_step hr0 (fun q _ hq => hb9.block q hq)
                      try have hr4 := Kd.R_step hr4 (fun q _ hq => hb9.block q hq)
                      refine hK.out _ _ ?_ (fun hHeld => ?_)
                      · exact ⟨hB9, pw_cell_below hB9 hxk⟩
                      clear hK K hg9 hn9 hB9
                      try simp only [List.getElem_toArray, List.getElem_cons_succ, List.getElem_cons_zero, Act.put, List.setIfInBounds_toArray, List.set_cons_zero, List.set_cons_succ]
                      refine wpAnyH_ready (rs := [4]) (by kernel_rfl) (by simp) ?_;refine (AllReadyH.cons rfl (fun K hK => ?_) AllReadyH.nil);refine Kd.R_append_rows_step Kd.string (w0 := wk) wk.heap.size (by rfl) (.tmp 69) (.tmp 72) 56 9 (.string ⟨#[]⟩) 16 rfl Tryz.underlying56 info9 rfl (by decide) (by omega) v0 [] (out'.take k) _ _ _ (fun _ => True) (fun _ => False) rfl rfl hr0 (Kd.C_below (C_takeK (Kd.R_reads' HZ.out.1).2.2 hk) hHeld.1) (fun _ _ h => h) (fun _ h => h.elim) (fun _ _ => trivial) hHeld.1 hHeld.1.size (by have := HOL.out; simp only [List.length_nil]; omega) ?_;intro v4 w4 hr4 hb4 hg4 hat4
                      try have hs4 := Kd.R_after hs9 hg4 hat4
                      refine hK.out _ _ ?_ (fun hHeld => ?_)
                      · exact ⟨hb4, pw_cell_below hb4 hxk⟩
                      clear hK K hg4 hat4
                      try simp only [List.getElem_toArray, List.getElem_cons_succ, List.getElem_cons_zero, Act.put, List.setIfInBounds_toArray, List.set_cons_zero, List.set_cons_succ]
                      refine wpAnyH_ready (rs := [10]) (by kernel_rfl) (by simp) ?_;refine (AllReadyH.cons rfl (fun K hK => ?_) AllReadyH.nil);refine Kd.R_append_rows_step Kd.string (w0 := wk) wk.heap.size (by rfl) (.tmp 73) (.tmp 78) 56 9 (.string ⟨#[]⟩) 16 rfl Tryz.underlying56 info9 rfl (by decide) (by omega) v4 _ [s1] _ _ _ (fun _ => True) (fun _ => False) rfl rfl hr4 (by first | exact (Kd.R_reads' hs4).2.2 | exact (Kd.R_reads' hr9).2.2) (fun _ _ h => h) (fun _ h => h.elim) (fun _ _ => trivial) hHeld.1 hHeld.1.size (by have := HOL.out; rw [List.nil_append, List.length_take]; simp only [List.length_cons, List.length_nil]; omega) ?_;intro v10 w10 hr10 hb10 hg10 hat10;refine hK.out _ _ ?_ (fun hHeld => ?_)
                      · exact ⟨hb10, pw_cell_below hb10 hxk⟩
                      clear hK K hg10 hat10
                      try simp only [List.getElem_toArray, List.getElem_cons_succ, List.getElem_cons_zero, Act.put, List.setIfInBounds_toArray, List.set_cons_zero, List.set_cons_succ]
                      refine wpAnyH_ready (rs := [14]) (by kernel_rfl) (by simp) ?_;refine (AllReadyH.cons rfl (fun K hK => ?_) AllReadyH.nil);refine Kd.R_append_rows_step Kd.string (w0 := wk) wk.heap.size (by rfl) (.tmp 79) (.tmp 82) 56 9 (.string ⟨#[]⟩) 16 rfl Tryz.underlying56 info9 rfl (by decide) (by omega) v10 _ (out'.drop k) _ _ _ (fun _ => True) (fun _ => False) rfl rfl hr10 (Kd.C_below (HCC.out _ (Kd.R_reads' HZ.out.1).2.2) hHeld.1) (fun _ _ h => h) (fun _ h => h.elim) (fun _ _ => trivial) hHeld.1 hHeld.1.size (by have := HOL.out; rw [List.nil_append, List.length_append, List.length_take]; simp only [List.length_cons, List.length_nil]; omega) ?_;intro v14 w14 hr14 hb14 hg14 hat14
                      rw [List.nil_append, ← HE.out] at hr14
                      refine hK.out _ _ ?_ (fun hHeld => ?_)
                      · exact ⟨hb14, pw_cell_below hb14 hxk⟩
                      clear hK K hg14 hat14
                      try simp only [List.getElem_toArray, List.getElem_cons_succ, List.getElem_cons_zero, Act.put, List.setIfInBounds_toArray, List.set_cons_zero, List.set_cons_succ]
                      refine wpAnyH_done (by kernel_rfl) ?_ _;refine lastPost_wp ?_
                      have HR14 := Lib.hid (And.intro hr14 hb14)
                      clear hHeld hr14 hb14 hxk hcA hcB
                      go_wp2_with fail
                      go_roundw
                      case rel => exact ⟨1 + 1, insK out' s1, by first | rfl | (rw [hjw]; rfl), by omega, Lib.hid ⟨HF.out.symm, Kd.R_lower HR14.out.1 HZ.out.2.2.size, HZ.out.2.1.trans (HR14.out.2.mono HZ.out.2.1.size), HZ.out.2.2.trans (HR14.out.2.mono HZ.out.2.2.size)⟩⟩
                      case measure => first | exact up_meas (by omega) hjw | exact up_meas2 (by omega) | exact (by decide : (2 : Nat) - (2 : Int).toNat < 2 - (1 : Int).toNat)
                  · refine Kd.R_lit_step Kd.string _ 9 ?hg (N := 78) ?hd (xs := [s1]) (inner := [.string s1]) (ok := fun _ => True) (okp := fun _ => True) ?hr ?hp (fun _ hk => hk) trivial (Below.refl _ _) (Nat.le_refl _) (by simp) ?_; (case hd => rfl); (case hg => rfl); (case hr => first | (go_simp; done) | (go_simp; rfl)); (case hp => exact (Reps.one rfl (Reps.none _ _)));intro v9 w9 ho9 hb9 hg9 hn9
                    obtain ⟨A9, c9, rfl⟩ := Kd.R_slice ho9
                    have hr9 := Kd.R_lower ho9 hHeld.1.size
                    have hB9 := hHeld.1.trans (hb9.mono hHeld.1.size)
                    try have hs9 := Kd.R_lower (Kd.R_new' ho9 (Kd.R_lt hr0)) hHeld.1.size
                    try have hr0 := Kd.R_step hr0 (fun q _ hq => hb9.block q hq)
                    try have hr4 := Kd.R_step hr4 (fun q _ hq => hb9.block q hq)
                    refine hK.out _ _ ?_ (fun hHeld => ?_)
                    · exact ⟨hB9, pw_cell_below hB9 hxk⟩
                    clear hK K hg9 hn9 hB9
                    try simp only [List.getElem_toArray, List.getElem_cons_succ, List.getElem_cons_zero, Act.put, List.setIfInBounds_toArray, List.set_cons_zero, List.set_cons_succ]
                    refine wpAnyH_ready (rs := [0]) (by kernel_rfl) (by simp) ?_;refine (AllReadyH.cons rfl (fun K hK => ?_) AllReadyH.nil);refine Kd.R_lit_step Kd.string _ 9 ?hg (N := 69) ?hd (xs := ([] : List ByteArray)) (inner := []) (ok := fun _ => True) (okp := fun _ => True) ?hr ?hp (fun _ hk => hk) trivial (Below.refl _ _) (Nat.le_refl _) (by simp) ?_; (case hd => rfl); (case hg => rfl); (case hr => first | (go_simp; done) | (go_simp; rfl)); (case hp => exact (Reps.none _ _));intro v0 w0_ ho0 hb0 hg0 hn0
                    have hr0 := Kd.R_lower ho0 hHeld.1.size
                    have hB0 := hHeld.1.trans (hb0.mono hHeld.1.size)
                    try have hs9 := Kd.R_elder' hr9 (Kd.R_base ho0) hb0
                    refine hK.out _ _ ?_ (fun hHeld => ?_)
                    · exact ⟨hB0, pw_cell_below hB0 hxk⟩
                    clear hK K hg0 hn0 hB0
                    try simp only [List.getElem_toArray, List.getElem_cons_succ, List.getElem_cons_zero, Act.put, List.setIfInBounds_toArray, List.set_cons_zero, List.set_cons_succ]
                    refine wpAnyH_ready (rs := [4]) (by kernel_rfl) (by simp) ?_;refine (AllReadyH.cons rfl (fun K hK => ?_) AllReadyH.nil);refine Kd.R_append_rows_step Kd.string (w0 := wk) wk.heap.size (by rfl) (.tmp 69) (.tmp 72) 56 9 (.string ⟨#[]⟩) 16 rfl Tryz.underlying56 info9 rfl (by decide) (by omega) v0 [] (out'.take k) _ _ _ (fun _ => True) (fun _ => False) rfl rfl hr0 (Kd.C_below (C_takeK (Kd.R_reads' HZ.out.1).2.2 hk) hHeld.1) (fun _ _ h => h) (fun _ h => h.elim) (fun _ _ => trivial) hHeld.1 hHeld.1.size (by have := HOL.out; simp only [List.length_nil]; omega) ?_;intro v4 w4 hr4 hb4 hg4 hat4
                    try have hs4 := Kd.R_after hs9 hg4 hat4
                    refine hK.out _ _ ?_ (fun hHeld => ?_)
                    · exact ⟨hb4, pw_cell_below hb4 hxk⟩
                    clear hK K hg4 hat4
                    try simp only [List.getElem_toArray, List.getElem_cons_succ, List.getElem_cons_zero, Act.put, List.setIfInBounds_toArray, List.set_cons_zero, List.set_cons_succ]
                    refine wpAnyH_ready (rs := [10]) (by kernel_rfl) (by simp) ?_;refine (AllReadyH.cons rfl (fun K hK => ?_) AllReadyH.nil);refine Kd.R_append_rows_step Kd.string (w0 := wk) wk.heap.size (by rfl) (.tmp 73) (.tmp 78) 56 9 (.string ⟨#[]⟩) 16 rfl Tryz.underlying56 info9 rfl (by decide) (by omega) v4 _ [s1] _ _ _ (fun _ => True) (fun _ => False) rfl rfl hr4 (by first | exact (Kd.R_reads' hs4).2.2 | exact (Kd.R_reads' hr9).2.2) (fun _ _ h => h) (fun _ h => h.elim) (fun _ _ => trivial) hHeld.1 hHeld.1.size (by have := HOL.out; rw [List.nil_append, List.length_take]; simp only [List.length_cons, List.length_nil]; omega) ?_;intro v10 w10 hr10 hb10 hg10 hat10;refine hK.out _ _ ?_ (fun hHeld => ?_)
                    · exact ⟨hb10, pw_cell_below hb10 hxk⟩
                    clear hK K hg10 hat10
                    try simp only [List.getElem_toArray, List.getElem_cons_succ, List.getElem_cons_zero, Act.put, List.setIfInBounds_toArray, List.set_cons_zero, List.set_cons_succ]
                    refine wpAnyH_ready (rs := [14]) (by kernel_rfl) (by simp) ?_;refine (AllReadyH.cons rfl (fun K hK => ?_) AllReadyH.nil);refine Kd.R_append_rows_step Kd.string (w0 := wk) wk.heap.size (by rfl) (.tmp 79) (.tmp 82) 56 9 (.string ⟨#[]⟩) 16 rfl Tryz.underlying56 info9 rfl (by decide) (by omega) v10 _ (out'.drop k) _ _ _ (fun _ => True) (fun _ => False) rfl rfl hr10 (Kd.C_below (HCC.out _ (Kd.R_reads' HZ.out.1).2.2) hHeld.1) (fun _ _ h => h) (fun _ h => h.elim) (fun _ _ => trivial) hHeld.1 hHeld.1.size (by have := HOL.out; rw [List.nil_append, List.length_append, List.length_take]; simp only [List.length_cons, List.length_nil]; omega) ?_;intro v14 w14 hr14 hb14 hg14 hat14
                    rw [List.nil_append, ← HE.out] at hr14
                    refine hK.out _ _ ?_ (fun hHeld => ?_)
                    · exact ⟨hb14, pw_cell_below hb14 hxk⟩
                    clear hK K hg14 hat14
                    try simp only [List.getElem_toArray, List.getElem_cons_succ, List.getElem_cons_zero, Act.put, List.setIfInBounds_toArray, List.set_cons_zero, List.set_cons_succ]
                    refine wpAnyH_done (by kernel_rfl) ?_ _;refine lastPost_wp ?_
                    have HR14 := Lib.hid (And.intro hr14 hb14)
                    clear hHeld hr14 hb14 hxk hcA hcB
                    go_wp2_with fail
                    go_roundw
                    case rel => exact ⟨1 + 1, insK out' s1, by first | rfl | (rw [hjw]; rfl), by omega, Lib.hid ⟨HF.out.symm, Kd.R_lower HR14.out.1 HZ.out.2.2.size, HZ.out.2.1.trans (HR14.out.2.mono HZ.out.2.1.size), HZ.out.2.2.trans (HR14.out.2.mono HZ.out.2.2.size)⟩⟩
                    case measure => first | exact up_meas (by omega) hjw | exact up_meas2 (by omega) | exact (by decide : (2 : Nat) - (2 : Int).toNat < 2 - (1 : Int).toNat)
    · obtain rfl : i = l.length := by omega
      have HM := Lib.hid (show out = marksL l by rw [HR.out.1, List.take_length])
      go_wp2
      go_ret
      exact ⟨_, rfl, by rw [← HM.out]; exact HR.out.2.1, HR.out.2.2⟩
def folkmootref03_marks.f (l : List S71) : Option (List ByteArray) := if l.length ≤ 100000 then some (marksL l) else none
theorem folkmootref03_marks.calls (A0 : Option Addr) (c0 : Nat) (l0 : List S71) (r : List ByteArray) (w : World) (hr0 : Kd.C k71 w A0 l0.length l0) (_hc0 : l0.length ≤ c0) (h : folkmootref03_marks.f l0 = some r) :
    Calls Tryz.prog 108 #[.slice A0 l0.length c0] w fun e w' => ∃ v0_ : Value, e = .returned (v0_) ∧ Kd.R Kd.string 9 w' w.heap.size (fun _ => True) v0_ r ∧ Below w.heap.size w w' := by
  unfold folkmootref03_marks.f at h
  split at h
  · rename_i hl
    injection h with h
    subst h
    exact marks_any A0 c0 l0 w hr0 _hc0 hl
  · cases h
end Go.Proofs.YtgmlenpcchhmbaaGreat.P
end
