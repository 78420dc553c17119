/- small, near. -/
import Derived.Test.YtmanpicmbeeceaaNetL
import Derived.Deep.QuietTactic
import Derived.BigQuiet
namespace Go.Proofs.Ytmanpicmbeeceaa
open Go.RowKit
open Kd (Sl)

def diffs (a b : List UInt8) : Nat := ((a.zip b).filter fun p => p.1 != p.2).length
theorem diffs_snoc {a b : List UInt8} {i : Nat} (ha : i < a.length) (hb : i < b.length) : diffs (a.take (i + 1)) (b.take (i + 1)) = diffs (a.take i) (b.take i) + if a[i] = b[i] then 0 else 1 := by
  unfold diffs
  rw [List.take_succ_eq_append_getElem ha, List.take_succ_eq_append_getElem hb, List.zip_append (by simp; omega), List.filter_append, List.length_append]
  congr 1
  by_cases h : a[i] = b[i] <;> simp [h]
theorem diffs_le (a b : List UInt8) : diffs a b ≤ a.length := by
  unfold diffs
  exact Nat.le_trans (List.length_filter_le _ _) (by rw [List.length_zip]; omega)
def nearB (a b : List UInt8) : Bool := decide (a.length = b.length ∧ diffs a b ≤ 1)
def NearRel (w : World) (a b : List UInt8) (n k : Value) (wr : World) : Prop := ∃ i m : Nat, k = .int .i64 (i : Nat) ∧ n = .int .i64 (diffs (a.take i) (b.take i) : Nat) ∧ i ≤ a.length ∧ wr = w.drewN m
def NearRet (w : World) (a b : List UInt8) (e : Ending) (w' : World) : Prop := e = .returned (.bool (nearB a b)) ∧ ∃ m, w' = w.drewN m
theorem bys_at {H : PHeap} {A : Option Addr} {n c : Nat} {bs : List UInt8} (h : Bys H (.slice A n c) bs) {i : Nat} (hi : i < bs.length) : ∃ ad, A = some ad ∧ HCell H (ad.add i) (.int .u8 bs[i].toNat) := by
  obtain ⟨ad, u, e, hu, hc⟩ := sl_get1 rfl h (List.getElem?_eq_getElem hi)
  have hu' : [u] = [Value.int .u8 bs[i].toNat] := hu
  simp only [List.cons.injEq, and_true] at hu'
  subst hu'
  exact ⟨ad, e, hc⟩
theorem drewN_two (w : World) (m n : Nat) : (w.drewN m).drewN n = w.drewN (m + n) := by
  unfold World.drewN; simp only [Nat.add_assoc]
set_option maxHeartbeats 1000000 in
theorem near_any {H H2 : PHeap} (va vb : Value) (a b : List UInt8) (w : World) (hF : Fits w H) (ha : Bys H va a) (hF2 : Fits w H2) (hb : Bys H2 vb b) :
    Calls Try.prog 21 #[va, vb] w (NearRet w a b) := by
  obtain ⟨A, c, rfl, h1, h2⟩ := sl_len ha
  obtain ⟨B, d, rfl, h3, h4⟩ := sl_len hb
  go_enter Try.func21, Try.ntmps21
  by_cases hl : a.length = b.length
  · have HL := Lib.hid hl
    have hle : (a.length : Int) = b.length := by omega
    have hres : nearB a b = decide (diffs a b ≤ 1) := by unfold nearB; simp [hl]
    have HR := Lib.hid hres; clear hres
    generalize hbl : b.length = bl at *
    have HBL := Lib.hid hbl; clear hbl
    generalize hal : a.length = al at *
    have HAL := Lib.hid hal; clear hal
    subst hl
    clear hle
    go_wp2_with fail
    go_loopw [5, 6] (NearRel w a b) (fun _ k _ => a.length - (intOf k).toNat)
    case atStart => exact ⟨0, 0, rfl, rfl, Nat.zero_le _, rfl⟩
    case round =>
      obtain ⟨i, m, rfl, rfl, hi, hwm⟩ := hrel
      have hFr : Fits wr H := by rw [hwm]; exact hF.drewN m
      have hFr2 : Fits wr H2 := by rw [hwm]; exact hF2.drewN m
      have HWM := Lib.hid hwm; clear hwm
      rw [HAL.out] at hi
      by_cases hlt : i < al
      · have hia : i < a.length := by rw [HAL.out]; exact hlt
        have hib : i < b.length := by rw [HBL.out]; exact hlt
        obtain ⟨ad, rfl, hca⟩ := bys_at ha hia
        obtain ⟨bd, rfl, hcb⟩ := bys_at hb hib
        have hcaw := hca wr hFr
        have hcbw := hcb wr hFr2
        have hi0 : (0 : Int) ≤ (i : Int) := by omega
        have hi1 : (i : Int) < (al : Int) := by omega
        have hd := diffs_snoc hia hib
        have hdl : diffs (a.take i) (b.take i) ≤ i := Nat.le_trans (diffs_le _ _) (by simp; omega)
        by_cases he : a[i] = b[i]
        · rw [← he] at hcbw
          rw [if_pos he] at hd
          generalize diffs (a.take i) (b.take i) = D at *
          go_wp2_with fail
          go_quiet (fail)
          go_wp2_with fail
          refine ⟨⟨i + 1, m + nq, by go_num, ?_, by omega, ?_⟩, ?_⟩
          · rw [hd]; rfl
          · rw [HWM.out]; exact drewN_two _ _ _
          · rw [HAL.out]; simp [intOf]; omega
        · have hne : ¬ ((a[i].toNat : Int) = b[i].toNat) := by
            intro e; exact he (UInt8.toNat_inj.1 (by omega))
          rw [if_neg he] at hd
          generalize diffs (a.take i) (b.take i) = D at *
          go_wp2_with fail
          go_quiet (fail)
          go_wp2_with fail
          refine ⟨⟨i + 1, m + nq, by go_num, ?_, by omega, ?_⟩, ?_⟩
          · rw [hd]; rfl
          · rw [HWM.out]; exact drewN_two _ _ _
          · rw [HAL.out]; simp [intOf]; omega
      · obtain rfl : i = al := by omega
        go_wp2_with fail
        go_ret
        refine ⟨?_, m, HWM.out⟩
        show Ending.returned (.bool (decide (((diffs (a.take i) (b.take i) : Nat) : Int) ≤ 1))) = _
        rw [HR.out, List.take_of_length_le (Nat.le_of_eq HAL.out), List.take_of_length_le (Nat.le_of_eq HBL.out)]
        congr 2
        exact decide_eq_decide.2 ⟨fun h => by omega, fun h => by omega⟩
  · have hl2 : ¬ (a.length : Int) = b.length := by omega
    have hn : nearB a b = false := by unfold nearB; simp [hl]
    go_wp2_with fail
    go_ret
    exact ⟨by rw [hn]; rfl, 0, rfl⟩
abbrev Act := Int × (List (List UInt8) × (Int × (Int × UInt8)))
def kAct : Kd Act := Kd.iso (Kd.pair (Kd.int .i64) (Kd.pair (Kd.slice (Kd.slice Kd.byte)) (Kd.pair (Kd.int .i64) (Kd.pair (Kd.int .i64) Kd.byte)))) id 56
theorem add_fld (a : Addr) (k : Nat) {j : Nat} (hj : j ≠ 0) : a.add (k + j) = ⟨(a.add k).block, (a.add k).off + j, none⟩ := by
  have h1 : k + j ≠ 0 := by omega
  by_cases hk : k = 0
  · subst hk; simp [Addr.add, hj]
  · simp [Addr.add, hj, hk]; omega
theorem act_at {H : PHeap} {A : Option Addr} {n c : Nat} {acts : List Act} (h : Sl kAct H (.slice A n c) acts) {i : Nat} {x : Act} (hi : acts[i]? = some x) : ∃ ad vL, A = some ad ∧ HCell H (ad.add (i * 5)) (.int .i64 x.1) ∧ HCell H ⟨(ad.add (i * 5)).block, (ad.add (i * 5)).off + 1, none⟩ vL ∧ Sl (Kd.slice Kd.byte) H vL x.2.1 ∧
    HCell H ⟨(ad.add (i * 5)).block, (ad.add (i * 5)).off + 2, none⟩ (.int .i64 x.2.2.1) ∧ HCell H ⟨(ad.add (i * 5)).block, (ad.add (i * 5)).off + 3, none⟩ (.int .i64 x.2.2.2.1) ∧ HCell H ⟨(ad.add (i * 5)).block, (ad.add (i * 5)).off + 4, none⟩ (.int .u8 x.2.2.2.2.toNat) ∧ (Lit.int .i64 x.1).wf = true ∧ (Lit.int .i64 x.2.2.1).wf = true ∧ (Lit.int .i64 x.2.2.2.1).wf = true := by
  obtain ⟨ad, cs, e, hR, hl, hc⟩ := sl_get h hi
  obtain ⟨c0, c1, rfl, ⟨rfl, w0⟩, c2, c3, rfl, ⟨vL, rfl, hL⟩, c4, c5, rfl, ⟨rfl, w2⟩, c6, c7, rfl, ⟨rfl, w3⟩, h7⟩ := hR
  have h7' : c7 = [Value.int .u8 x.2.2.2.2.toNat] := h7
  subst h7'
  exact ⟨ad, vL, e, hc 0 _ rfl, by rw [← add_fld _ _ (by omega)]; exact hc 1 _ rfl, hL, by rw [← add_fld _ _ (by omega)]; exact hc 2 _ rfl, by rw [← add_fld _ _ (by omega)]; exact hc 3 _ rfl, by rw [← add_fld _ _ (by omega)]; exact hc 4 _ rfl, w0, w2, w3⟩
def sizes (acts : List Act) : Nat := (acts.map fun a => a.2.1.length).sum
def SmallRel (acts : List Act) (n k : Value) : Prop := ∃ (i : Nat) (x : Int), k = .int .i64 (i : Nat) ∧ n = .int .i64 x ∧ i ≤ acts.length ∧ i ≤ 61 ∧ (sizes (acts.take i) : Int) ≤ x ∧ x ≤ i * (62 * 140737488355328)
def SmallRel2 (m : Nat) (x0 : Int) (n k : Value) : Prop := ∃ (i : Nat) (x : Int), k = .int .i64 (i : Nat) ∧ n = .int .i64 x ∧ i ≤ m ∧ i ≤ 61 ∧ x0 ≤ x ∧ x ≤ x0 + i * 140737488355328
def SmallRet (acts : List Act) (w : World) (e : Ending) (w' : World) : Prop := ∃ b, e = .returned (.bool b) ∧ w = w' ∧ (b = true → acts.length ≤ 60 ∧ sizes acts ≤ 20000)
set_option maxHeartbeats 1000000 in
theorem small_any {H : PHeap} (v : Value) (acts : List Act) (w : World) (hF : Fits w H) (hv : Sl kAct H v acts) :
    Calls Try.prog 7 #[v] w (SmallRet acts w) := by
  obtain ⟨A, c, rfl, h1, h2⟩ := sl_len hv
  go_enter Try.func7, Try.ntmps7
  go_wp2_with fail
  go_loop [3, 4] (SmallRel acts) (fun _ k => 61 - (intOf k).toNat)
  case atStart => exact ⟨0, 0, rfl, rfl, Nat.zero_le _, by omega, by simp [sizes], by omega⟩
  case round =>
    obtain ⟨i, x, rfl, rfl, hi1, hi2, hs, hx⟩ := hrel
    have HS := Lib.hid hs; clear hs
    have hx0 : 0 ≤ x := by have := HS.out; omega
    by_cases hlt : i < acts.length ∧ i ≤ 60
    · obtain ⟨hl1, hl2⟩ := hlt
      obtain ⟨ad, vL, rfl, _, hcL, hL, _, _, _, _, _, _⟩ := act_at hv (List.getElem?_eq_getElem hl1)
      have hbL := sl_bound hL
      obtain ⟨B, d, rfl, hd1, hd2⟩ := sl_len hL
      have hcw := hcL w hF
      have hst : sizes (acts.take (i + 1)) = sizes (acts.take i) + acts[i].2.1.length := by
        unfold sizes
        rw [List.take_succ_eq_append_getElem hl1, List.map_append, List.sum_append]; simp
      generalize acts[i].2.1 = L at *
      have hm : L.length ≤ 140737488355328 := by
        have : L.length * (Kd.slice Kd.byte).by_ = L.length * 24 := rfl
        omega
      have HST := Lib.hid hst; clear hst
      go_wp2_with fail
      go_loop [3, 5] (SmallRel2 L.length (x + L.length)) (fun _ k => 61 - (intOf k).toNat)
      case atStart => exact ⟨0, _, rfl, rfl, Nat.zero_le _, by omega, by omega, by omega⟩
      case round =>
        obtain ⟨k, y, rfl, rfl, hk1, hk2, hy1, hy2⟩ := hrel
        by_cases hlt : k < L.length ∧ k ≤ 60
        · obtain ⟨hl3, hl4⟩ := hlt
          obtain ⟨bd, u, rfl, ⟨ub, hu1, hu⟩, hck⟩ := sl_get1 rfl hL (List.getElem?_eq_getElem hl3)
          simp only [List.cons.injEq, and_true] at hu1
          subst hu1
          obtain ⟨A1, c1, rfl, e1, e2⟩ := sl_len hu
          have hbu := sl_bound hu
          have hbu2 : L[k].length * Kd.byte.by_ = L[k].length := Nat.mul_one _
          have hckw := hck w hF
          generalize L[k].length = q at *
          go_wp2_with fail
          refine ⟨⟨k + 1, y + q, by go_num, by go_num, by omega, by omega, by omega, by omega⟩, by simp [intOf]; omega⟩
        · have hcase : ¬ (k : Int) < L.length ∨ ((k : Int) < L.length ∧ ¬ (k : Int) ≤ 60) := by omega
          rcases hcase with h | ⟨h, h'⟩
          · go_wp2_with fail
            refine ⟨⟨i + 1, y, by go_num, rfl, by omega, by omega, by rw [HST.out]; have := HS.out; omega, by omega⟩, by simp [intOf]; omega⟩
          · go_wp2_with fail
            refine ⟨⟨i + 1, y, by go_num, rfl, by omega, by omega, by rw [HST.out]; have := HS.out; omega, by omega⟩, by simp [intOf]; omega⟩
    · have hcase : ¬ (i : Int) < acts.length ∨ ((i : Int) < acts.length ∧ ¬ (i : Int) ≤ 60) := by omega
      rcases hcase with h | ⟨h, h'⟩
      · by_cases hsm : (acts.length : Int) ≤ 60
        · go_wp2_with fail
          go_ret
          refine ⟨decide (x ≤ 20000), rfl, rfl, fun hb => ?_⟩
          have hb2 := of_decide_eq_true hb
          obtain rfl : i = acts.length := by omega
          have := HS.out
          rw [List.take_length] at this
          exact ⟨by omega, by omega⟩
        · go_wp2_with fail
          go_ret
          exact ⟨false, rfl, rfl, fun hb => by cases hb⟩
      · go_wp2_with fail
        go_ret
        exact ⟨false, rfl, rfl, fun hb => by cases hb⟩
end Go.Proofs.Ytmanpicmbeeceaa
