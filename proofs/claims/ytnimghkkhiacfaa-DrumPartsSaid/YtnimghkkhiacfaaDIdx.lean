/- slices.IndexFunc of tails: the first one of a file. -/
import Derived.Test.YtnimghkkhiacfaaDRead
namespace Go.Proofs.Ytnimghkkhiacfaa.P
open Go.RowKit Go.Proofs.YtnimghkkhiacfaaW.PrintWords Go.Proofs.YtnimghkkhiacfaaW.PrintLast Go.Proofs.YtnimghkkhiacfaaW.PrintMore
def idxP {α : Type} (p : α → Bool) (xs : List α) : Int := match xs.findIdx? p with | some i => (i : Int) | none => -1
theorem idxP_hit {α : Type} {p : α → Bool} {xs : List α} {k : Nat} (hk : k < xs.length) (h : ∀ j (hj : j < xs.length), j < k → p xs[j] = false) (ht : p xs[k] = true) : idxP p xs = k := by
  unfold idxP
  have : xs.findIdx? p = some k := by
    rw [List.findIdx?_eq_some_iff_getElem]
    exact ⟨hk, ht, fun j hj => by simpa using h j (by omega) hj⟩
  rw [this]
theorem idxP_none {α : Type} {p : α → Bool} {xs : List α} (h : ∀ j (hj : j < xs.length), p xs[j] = false) : idxP p xs = -1 := by
  unfold idxP
  have : xs.findIdx? p = none := by
    rw [List.findIdx?_eq_none_iff]
    intro x hx
    obtain ⟨j, hj, rfl⟩ := List.getElem_of_mem hx
    exact h j hj
  rw [this]
theorem rdT_nat (xs : List S33) {k : Nat} (hk : k < xs.length) : rd_T33 xs (k : Int) = xs[k] := by unfold rd_T33; simp [List.getD_eq_getElem?_getD, List.getElem?_eq_getElem hk]
theorem crash1_any (t : S33) (n : Int) (bN : Nat) (w : World) (hb : w.cell? ⟨bN, 0, none⟩ = some (.int .i64 n)) : Calls Try.prog 35 #[.agg #[.int .i64 t.f0, .int .i64 t.f1, .int .u8 t.f2], dptr bN] w fun e w' => e = .returned (.bool (decide (t.f0 = n))) ∧ Below w.heap.size w w' := by
  obtain ⟨w0, hw0⟩ : ∃ w0, w.alloc (.cells #[.int .i64 t.f0, .int .i64 t.f1, .int .u8 t.f2] 33) = w0 := ⟨_, rfl⟩
  have hb0 : Below w.heap.size w w0 := hw0 ▸ (Below.refl _ _).alloc (Nat.le_refl _) _
  have hB0 : Blk w0 w.heap.size 33 #[.int .i64 t.f0, .int .i64 t.f1, .int .u8 t.f2] := hw0 ▸ Blk.new w 33 _
  have hc0 : w0.cell? ⟨w.heap.size, 0, none⟩ = some (.int .i64 t.f0) := hB0.cell 0
  have hb1 := pw_cell_below hb0 hb
  clear hB0
  go_enter Try.func35, Try.ntmps35
  go_wp2
  go_ret
  exact ⟨rfl, hb0⟩
def idxT (n : Int) (l : List S33) : Int := idxP (fun t : S33 => decide (t.f0 = n)) l
theorem entersC : ∀ args w, (callFunc 35 args).run Try.prog w = .ok (.enter 35 args) w := enters_of Try.func35 (by kernel_rfl) rfl
theorem tailIdx_any (A : Option Addr) (c : Nat) (xs : List S33) (n : Int) (bN : Nat) (w : World) (hr : Kd.C k33 w A xs.length xs) (hb : w.cell? ⟨bN, 0, none⟩ = some (.int .i64 n)) :
    Calls Try.prog 34 #[.slice A xs.length c, .func (.func 35) #[] #[dptr bN]] w fun e w' => e = .returned (.int .i64 (idxT n xs)) ∧ Below w.heap.size w w' := by
  have hm := hr.2.1
  have HR := Lib.hid hr; clear hr
  have HP := Lib.hid (fun (W : World) (x : S33) (h : Below w.heap.size w W) => crash1_any x n bN W (pw_cell_below h hb)); clear hb
  have eg := entersC
  unfold idxT
  generalize hpp : (fun t : S33 => decide (t.f0 = n)) = p at *
  have HPP := Lib.hid (fun t => congrFun hpp t); clear hpp
  go_enter Try.func34, Try.ntmps34
  go_wp2
  go_loopw [5, 8] (fun _ i wr => ∃ k : Nat, i = .int .i64 k ∧ k ≤ xs.length ∧ Below w.heap.size w wr ∧ RowKit.Hid (∀ j (hj : j < xs.length), j < k → p xs[j] = false)) (fun _ i _ => xs.length - (intOf i).toNat)
  case atStart => exact ⟨0, rfl, Nat.zero_le _, Below.refl _ _, Lib.hid (fun j _ h => absurd h (Nat.not_lt_zero _))⟩
  case round =>
    obtain ⟨k, rfl, hk, hB, HN⟩ := hrel
    by_cases hlt : k < xs.length
    · obtain ⟨ad, rfl, hx0, hx1, hx2⟩ := at_T33 HR.out (k : Int) (by omega) (by omega)
      replace hx0 := pw_cell_below hB hx0
      replace hx1 := pw_cell_below hB hx1
      replace hx2 := pw_cell_below hB hx2
      rw [rdT_nat xs hlt] at hx0 hx1 hx2
      simp only [Int.toNat_natCast] at hx0 hx1 hx2
      have hc := HP.out wr xs[k] hB
      have hpk := HPP.out xs[k]
      generalize hu : xs[k] = u at *
      have HU := Lib.hid hu; clear hu
      rw [hpk] at hc
      clear hpk
      cases hq : p u with
      | true =>
        rw [hq] at hc
        have HQ := Lib.hid hq; clear hq
        go_wp2_with (go_at_fn 35; refine hc.mono ?_; rintro e w' ⟨rfl, hb⟩)
        go_ret
        refine ⟨?_, hB.trans (hb.mono hB.size)⟩
        rw [idxP_hit hlt HN.out (by rw [HU.out]; exact HQ.out)]
        rfl
      | false =>
        rw [hq] at hc
        have HQ := Lib.hid hq; clear hq
        go_wp2_with (go_at_fn 35; refine hc.mono ?_; rintro e w' ⟨rfl, hb⟩)
        go_roundw
        case rel => exact ⟨k + 1, by go_num, by omega, hB.trans (hb.mono hB.size), Lib.hid (fun j hj h => by
          by_cases e : j = k
          · subst e; rw [HU.out]; exact HQ.out
          · exact HN.out j hj (by omega))⟩
        case measure => simp [intOf]; omega
    · obtain rfl : k = xs.length := by omega
      go_wp2
      go_ret
      refine ⟨?_, hB⟩
      rw [idxP_none (fun j hj => HN.out j hj hj)]
      rfl
end Go.Proofs.Ytnimghkkhiacfaa.P
