/- Just so many operations are done: the walk of the statement. -/
import Derived.Test.YtnimghkkhiacfaaDLive
namespace Go.Proofs.Ytnimghkkhiacfaa.P
open Go.RowKit Go.Proofs.YtnimghkkhiacfaaW.PrintWords Go.Proofs.YtnimghkkhiacfaaW.PrintLast Go.Proofs.YtnimghkkhiacfaaW.PrintMore
/-- k bytes were added to file 1. -/
def FA (k : Nat) : Files := if k = 0 then fun _ => none else oneF' 1 [] (List.replicate k 97)
theorem FA_step (k : Nat) : upF (FA k) 1 (some ((getF (FA k) 1).1, (getF (FA k) 1).2 ++ [([97] : List Int)].flatten)) = FA (k + 1) := by
  unfold FA
  rw [if_neg (Nat.succ_ne_zero k)]
  by_cases h : k = 0
  · subst h
    rfl
  · rw [if_neg h, getF_one, upF_upF]
    simp [List.replicate_succ']
theorem FA_sum (k : Nat) : sumF (FA k) = k := by
  unfold FA
  by_cases h : k = 0
  · rw [if_pos h, sumF_none, h]
  · rw [if_neg h, sumF_one (by omega) (by omega)]; simp
theorem decL_pos {x : Int} (h : 0 < x) : decL x = x - 1 := if_pos h
def ArmA (w : World) (g mb : Nat) (n : Int) (kv : Value) (wr : World) : Prop := ∃ k : Nat, kv = .int .i64 k ∧ (k : Int) ≤ n ∧ Dr w wr g mb (FA k) 1000 (n - k) false k
def ArmB (w : World) (g mb : Nat) (n : Nat) (m : Int) (kv : Value) (wr : World) : Prop := ∃ k : Nat, kv = .int .i64 k ∧ (k : Int) ≤ m ∧ Dr w wr g mb (FA n) 1000 0 (decide (0 < k)) n
theorem turnP_len (xs : List Int) (t : Int) : (turnP xs t).length = xs.length := by
  unfold turnP
  split
  · rename_i h; rw [h]
  · rw [List.length_set]
theorem armed_tail {k : Nat} (hk : k ≤ 60) : (crashX (tailOf [(⟨1, 1000, 0⟩ : S33)] 1) ([], List.replicate k 97)).1.length = k := by
  have ht : tailOf [(⟨1, 1000, 0⟩ : S33)] 1 = ⟨1, 1000, 0⟩ := by kernel_rfl
  rw [ht]
  unfold crashX
  rw [List.nil_append, turnP_len, List.length_take]
  have hkeep : keepN ⟨1, 1000, 0⟩ (List.replicate k 97) = k := by
    unfold keepN keepI
    simp only [List.length_replicate]
    rw [if_pos (show (k : Int) < 1000 by omega)]
    split <;> omega
  simp [hkeep]
set_option maxHeartbeats 4000000 in
set_option maxRecDepth 100000 in
theorem drumArmed_any (n more : Int) (w : World) : Calls Try.prog 4 #[.int .i64 n, .int .i64 more] w fun e w' => e = .returned (.bool true) ∧ Below w.heap.size w w' := by
  by_cases hok : 0 ≤ n ∧ n ≤ 60 ∧ 1 ≤ more ∧ more ≤ 60
  · obtain ⟨a1, a2, a3, a4⟩ := hok
    have kc := fun (w : World) (C : Array Value) (n c g : Nat) (hg : g = w.heap.size) => Joins.run_convert_bytes_const_at (P := Try.prog) w 22 5 C n c g hg Try.underlying22 Try.underlying5
    have d1 : decide (n < 0) = false := decide_eq_false (by omega)
    have d2 : decide (60 < n) = false := decide_eq_false (by omega)
    have d3 : decide (more < 1) = false := decide_eq_false (by omega)
    have d4 : decide (60 < more) = false := decide_eq_false (by omega)
    go_enter Try.func4, Try.ntmps4
    go_wp2_with fail
    clear d1 d2 d3 d4
    refine (dr_new (Below.refl _ w) 1000 (by omega)).mono ?_
    rintro e w1 ⟨g, mb, rfl, h1⟩
    go_wp2_with fail
    refine (num_any 0 w1).mono ?_
    rintro e w2 ⟨rfl, hd2⟩
    have h2 := h1.below hd2.below
    clear h1 hd2
    go_wp2_with fail
    refine (h2.arm n).mono ?_
    rintro e w3 ⟨rfl, h3⟩
    clear h2
    go_wp2
    go_loopw [7] (fun kv wr => ArmA w g mb n kv wr) (fun k _ => n.toNat - (intOf k).toNat)
    case atStart => exact ⟨0, rfl, a1, by simpa [FA] using h3⟩
    case round =>
      clear h3
      obtain ⟨k, rfl, hk, h4⟩ := hrel
      by_cases hlt : (k : Int) < n
      · obtain ⟨w5, hw5⟩ : ∃ w5, (wr.alloc (.cells (nums .u8 [97]).toArray 5 (1, 2))).alloc (.cells #[.slice (some ⟨wr.heap.size, 0, none⟩) [97].length [97].length] 22) = w5 := ⟨_, rfl⟩
        obtain ⟨hF5, hb5⟩ := lit1 wr (1, 2) [97] (by decide) hw5
        have hw5' : (wr.alloc (.cells #[.int .u8 97] 5 (1, 2))).alloc (.cells #[.slice (some ⟨wr.heap.size, 0, none⟩) 1 1] 22) = w5 := hw5
        have hap := h4.append_ok hb5 (n := 1) (by omega) (by omega) (by omega) (by omega) (by omega) (by omega) (c := 1) hF5 (fun k hk => .inr hk) (by rw [FA_sum]; show k + 1 ≤ 1000; omega)
        rw [FA_step, decL_pos (by omega), show n - (k : Int) - 1 = n - ((k + 1 : Nat) : Int) by omega, show (k : Int) + 1 = ((k + 1 : Nat) : Int) by omega] at hap
        have hap : Calls Try.prog 11 #[dptr g, .int .i64 1, .slice (some ⟨wr.heap.size + 1, 0, none⟩) 1 1] w5 fun e w' => e = .returned (.int .i64 0) ∧ Dr w w' g mb (FA (k + 1)) 1000 (n - ((k + 1 : Nat) : Int)) false ((k + 1 : Nat) : Int) := hap
        have HAP := Lib.hid hap
        clear hap hF5 hw5
        go_wp2_with fail
        refine HAP.out.mono ?_
        rintro e w6 ⟨rfl, h6⟩
        clear HAP hw5' hb5 h4
        go_wp2_with fail
        refine (num_any 0 w6).mono ?_
        rintro e w7 ⟨rfl, hd7⟩
        have h7 := h6.below hd7.below
        clear h6 hd7
        go_wp2_with fail
        go_roundw
        case rel => exact ⟨k + 1, by go_num, by omega, h7⟩
        case measure => simp [intOf]; omega
      · obtain rfl : n = k := by omega
        rw [Int.sub_self] at h4
        go_wp2
        go_loopw [8] (fun kv wr => ArmB w g mb k more kv wr) (fun k _ => more.toNat - (intOf k).toNat)
        case atStart => exact ⟨0, rfl, by omega, h4⟩
        case round =>
          clear h4
          obtain ⟨j, rfl, hj, h5⟩ := hrel
          by_cases hlt2 : (j : Int) < more
          · obtain ⟨w5, hw5⟩ : ∃ w5, (wr.alloc (.cells #[.int .u8 98] 5 (1, 2))).alloc (.cells #[.slice (some ⟨wr.heap.size, 0, none⟩) 1 1] 22) = w5 := ⟨_, rfl⟩
            have hb5 : Below wr.heap.size wr w5 := hw5 ▸ ((Below.refl _ _).alloc (Nat.le_refl _) _).alloc (by simp) _
            have h6 := h5.below hb5
            clear h5 hb5
            generalize decide (0 < j) = dd at *
            go_wp2_with fail
            refine (h6.append_dead (n := 1) (by omega) (.inr rfl)).mono ?_
            rintro e w6 ⟨rfl, h7⟩
            clear h6 hw5
            go_wp2_with fail
            refine (num_any 140 w6).mono ?_
            rintro e w7 ⟨rfl, hd7⟩
            have h8 := h7.below hd7.below
            clear h7 hd7
            go_wp2_with fail
            refine (h8.sync_dead (n := 1) (by omega) (.inl rfl)).mono ?_
            rintro e w8 ⟨rfl, h9⟩
            clear h8
            go_wp2_with fail
            refine (num_any 140 w8).mono ?_
            rintro e w9 ⟨rfl, hd9⟩
            have h10 := h9.below hd9.below
            clear h9 hd9
            go_wp2_with fail
            refine h10.isDead.mono ?_
            rintro e w10 ⟨rfl, rfl⟩
            go_wp2_with fail
            go_roundw
            case rel => exact ⟨j + 1, by go_num, by omega, by rw [decide_eq_true (Nat.succ_pos j)]; exact h10⟩
            case measure => simp [intOf]; omega
          · obtain rfl : more = j := by omega
            generalize decide (0 < j) = dd at *
            obtain ⟨w11, hw11⟩ : ∃ w11, wr.alloc (.cells #[.int .i64 1, .int .i64 1000, .int .u8 0] 33) = w11 := ⟨_, rfl⟩
            have hb11 : Below wr.heap.size wr w11 := hw11 ▸ (Below.refl _ _).alloc (Nat.le_refl _) _
            have hB11 : Blk w11 wr.heap.size 33 #[.int .i64 1, .int .i64 1000, .int .u8 0] := hw11 ▸ Blk.new wr 33 _
            have hF11 : Kd.F k33 w11 (fun k => wr.heap.size ≤ k) (some ⟨wr.heap.size, 0, none⟩) [(⟨1, 1000, 0⟩ : S33)].length [⟨1, 1000, 0⟩] := F_tails hB11 (Nat.le_refl _) (by show 1 ≤ _; omega) fun j x hj => by
              rcases j with _ | j
              · simp only [List.getElem?_cons_zero, Option.some.injEq] at hj
                subst hj
                exact ⟨rfl, rfl, rfl⟩
              · simp at hj
            have hcr := h5.crash hb11 (c := 1) hF11 (fun k hk => .inr hk)
            have hcr : Calls Try.prog 13 #[dptr g, .slice (some ⟨wr.heap.size, 0, none⟩) 1 1] w11 _ := hcr
            have HCR := Lib.hid hcr
            clear hcr hF11 hB11
            go_wp2_with fail
            refine HCR.out.mono ?_
            rintro e w12 ⟨rfl, h12⟩
            clear HCR hb11 hw11 h5
            by_cases hk0 : k = 0
            · subst hk0
              have e0 : crashF [(⟨1, 1000, 0⟩ : S33)] (FA 0) = fun _ => none := rfl
              rw [e0] at h12
              go_wp2_with fail
              refine (h12.read_none (n := 1) (by omega) rfl).mono ?_
              rintro e w13 ⟨rfl, rfl⟩
              go_wp2_with fail
              refine (num_any 7 w13).mono ?_
              rintro e w14 ⟨rfl, hd14⟩
              have h14 := h12.below hd14.below
              go_wp2_with fail
              refine h14.isDead.mono ?_
              rintro e w15 ⟨rfl, rfl⟩
              go_wp2_with fail
              refine (live14_any _).mono ?_
              rintro e w16 ⟨rfl, hb16⟩
              go_wp2_with fail
              go_ret
              exact ⟨rfl, h14.1.trans (hb16.mono h14.1.size)⟩
            · have e1 : FA k = oneF' 1 [] (List.replicate k 97) := if_neg hk0
              rw [e1, crashF_one] at h12
              have hX := armed_tail (k := k) (by omega)
              generalize (crashX (tailOf [(⟨1, 1000, 0⟩ : S33)] 1) ([], List.replicate k 97)).1 = X at *
              have d5 : decide ((k : Int) = 0) = false := decide_eq_false (by omega)
              go_wp2_with fail
              refine (h12.read_ok (n := 1) (by omega) (upF_same _ _ _)).mono ?_
              rintro e w13 ⟨v, rfl, hv, hb13, h13⟩
              rw [List.append_nil] at hv
              obtain ⟨A13, c13, rfl, _⟩ := own_reads hv
              rw [hX]
              clear hv h12 hb13
              go_wp2_with fail
              refine (num_any 0 w13).mono ?_
              rintro e w14 ⟨rfl, hd14⟩
              have h14 := h13.below hd14.below
              clear h13 hd14
              go_wp2_with fail
              refine h14.ops_.mono ?_
              rintro e w15 ⟨rfl, rfl⟩
              obtain ⟨w16, hw16⟩ : ∃ w16, (w15.alloc (.cells (nums .u8 [99]).toArray 5 (1, 2))).alloc (.cells #[.slice (some ⟨w15.heap.size, 0, none⟩) [99].length [99].length] 22) = w16 := ⟨_, rfl⟩
              obtain ⟨hF16, hb16⟩ := lit1 w15 (1, 2) [99] (by decide) hw16
              have hw16' : (w15.alloc (.cells #[.int .u8 99] 5 (1, 2))).alloc (.cells #[.slice (some ⟨w15.heap.size, 0, none⟩) 1 1] 22) = w16 := hw16
              have hap := h14.append_ok hb16 (n := 1) (by omega) (by omega) (by omega) (by omega) (by omega) (by omega) (c := 1) hF16 (fun k hk => .inr hk) (by rw [sumF_one (by omega) (by omega), hX]; show k + 0 + 1 ≤ 1000; omega)
              have hap : Calls Try.prog 11 #[dptr g, .int .i64 1, .slice (some ⟨w15.heap.size + 1, 0, none⟩) 1 1] w16 _ := hap
              have HAP := Lib.hid hap
              clear hap hF16 hw16
              go_wp2_with fail
              refine HAP.out.mono ?_
              rintro e w17 ⟨rfl, h17⟩
              clear HAP hw16' hb16 h14
              go_wp2_with fail
              refine (num_any 0 w17).mono ?_
              rintro e w18 ⟨rfl, hd18⟩
              have h18 := h17.1.trans (hd18.below.mono h17.1.size)
              clear h17 hd18
              go_wp2_with fail
              refine (live14_any _).mono ?_
              rintro e w19 ⟨rfl, hb19⟩
              go_wp2_with fail
              go_ret
              exact ⟨rfl, h18.trans (hb19.mono h18.size)⟩
  · go_enter Try.func4, Try.ntmps4
    by_cases b1 : n < 0
    · have d1 : decide (n < 0) = true := decide_eq_true b1
      go_wp2_with fail
      refine (live14_any _).mono ?_
      rintro e w2 ⟨rfl, hb2⟩
      go_wp2_with fail
      go_ret
      exact ⟨rfl, hb2⟩
    · have d1 : decide (n < 0) = false := decide_eq_false b1
      by_cases b2 : 60 < n
      · have d2 : decide (60 < n) = true := decide_eq_true b2
        go_wp2_with fail
        refine (live14_any _).mono ?_
        rintro e w2 ⟨rfl, hb2⟩
        go_wp2_with fail
        go_ret
        exact ⟨rfl, hb2⟩
      · have d2 : decide (60 < n) = false := decide_eq_false b2
        by_cases b3 : more < 1
        · have d3 : decide (more < 1) = true := decide_eq_true b3
          go_wp2_with fail
          refine (live14_any _).mono ?_
          rintro e w2 ⟨rfl, hb2⟩
          go_wp2_with fail
          go_ret
          exact ⟨rfl, hb2⟩
        · have d3 : decide (more < 1) = false := decide_eq_false b3
          have d4 : decide (60 < more) = true := decide_eq_true (by omega)
          go_wp2_with fail
          refine (live14_any _).mono ?_
          rintro e w2 ⟨rfl, hb2⟩
          go_wp2_with fail
          go_ret
          exact ⟨rfl, hb2⟩
end Go.Proofs.Ytnimghkkhiacfaa.P
