/- Two quorums meet: the walk of the statement. -/
import Derived.Test.YtmljpidhhiineaaPLaw
namespace Go.Proofs.Ytmljpidhhiineaa.P
open Go.RowKit Go.Proofs.YtmljpidhhiineaaW.PrintWords Go.Proofs.YtmljpidhhiineaaW.PrintLast
/-- whether a topology is right. -/
theorem right_any (A : Option Addr) (c : Nat) (l : List S40) (w : World) (hC : Kd.C k40 w A l.length l) (hc : l.length ≤ c) (hl : ∀ s ∈ l, s.f1.length ≤ 9223372036854775807) : Calls Try.prog 9 #[.slice A l.length c] w fun e w' => ∃ b : Bool, e = .returned (.bool b) ∧ (b = true → Good l) ∧ Below w.heap.size w w' := by
  obtain ⟨k, b, hb, hg⟩ := right_f l hC.2.1 hl
  exact (folkmootlaw05_right.calls k A c l b w hC hc hb).mono fun e w' h => ⟨b, h.1, hg, h.2⟩
def MeetA (w : World) (g mb g' mb' : Nat) (shs : List S40) (all a N' : List Int) (kv : Value) (wr : World) : Prop :=
  ∃ k : Nat, kv = .int .i64 k ∧ k ≤ a.length ∧ Two w wr g mb g' mb' shs all (addsP all [] (a.take k)) shs all N'
def MeetB (w : World) (g mb g' mb' : Nat) (shs : List S40) (all N b : List Int) (kv : Value) (wr : World) : Prop :=
  ∃ k : Nat, kv = .int .i64 k ∧ k ≤ b.length ∧ Two w wr g mb g' mb' shs all N shs all (addsP all [] (b.take k))
def bothP (N1 N2 ns : List Int) : Bool := ns.any fun x => decide (x ∈ N1) && decide (x ∈ N2)
theorem bothP_snoc (N1 N2 ns : List Int) (x : Int) : bothP N1 N2 (ns ++ [x]) = (bothP N1 N2 ns || (decide (x ∈ N1) && decide (x ∈ N2))) := by
  unfold bothP
  rw [List.any_append]
  simp
def MeetC (w6 : World) (n : Nat) (kv wv : Value) (wr : World) : Prop := ∃ k : Nat, kv = .int .i64 k ∧ k ≤ n ∧ wr = w6
def MeetD (w6 : World) (N1 N2 ns : List Int) (bv jv : Value) (wr : World) : Prop := ∃ j : Nat, bv = .bool (bothP N1 N2 (ns.take j)) ∧ jv = .int .i64 j ∧ j ≤ ns.length ∧ wr = w6
set_option maxHeartbeats 8000000 in
set_option maxRecDepth 100000 in
theorem tallyMeet_any (A : Option Addr) (c : Nat) (l : List S40) (B : Option Addr) (d : Nat) (sh : List Int) (A1 : Option Addr) (c1 : Nat) (a : List Int) (A2 : Option Addr) (c2 : Nat) (b : List Int) (w : World)
    (hL : Kd.C k40 w A l.length l) (hc : l.length ≤ c) (hlen : ∀ s ∈ l, s.f1.length ≤ 9223372036854775807) (hS : Kd.C (Kd.int .i64) w B sh.length sh) (hA : Kd.C (Kd.int .i64) w A1 a.length a) (hAw : ∀ x ∈ a, wfI x) (hB : Kd.C (Kd.int .i64) w A2 b.length b) (hBw : ∀ x ∈ b, wfI x) :
    Calls Try.prog 4 #[.slice A l.length c, .slice B sh.length d, .slice A1 a.length c1, .slice A2 b.length c2] w fun e w' => e = .returned (.bool true) ∧ Below w.heap.size w w' := by
  have hm0 := hL.2.1; have hm1 := hS.2.1; have hm2 := hA.2.1; have hm3 := hB.2.1
  have HR := Lib.hid (right_any A c l w hL hc hlen)
  have HL := Lib.hid hL; have HS := Lib.hid hS; have HA := Lib.hid hA; have HB := Lib.hid hB; have HAW := Lib.hid hAw; have HBW := Lib.hid hBw
  clear hL hS hA hB hAw hBw hlen
  go_enter Try.func4, Try.ntmps4
  go_wp2_with fail
  refine HR.out.mono ?_
  rintro e w1 ⟨r, rfl, hgood, hb1⟩
  cases r with
  | false =>
    go_wp2_with fail
    refine (live_any _).mono ?_
    rintro e w2 ⟨rfl, hb2⟩
    go_wp2_with fail
    go_ret
    exact ⟨rfl, below_then hb1 hb1.size hb2⟩
  | true =>
    have HG := Lib.hid (hgood rfl); clear hgood
    by_cases h1 : sh.length ≤ 40
    · by_cases h2 : a.length ≤ 40
      · by_cases h3 : b.length ≤ 40
        · have d1 : decide (40 < (sh.length : Int)) = false := decide_eq_false (by omega)
          have d2 : decide (40 < (a.length : Int)) = false := decide_eq_false (by omega)
          have d3 : decide (40 < (b.length : Int)) = false := decide_eq_false (by omega)
          go_wp2_with fail
          clear d1 d2 d3
          refine (one_new HL.out hb1 (Kd.C_below HS.out hb1) (by omega)).mono ?_
          rintro e w2 ⟨g, mb, rfl, hx⟩
          go_wp2_with fail
          refine (two_new hx HL.out (Kd.C_below HS.out hx.1) (by omega)).mono ?_
          rintro e w3 ⟨g', mb', rfl, hxy⟩
          clear hx hb1
          have HG2 := Lib.hid (good2 HG.out sh)
          have HAP := Lib.hid (all_pick l sh)
          generalize pickS l (sortC sh) = shs at *
          generalize nodesP l sh = al at *
          go_wp2
          go_loopw [11] (fun kv wr => MeetA w g mb g' mb' shs al a [] kv wr) (fun k _ => a.length - (intOf k).toNat)
          case atStart => exact ⟨0, rfl, Nat.zero_le _, hxy⟩
          case round =>
            clear hxy
            obtain ⟨k, rfl, hk, hT⟩ := hrel
            have hbw := hT.1
            by_cases hlt : k < a.length
            · obtain ⟨ac, rfl, hck⟩ := Kd.at_int (Kd.C_below HA.out hbw) (k : Int) (by omega) (by omega)
              rw [rd_nat a hlt] at hck
              simp only [Int.toNat_natCast] at hck
              have hxw := HAW.out _ (List.getElem_mem hlt)
              have hsn := addsP_snoc al [] (a.take k) a[k]
              rw [← take_snocI a hlt] at hsn
              have hpl := addsP_len al (a.take k) []
              rw [List.length_take] at hpl
              simp only [List.length_nil, Nat.zero_add] at hpl
              generalize a[k] = u at *
              have HSN := Lib.hid hsn; clear hsn
              generalize addsP al [] (a.take k) = N1 at *
              go_wp2_with fail
              refine (hT.add1 hxw (by omega)).mono ?_
              rintro e w4 ⟨rfl, hT4⟩
              go_wp2_with fail
              go_roundw
              case rel => exact ⟨k + 1, by go_num, by omega, by rw [HSN.out]; exact hT4⟩
              case measure => simp [intOf]; omega
            · obtain rfl : k = a.length := by omega
              rw [List.take_length] at hT
              generalize hN1 : addsP al [] a = N1 at *
              have HN1 := Lib.hid hN1; clear hN1
              go_wp2
              go_loopw [12] (fun kv wr => MeetB w g mb g' mb' shs al N1 b kv wr) (fun k _ => b.length - (intOf k).toNat)
              case atStart => exact ⟨0, rfl, Nat.zero_le _, hT⟩
              case round =>
                clear hT hbw
                obtain ⟨k, rfl, hk, hT⟩ := hrel
                have hbw := hT.1
                by_cases hlt : k < b.length
                · obtain ⟨ac, rfl, hck⟩ := Kd.at_int (Kd.C_below HB.out hbw) (k : Int) (by omega) (by omega)
                  rw [rd_nat b hlt] at hck
                  simp only [Int.toNat_natCast] at hck
                  have hxw := HBW.out _ (List.getElem_mem hlt)
                  have hsn := addsP_snoc al [] (b.take k) b[k]
                  rw [← take_snocI b hlt] at hsn
                  have hpl := addsP_len al (b.take k) []
                  rw [List.length_take] at hpl
                  simp only [List.length_nil, Nat.zero_add] at hpl
                  generalize b[k] = u at *
                  have HSN := Lib.hid hsn; clear hsn
                  generalize addsP al [] (b.take k) = N2 at *
                  go_wp2_with fail
                  refine (hT.add2 hxw (by omega)).mono ?_
                  rintro e w4 ⟨rfl, hT4⟩
                  go_wp2_with fail
                  go_roundw
                  case rel => exact ⟨k + 1, by go_num, by omega, by rw [HSN.out]; exact hT4⟩
                  case measure => simp [intOf]; omega
                · obtain rfl : k = b.length := by omega
                  rw [List.take_length] at hT
                  generalize hN2 : addsP al [] b = N2 at *
                  have HN2 := Lib.hid hN2; clear hN2
                  have hq1 := hT.x.quorum HG2.out
                  cases hQ1 : shs.all (enoughB enQ N1) with
                  | false =>
                    rw [hQ1] at hq1
                    go_wp2_with fail
                    refine hq1.mono ?_
                    rintro e w5 ⟨rfl, hb5⟩
                    have hb5w := below_then hbw hbw.size hb5
                    go_wp2_with fail
                    refine (live_any _).mono ?_
                    rintro e w6 ⟨rfl, hb6⟩
                    go_wp2_with fail
                    go_ret
                    exact ⟨rfl, below_then hb5w hb5w.size hb6⟩
                  | true =>
                    rw [hQ1] at hq1
                    have HQ1 := Lib.hid hQ1; clear hQ1
                    go_wp2_with fail
                    refine hq1.mono ?_
                    rintro e w5 ⟨rfl, hb5⟩
                    clear hq1
                    have hT5 := hT.below hb5
                    have hb5w := below_then hbw hbw.size hb5
                    have hq2 := hT5.y.quorum HG2.out
                    clear hT hb5 hbw
                    cases hQ2 : shs.all (enoughB enQ N2) with
                    | false =>
                      rw [hQ2] at hq2
                      go_wp2_with fail
                      refine hq2.mono ?_
                      rintro e w6 ⟨rfl, hb6⟩
                      have hb6w := below_then hb5w hb5w.size hb6
                      go_wp2_with fail
                      refine (live_any _).mono ?_
                      rintro e w7 ⟨rfl, hb7⟩
                      go_wp2_with fail
                      go_ret
                      exact ⟨rfl, below_then hb6w hb6w.size hb7⟩
                    | true =>
                      rw [hQ2] at hq2
                      have HQ2 := Lib.hid hQ2; clear hQ2
                      go_wp2_with fail
                      refine hq2.mono ?_
                      rintro e w6 ⟨rfl, hb6⟩
                      have hT6 := hT5.below hb6
                      have hb6w := below_then hb5w hb5w.size hb6
                      clear hT5 hb6 hb5w hq2
                      have HT6 := Lib.hid hT6; clear hT6
                      go_wp2
                      go_loopw [13, 14, 15, 16] (fun kv _ _ _ wr => ∃ k : Nat, kv = .int .i64 k ∧ k ≤ sh.length ∧ wr = w6) (fun k _ _ _ _ => sh.length - (intOf k).toNat)
                      case atStart => exact ⟨0, rfl, Nat.zero_le _, rfl⟩
                      case round =>
                        obtain ⟨k, rfl, hk, rfl⟩ := hrel
                        by_cases hlt : k < sh.length
                        · obtain ⟨ac, rfl, hck⟩ := Kd.at_int (Kd.C_below HS.out hb6w) (k : Int) (by omega) (by omega)
                          rw [rd_nat sh hlt] at hck
                          simp only [Int.toNat_natCast] at hck
                          have him := List.getElem_mem hlt
                          generalize sh[k] = i at *
                          have HIM := Lib.hid him; clear him
                          by_cases hi0 : 0 ≤ i
                          · by_cases hi1 : i < l.length
                            · obtain ⟨ad, A3, c3, rfl, hx0, hx1, hx2, hl3, hi3⟩ := at_T40 (Kd.C_below HL.out hb6w) i hi0 hi1
                              have hgs := HG.out.s hi0 hi1
                              have he1 := (HAP.out (enoughB enQ N1)).1 HQ1.out i HIM.out hi0 hi1
                              have he2 := (HAP.out (enoughB enQ N2)).1 HQ2.out i HIM.out hi0 hi1
                              have hbt : bothP N1 N2 (Go.Proofs.Ytmljpidhhiineaa.P.rd_T40 l i).f1 = true := by
                                rw [enough_cnt] at he1 he2
                                have h1 := of_decide_eq_true he1
                                have h2 := of_decide_eq_true he2
                                unfold enQ at h1 h2
                                obtain ⟨x, hx, h3, h4⟩ := cnt_meet (N := N1) (N' := N2) (ns := (Go.Proofs.Ytmljpidhhiineaa.P.rd_T40 l i).f1) (by omega)
                                exact List.any_eq_true.2 ⟨x, hx, by simp [h3, h4]⟩
                              have hnw : ∀ x ∈ (Go.Proofs.Ytmljpidhhiineaa.P.rd_T40 l i).f1, wfI x := fun x hx => wf_small (by have := (hgs.range x hx).1; omega) (by have := (hgs.range x hx).2; omega)
                              have hns8 := HG.out.flen (rd_mem l i hi0 hi1)
                              clear hx0 hx1 hgs he1 he2
                              generalize (Go.Proofs.Ytmljpidhhiineaa.P.rd_T40 l i).f1 = ns at *
                              obtain ⟨q, rfl⟩ := Int.eq_ofNat_of_zero_le hi0
                              simp only [Int.toNat_natCast] at hx2
                              have d4 : decide ((q : Int) < 0) = false := decide_eq_false (by omega)
                              have d5 : decide (l.length ≤ q) = false := decide_eq_false (by omega)
                              have d6 : decide ((l.length : Int) ≤ (q : Int)) = false := decide_eq_false (by omega)
                              have HBT := Lib.hid hbt; have HI3 := Lib.hid hi3; have HNW := Lib.hid hnw
                              clear hbt hi3 hnw
                              go_wp2
                              go_loopw [15, 16] (fun bv jv wr2 => MeetD wr N1 N2 ns bv jv wr2) (fun _ j _ => ns.length - (intOf j).toNat)
                              case atStart => exact ⟨0, rfl, rfl, Nat.zero_le _, rfl⟩
                              case round =>
                                obtain ⟨j, rfl, rfl, hj, rfl⟩ := hrel
                                by_cases hlt2 : j < ns.length
                                · obtain ⟨ac3, rfl, hck3⟩ := Kd.at_int HI3.out (j : Int) (by omega) (by omega)
                                  rw [rd_nat ns hlt2] at hck3
                                  simp only [Int.toNat_natCast] at hck3
                                  have hsn := bothP_snoc N1 N2 (ns.take j) ns[j]
                                  rw [← take_snocI ns hlt2] at hsn
                                  have hxw := HNW.out _ (List.getElem_mem hlt2)
                                  generalize ns[j] = x at *
                                  have hh1 := HT6.out.x.has hxw
                                  have hh2 := HT6.out.y.has hxw
                                  generalize bothP N1 N2 (ns.take j) = bo at *
                                  generalize decide (x ∈ N1) = r1 at *
                                  generalize decide (x ∈ N2) = r2 at *
                                  have HSN := Lib.hid hsn; clear hsn
                                  cases bo with
                                  | true =>
                                    go_wp2
                                    go_roundw
                                    case rel => exact ⟨j + 1, by rw [HSN.out]; rfl, by go_num, by omega, rfl⟩
                                    case measure => simp [intOf]; omega
                                  | false =>
                                    cases r1 with
                                    | false =>
                                      go_wp2_with fail
                                      refine hh1.mono ?_
                                      rintro e w' ⟨rfl, rfl⟩
                                      go_wp2_with fail
                                      go_roundw
                                      case rel => first | exact ⟨j + 1, by rw [HSN.out]; rfl, by go_num, by omega, rfl⟩ | exact ⟨_, _, _, _, _, _, _, _, _, _, _, _, _, _, _, _, _, _, _, _, _, _, _, _, _, ⟨j + 1, by rw [HSN.out]; rfl, by go_num, by omega, rfl⟩, rfl⟩ | (set_option pp.deepTerms true in trace_state)
                                      case measure => simp [intOf]; omega
                                    | true =>
                                      go_wp2_with fail
                                      refine hh1.mono ?_
                                      rintro e w' ⟨rfl, rfl⟩
                                      go_wp2_with fail
                                      refine hh2.mono ?_
                                      rintro e w' ⟨rfl, rfl⟩
                                      go_wp2_with fail
                                      go_roundw
                                      case rel => first | exact ⟨j + 1, by rw [HSN.out]; rfl, by go_num, by omega, rfl⟩ | exact ⟨_, _, _, _, _, _, _, _, _, _, _, _, _, _, _, _, _, _, _, _, _, _, _, _, _, ⟨j + 1, by rw [HSN.out]; rfl, by go_num, by omega, rfl⟩, rfl⟩ | (set_option pp.deepTerms true in trace_state)
                                      case measure => simp [intOf]; omega
                                · obtain rfl : j = ns.length := by omega
                                  rw [List.take_length, HBT.out]
                                  go_wp2
                                  go_roundw
                                  case rel => exact ⟨k + 1, by go_num, by omega, by first | rfl | trivial⟩
                                  case measure => simp [intOf]; omega
                            · have hi2 : ¬ i < 0 := by omega
                              go_wp2
                              go_roundw
                              case rel => exact ⟨k + 1, by go_num, by omega, by first | rfl | trivial⟩
                              case measure => simp [intOf]; omega
                          · have hi2 : i < 0 := by omega
                            clear hi0
                            go_wp2
                            go_roundw
                            case rel => exact ⟨k + 1, by go_num, by omega, by first | rfl | trivial⟩
                            case measure => simp [intOf]; omega
                        · have he := HT6.out.x.each HG2.out
                          have hev : shs.all (enoughB enE N1) = true := by
                            refine (HAP.out _).2 fun i hi h0 h1 => ?_
                            have he1 := (HAP.out (enoughB enQ N1)).1 HQ1.out i hi h0 h1
                            rw [enough_cnt] at he1 ⊢
                            have h1 := of_decide_eq_true he1
                            unfold enQ at h1
                            unfold enE
                            exact decide_eq_true (by omega)
                          rw [hev] at he
                          go_wp2_with fail
                          refine he.mono ?_
                          rintro e w7 ⟨rfl, hb7⟩
                          have hb7w := below_then hb6w hb6w.size hb7
                          go_wp2_with fail
                          refine (live_any _).mono ?_
                          rintro e w8 ⟨rfl, hb8⟩
                          go_wp2_with fail
                          go_ret
                          exact ⟨rfl, below_then hb7w hb7w.size hb8⟩
        · go_wp2_with fail
          refine (live_any _).mono ?_
          rintro e w2 ⟨rfl, hb2⟩
          go_wp2_with fail
          go_ret
          exact ⟨rfl, below_then hb1 hb1.size hb2⟩
      · go_wp2_with fail
        refine (live_any _).mono ?_
        rintro e w2 ⟨rfl, hb2⟩
        go_wp2_with fail
        go_ret
        exact ⟨rfl, below_then hb1 hb1.size hb2⟩
    · go_wp2_with fail
      refine (live_any _).mono ?_
      rintro e w2 ⟨rfl, hb2⟩
      go_wp2_with fail
      go_ret
      exact ⟨rfl, below_then hb1 hb1.size hb2⟩
end Go.Proofs.Ytmljpidhhiineaa.P
