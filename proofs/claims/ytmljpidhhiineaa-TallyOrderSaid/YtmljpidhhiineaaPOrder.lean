/- The order of answers has no part: the walk of the statement. -/
import Derived.Test.YtmljpidhhiineaaPLawB
import Derived.Test.YtmljpidhhiineaaPMeet
namespace Go.Proofs.Ytmljpidhhiineaa.P
open Go.RowKit Go.Proofs.YtmljpidhhiineaaW.PrintWords Go.Proofs.YtmljpidhhiineaaW.PrintLast
def OrdRel (w : World) (g mb g' mb' : Nat) (shs : List S40) (al a : List Int) (qv av kv : Value) (wr : World) : Prop :=
  ∃ k : Nat, qv = .bool (shs.all (enoughB enQ (addsP al [] (a.take k)))) ∧ av = .bool (shs.all (enoughB enA (addsP al [] (a.take k)))) ∧ kv = .int .i64 k ∧ k ≤ a.length ∧ Two w wr g mb g' mb' shs al (addsP al [] (a.take k)) shs al (addsP al [] (a.reverse.take k))
set_option maxHeartbeats 8000000 in
set_option maxRecDepth 100000 in
theorem tallyOrder_any (A : Option Addr) (c : Nat) (l : List S40) (B : Option Addr) (d : Nat) (sh : List Int) (A1 : Option Addr) (c1 : Nat) (a : List Int) (w : World)
    (hL : Kd.C k40 w A l.length l) (hc : l.length ≤ c) (hlen : ∀ s ∈ l, s.f1.length ≤ 9223372036854775807) (hS : Kd.C (Kd.int .i64) w B sh.length sh) (hA : Kd.C (Kd.int .i64) w A1 a.length a) (hAw : ∀ x ∈ a, wfI x) :
    Calls Try.prog 5 #[.slice A l.length c, .slice B sh.length d, .slice A1 a.length c1] w fun e w' => e = .returned (.bool true) ∧ Below w.heap.size w w' := by
  have hm0 := hL.2.1; have hm1 := hS.2.1; have hm2 := hA.2.1
  have HR := Lib.hid (right_any A c l w hL hc hlen)
  have HL := Lib.hid hL; have HS := Lib.hid hS; have HA := Lib.hid hA; have HAW := Lib.hid hAw
  clear hL hS hA hAw hlen
  go_enter Try.func5, Try.ntmps5
  go_wp2_with fail
  refine HR.out.mono ?_
  rintro e w1 ⟨r, rfl, hgood, hb1⟩
  cases r with
  | false =>
    go_wp2_with fail
    refine (live_any _).mono ?_
    rintro e w2 ⟨rfl, hb2⟩
    go_wp2_with fail
    go_ret
    exact ⟨rfl, below_then hb1 hb1.size hb2⟩
  | true =>
    have HG := Lib.hid (hgood rfl); clear hgood
    by_cases h1 : sh.length ≤ 40
    · by_cases h2 : a.length ≤ 40
      · have d1 : decide (40 < (sh.length : Int)) = false := decide_eq_false (by omega)
        have d2 : decide (40 < (a.length : Int)) = false := decide_eq_false (by omega)
        go_wp2_with fail
        clear d1 d2
        refine (one_new HL.out hb1 (Kd.C_below HS.out hb1) (by omega)).mono ?_
        rintro e w2 ⟨g, mb, rfl, hx⟩
        go_wp2_with fail
        refine (two_new hx HL.out (Kd.C_below HS.out hx.1) (by omega)).mono ?_
        rintro e w3 ⟨g', mb', rfl, hxy⟩
        clear hx hb1
        have HG2 := Lib.hid (good2 HG.out sh)
        have HNE := Lib.hid (pick_ne HG.out sh)
        have HCG := Lib.hid (fun en {N N'} => @enough_congr l sh en N N')
        generalize pickS l (sortC sh) = shs at *
        generalize nodesP l sh = al at *
        have hQ0 : ∀ (W : World) (N N' : List Int), Two w W g mb g' mb' shs al N shs al N' → Calls Try.prog 13 #[.pointer (some ⟨g, 0, none⟩)] W fun e w' => e = .returned (.bool (shs.all (enoughB enQ N))) ∧ Two w w' g mb g' mb' shs al N shs al N' := fun W N N' h =>
          (h.x.quorum HG2.out).mono fun e w' ⟨he, hb⟩ => ⟨he, h.below hb⟩
        have hA0 : ∀ (W : World) (N N' : List Int), Two w W g mb g' mb' shs al N shs al N' → Calls Try.prog 15 #[.pointer (some ⟨g, 0, none⟩)] W fun e w' => e = .returned (.bool (shs.all (enoughB enA N))) ∧ Two w w' g mb g' mb' shs al N shs al N' := fun W N N' h =>
          (h.x.every HG2.out).mono fun e w' ⟨he, hb⟩ => ⟨he, h.below hb⟩
        have hE0 : ∀ (W : World) (N N' : List Int), Two w W g mb g' mb' shs al N shs al N' → Calls Try.prog 17 #[.pointer (some ⟨g, 0, none⟩)] W fun e w' => e = .returned (.bool (shs.all (enoughB enE N))) ∧ Two w w' g mb g' mb' shs al N shs al N' := fun W N N' h =>
          (h.x.each HG2.out).mono fun e w' ⟨he, hb⟩ => ⟨he, h.below hb⟩
        have HQ0 := Lib.hid hQ0; have HA0 := Lib.hid hA0; have HE0 := Lib.hid hE0
        clear hQ0 hA0 hE0
        go_wp2_with fail
        refine (HQ0.out _ _ _ hxy).mono ?_
        rintro e w4 ⟨rfl, hT4⟩
        go_wp2_with fail
        refine (HA0.out _ _ _ hT4).mono ?_
        rintro e w5 ⟨rfl, hT5⟩
        clear hxy hT4
        go_wp2
        go_loopw [9, 10, 11] (fun qv av kv wr => OrdRel w g mb g' mb' shs al a qv av kv wr) (fun _ _ k _ => a.length - (intOf k).toNat)
        case atStart => exact ⟨0, rfl, rfl, rfl, Nat.zero_le _, hT5⟩
        case round =>
          clear hT5
          obtain ⟨k, rfl, rfl, rfl, hk, hT⟩ := hrel
          have hbw := hT.1
          by_cases hlt : k < a.length
          · have hrl : k < a.reverse.length := by simpa using hlt
            obtain ⟨ac, rfl, hck⟩ := Kd.at_int (Kd.C_below HA.out hbw) (k : Int) (by omega) (by omega)
            obtain ⟨ac', e', hck2⟩ := Kd.at_int HA.out ((a.length : Int) - 1 - k) (by omega) (by omega)
            injection e' with e'
            subst e'
            rw [rd_nat a hlt] at hck
            simp only [Int.toNat_natCast] at hck
            have hrd : rd a ((a.length : Int) - 1 - k) = a.reverse[k] := by
              rw [List.getElem_reverse]
              have e : ((a.length : Int) - 1 - k).toNat = a.length - 1 - k := by omega
              unfold rd
              rw [e, List.getD_eq_getElem?_getD, List.getElem?_eq_getElem (by omega)]
              rfl
            rw [hrd, show ((a.length : Int) - 1 - k).toNat = a.length - 1 - k by omega] at hck2
            have HCK2 := Lib.hid hck2; clear hck2
            have hxw := HAW.out _ (List.getElem_mem hlt)
            have hxw2 := HAW.out _ (List.mem_reverse.1 (List.getElem_mem hrl))
            have hsn := addsP_snoc al [] (a.take k) a[k]
            rw [← take_snocI a hlt] at hsn
            have hsn2 := addsP_snoc al [] (a.reverse.take k) a.reverse[k]
            rw [← take_snocI a.reverse hrl] at hsn2
            have hpl := addsP_len al (a.take k) []
            have hpl2 := addsP_len al (a.reverse.take k) []
            rw [List.length_take] at hpl hpl2
            simp only [List.length_nil, Nat.zero_add] at hpl hpl2
            generalize a[k] = u at *
            generalize a.reverse[k] = u2 at *
            clear hrd
            have hmo : ∀ x, x ∈ addsP al [] (a.take k) → x ∈ addP al (addsP al [] (a.take k)) u := fun x hx => (mem_addP _ _ _ _).2 (.inl hx)
            have iq := fun en => enough_mono (shs := shs) (en := en) hmo
            generalize addsP al [] (a.take k) = N1 at *
            generalize addsP al [] (a.reverse.take k) = N2 at *
            have ha1 := hT.add1 hxw (by omega)
            have HA1 := Lib.hid ha1; clear ha1
            have HSN := Lib.hid hsn; have HSN2 := Lib.hid hsn2
            clear hsn hsn2 hmo
            have ha2 := fun W (h : Two w W g mb g' mb' shs al (addP al N1 u) shs al N2) => h.add2 hxw2 (by omega)
            have HA2 := Lib.hid ha2; clear ha2
            have hq1 := fun W => HQ0.out W (addP al N1 u) (addP al N2 u2)
            have ha1 := fun W => HA0.out W (addP al N1 u) (addP al N2 u2)
            have he1 := fun W => HE0.out W (addP al N1 u) (addP al N2 u2)
            have i1 := iq enQ
            have i2 := iq enA
            have i3 : shs.all (enoughB enA (addP al N1 u)) = true → shs.all (enoughB enQ (addP al N1 u)) = true := enough_le (fun s hs => by have := HNE.out s hs; unfold enQ enA; omega)
            have i4 : shs.all (enoughB enQ (addP al N1 u)) = true → shs.all (enoughB enE (addP al N1 u)) = true := enough_le (fun s hs => by unfold enQ enE; omega)
            generalize shs.all (enoughB enQ N1) = q at *
            generalize shs.all (enoughB enA N1) = av at *
            generalize hqe : shs.all (enoughB enQ (addP al N1 u)) = q' at *
            generalize hae : shs.all (enoughB enA (addP al N1 u)) = av' at *
            generalize shs.all (enoughB enE (addP al N1 u)) = e' at *
            clear iq
            have HQE := Lib.hid hqe; have HAE := Lib.hid hae
            clear hqe hae
            have HQ1 := Lib.hid hq1; have HV1 := Lib.hid ha1; have HE1 := Lib.hid he1
            clear hq1 ha1 he1
            cases q' with
            | false =>
              obtain rfl : q = false := by cases q with | false => rfl | true => exact absurd (i1 rfl) (by decide)
              obtain rfl : av' = false := by cases av' with | false => rfl | true => exact absurd (i3 rfl) (by decide)
              obtain rfl : av = false := by cases av with | false => rfl | true => exact absurd (i2 rfl) (by decide)
              clear i1 i2 i3 i4
              go_wp2_with fail
              refine HA1.out.mono ?_
              rintro e wa ⟨rfl, hTa⟩
              have hck2 := pw_cell_below hTa.1 HCK2.out
              go_wp2_with fail
              refine (HA2.out _ hTa).mono ?_
              clear hTa hck2
              rintro e wb ⟨rfl, hTb⟩
              go_wp2_with fail
              refine (HV1.out _ hTb).mono ?_
              clear hTb
              rintro e w10 ⟨rfl, hT10⟩
              go_wp2_with fail
              refine (HQ1.out _ hT10).mono ?_
              clear hT10
              rintro e w11 ⟨rfl, hT11⟩
              go_wp2_with fail
              refine (HQ1.out _ hT11).mono ?_
              clear hT11
              rintro e w12 ⟨rfl, hT12⟩
              go_wp2_with fail
              refine (HV1.out _ hT12).mono ?_
              clear hT12
              rintro e w13 ⟨rfl, hT13⟩
              go_wp2_with fail
              go_roundw
              case rel => exact ⟨k + 1, by rw [HSN.out, HQE.out], by rw [HSN.out, HAE.out], by go_num, by omega, by rw [HSN.out, HSN2.out]; assumption⟩
              case measure => simp [intOf]; omega
            | true =>
              obtain rfl : e' = true := i4 rfl
              clear i4 i1 i3
              cases q with
              | false =>
                cases av' with
                | false =>
                  obtain rfl : av = false := by cases av with | false => rfl | true => exact absurd (i2 rfl) (by decide)
                  clear i2
                  go_wp2_with fail
                  refine HA1.out.mono ?_
                  rintro e wa ⟨rfl, hTa⟩
                  have hck2 := pw_cell_below hTa.1 HCK2.out
                  go_wp2_with fail
                  refine (HA2.out _ hTa).mono ?_
                  clear hTa hck2
                  rintro e wb ⟨rfl, hTb⟩
                  go_wp2_with fail
                  refine (HV1.out _ hTb).mono ?_
                  clear hTb
                  rintro e w10 ⟨rfl, hT10⟩
                  go_wp2_with fail
                  refine (HQ1.out _ hT10).mono ?_
                  clear hT10
                  rintro e w11 ⟨rfl, hT11⟩
                  go_wp2_with fail
                  refine (HE1.out _ hT11).mono ?_
                  clear hT11
                  rintro e w12 ⟨rfl, hT12⟩
                  go_wp2_with fail
                  refine (HQ1.out _ hT12).mono ?_
                  clear hT12
                  rintro e w13 ⟨rfl, hT13⟩
                  go_wp2_with fail
                  refine (HV1.out _ hT13).mono ?_
                  clear hT13
                  rintro e w14 ⟨rfl, hT14⟩
                  go_wp2_with fail
                  go_roundw
                  case rel => exact ⟨k + 1, by rw [HSN.out, HQE.out], by rw [HSN.out, HAE.out], by go_num, by omega, by rw [HSN.out, HSN2.out]; assumption⟩
                  case measure => simp [intOf]; omega
                | true =>
                  clear i2
                  cases av with
                  | false =>
                    go_wp2_with fail
                    refine HA1.out.mono ?_
                    rintro e wa ⟨rfl, hTa⟩
                    have hck2 := pw_cell_below hTa.1 HCK2.out
                    go_wp2_with fail
                    refine (HA2.out _ hTa).mono ?_
                    clear hTa hck2
                    rintro e wb ⟨rfl, hTb⟩
                    go_wp2_with fail
                    refine (HV1.out _ hTb).mono ?_
                    clear hTb
                    rintro e w10 ⟨rfl, hT10⟩
                    go_wp2_with fail
                    refine (HQ1.out _ hT10).mono ?_
                    clear hT10
                    rintro e w11 ⟨rfl, hT11⟩
                    go_wp2_with fail
                    refine (HQ1.out _ hT11).mono ?_
                    clear hT11
                    rintro e w12 ⟨rfl, hT12⟩
                    go_wp2_with fail
                    refine (HE1.out _ hT12).mono ?_
                    clear hT12
                    rintro e w13 ⟨rfl, hT13⟩
                    go_wp2_with fail
                    refine (HQ1.out _ hT13).mono ?_
                    clear hT13
                    rintro e w14 ⟨rfl, hT14⟩
                    go_wp2_with fail
                    refine (HV1.out _ hT14).mono ?_
                    clear hT14
                    rintro e w15 ⟨rfl, hT15⟩
                    go_wp2_with fail
                    go_roundw
                    case rel => exact ⟨k + 1, by rw [HSN.out, HQE.out], by rw [HSN.out, HAE.out], by go_num, by omega, by rw [HSN.out, HSN2.out]; assumption⟩
                    case measure => simp [intOf]; omega
                  | true =>
                    go_wp2_with fail
                    refine HA1.out.mono ?_
                    rintro e wa ⟨rfl, hTa⟩
                    have hck2 := pw_cell_below hTa.1 HCK2.out
                    go_wp2_with fail
                    refine (HA2.out _ hTa).mono ?_
                    clear hTa hck2
                    rintro e wb ⟨rfl, hTb⟩
                    go_wp2_with fail
                    refine (HV1.out _ hTb).mono ?_
                    clear hTb
                    rintro e w10 ⟨rfl, hT10⟩
                    go_wp2_with fail
                    refine (HV1.out _ hT10).mono ?_
                    clear hT10
                    rintro e w11 ⟨rfl, hT11⟩
                    go_wp2_with fail
                    refine (HQ1.out _ hT11).mono ?_
                    clear hT11
                    rintro e w12 ⟨rfl, hT12⟩
                    go_wp2_with fail
                    refine (HQ1.out _ hT12).mono ?_
                    clear hT12
                    rintro e w13 ⟨rfl, hT13⟩
                    go_wp2_with fail
                    refine (HE1.out _ hT13).mono ?_
                    clear hT13
                    rintro e w14 ⟨rfl, hT14⟩
                    go_wp2_with fail
                    refine (HQ1.out _ hT14).mono ?_
                    clear hT14
                    rintro e w15 ⟨rfl, hT15⟩
                    go_wp2_with fail
                    refine (HV1.out _ hT15).mono ?_
                    clear hT15
                    rintro e w16 ⟨rfl, hT16⟩
                    go_wp2_with fail
                    go_roundw
                    case rel => exact ⟨k + 1, by rw [HSN.out, HQE.out], by rw [HSN.out, HAE.out], by go_num, by omega, by rw [HSN.out, HSN2.out]; assumption⟩
                    case measure => simp [intOf]; omega
              | true =>
                cases av' with
                | false =>
                  obtain rfl : av = false := by cases av with | false => rfl | true => exact absurd (i2 rfl) (by decide)
                  clear i2
                  go_wp2_with fail
                  refine HA1.out.mono ?_
                  rintro e wa ⟨rfl, hTa⟩
                  have hck2 := pw_cell_below hTa.1 HCK2.out
                  go_wp2_with fail
                  refine (HA2.out _ hTa).mono ?_
                  clear hTa hck2
                  rintro e wb ⟨rfl, hTb⟩
                  go_wp2_with fail
                  refine (HQ1.out _ hTb).mono ?_
                  clear hTb
                  rintro e w10 ⟨rfl, hT10⟩
                  go_wp2_with fail
                  refine (HV1.out _ hT10).mono ?_
                  clear hT10
                  rintro e w11 ⟨rfl, hT11⟩
                  go_wp2_with fail
                  refine (HQ1.out _ hT11).mono ?_
                  clear hT11
                  rintro e w12 ⟨rfl, hT12⟩
                  go_wp2_with fail
                  refine (HE1.out _ hT12).mono ?_
                  clear hT12
                  rintro e w13 ⟨rfl, hT13⟩
                  go_wp2_with fail
                  refine (HQ1.out _ hT13).mono ?_
                  clear hT13
                  rintro e w14 ⟨rfl, hT14⟩
                  go_wp2_with fail
                  refine (HV1.out _ hT14).mono ?_
                  clear hT14
                  rintro e w15 ⟨rfl, hT15⟩
                  go_wp2_with fail
                  go_roundw
                  case rel => exact ⟨k + 1, by rw [HSN.out, HQE.out], by rw [HSN.out, HAE.out], by go_num, by omega, by rw [HSN.out, HSN2.out]; assumption⟩
                  case measure => simp [intOf]; omega
                | true =>
                  clear i2
                  cases av with
                  | false =>
                    go_wp2_with fail
                    refine HA1.out.mono ?_
                    rintro e wa ⟨rfl, hTa⟩
                    have hck2 := pw_cell_below hTa.1 HCK2.out
                    go_wp2_with fail
                    refine (HA2.out _ hTa).mono ?_
                    clear hTa hck2
                    rintro e wb ⟨rfl, hTb⟩
                    go_wp2_with fail
                    refine (HQ1.out _ hTb).mono ?_
                    clear hTb
                    rintro e w10 ⟨rfl, hT10⟩
                    go_wp2_with fail
                    refine (HV1.out _ hT10).mono ?_
                    clear hT10
                    rintro e w11 ⟨rfl, hT11⟩
                    go_wp2_with fail
                    refine (HQ1.out _ hT11).mono ?_
                    clear hT11
                    rintro e w12 ⟨rfl, hT12⟩
                    go_wp2_with fail
                    refine (HQ1.out _ hT12).mono ?_
                    clear hT12
                    rintro e w13 ⟨rfl, hT13⟩
                    go_wp2_with fail
                    refine (HE1.out _ hT13).mono ?_
                    clear hT13
                    rintro e w14 ⟨rfl, hT14⟩
                    go_wp2_with fail
                    refine (HQ1.out _ hT14).mono ?_
                    clear hT14
                    rintro e w15 ⟨rfl, hT15⟩
                    go_wp2_with fail
                    refine (HV1.out _ hT15).mono ?_
                    clear hT15
                    rintro e w16 ⟨rfl, hT16⟩
                    go_wp2_with fail
                    go_roundw
                    case rel => exact ⟨k + 1, by rw [HSN.out, HQE.out], by rw [HSN.out, HAE.out], by go_num, by omega, by rw [HSN.out, HSN2.out]; assumption⟩
                    case measure => simp [intOf]; omega
                  | true =>
                    go_wp2_with fail
                    refine HA1.out.mono ?_
                    rintro e wa ⟨rfl, hTa⟩
                    have hck2 := pw_cell_below hTa.1 HCK2.out
                    go_wp2_with fail
                    refine (HA2.out _ hTa).mono ?_
                    clear hTa hck2
                    rintro e wb ⟨rfl, hTb⟩
                    go_wp2_with fail
                    refine (HQ1.out _ hTb).mono ?_
                    clear hTb
                    rintro e w10 ⟨rfl, hT10⟩
                    go_wp2_with fail
                    refine (HV1.out _ hT10).mono ?_
                    clear hT10
                    rintro e w11 ⟨rfl, hT11⟩
                    go_wp2_with fail
                    refine (HV1.out _ hT11).mono ?_
                    clear hT11
                    rintro e w12 ⟨rfl, hT12⟩
                    go_wp2_with fail
                    refine (HQ1.out _ hT12).mono ?_
                    clear hT12
                    rintro e w13 ⟨rfl, hT13⟩
                    go_wp2_with fail
                    refine (HQ1.out _ hT13).mono ?_
                    clear hT13
                    rintro e w14 ⟨rfl, hT14⟩
                    go_wp2_with fail
                    refine (HE1.out _ hT14).mono ?_
                    clear hT14
                    rintro e w15 ⟨rfl, hT15⟩
                    go_wp2_with fail
                    refine (HQ1.out _ hT15).mono ?_
                    clear hT15
                    rintro e w16 ⟨rfl, hT16⟩
                    go_wp2_with fail
                    refine (HV1.out _ hT16).mono ?_
                    clear hT16
                    rintro e w17 ⟨rfl, hT17⟩
                    go_wp2_with fail
                    go_roundw
                    case rel => exact ⟨k + 1, by rw [HSN.out, HQE.out], by rw [HSN.out, HAE.out], by go_num, by omega, by rw [HSN.out, HSN2.out]; assumption⟩
                    case measure => simp [intOf]; omega
          · obtain rfl : k = a.length := by omega
            rw [List.take_length, show a.reverse.take a.length = a.reverse from List.take_of_length_le (by simp)] at hT
            simp only [List.take_length]
            have hmem : ∀ x, x ∈ addsP al [] a ↔ x ∈ addsP al [] a.reverse := fun x => by rw [mem_addsP, mem_addsP, List.mem_reverse]
            have hse := sortP_ext (addsP_nodup al a [] List.nodup_nil) (addsP_nodup al a.reverse [] List.nodup_nil) hmem
            have hl1 := addsP_len al a []
            have hl2 := addsP_len al a.reverse []
            rw [List.length_reverse] at hl2
            simp only [List.length_nil, Nat.zero_add] at hl1 hl2
            have hcq := HCG.out enQ hmem
            have hca := HCG.out enA hmem
            generalize addsP al [] a = N1 at *
            generalize addsP al [] a.reverse = N2 at *
            have HSE := Lib.hid hse; clear hse
            have hn1 := hT.x.sorted (by omega)
            go_wp2_with fail
            refine hn1.mono ?_
            rintro e w6 ⟨A6, c6, rfl, hc6, hC6, hb6⟩
            have hT6 := hT.below hb6
            clear hn1 hT
            have hn2 := hT6.y.sorted (by omega)
            go_wp2_with fail
            refine hn2.mono ?_
            rintro e w7 ⟨A7, c7, rfl, hc7, hC7, hb7⟩
            have hT7 := hT6.below hb7
            clear hn2 hT6
            go_wp2_with fail
            refine (ints_any A6 c6 (sortP N1) A7 c7 (sortP N2) _ (Kd.C_below hC6 hb7) hc6 hC7 hc7).mono ?_
            rintro e w8 ⟨rfl, hd8⟩
            rw [decide_eq_true HSE.out]
            have hT8 := hT7.below hd8.below
            clear hC6 hC7 hT7
            have hqy : ∀ (W : World), Two w W g mb g' mb' shs al N1 shs al N2 → Calls Try.prog 13 #[.pointer (some ⟨g', 0, none⟩)] W fun e w' => e = .returned (.bool (shs.all (enoughB enQ N1))) ∧ Two w w' g mb g' mb' shs al N1 shs al N2 := fun W h =>
              (h.y.quorum HG2.out).mono fun e w' ⟨he, hb⟩ => ⟨hcq ▸ he, h.below hb⟩
            have hay : ∀ (W : World), Two w W g mb g' mb' shs al N1 shs al N2 → Calls Try.prog 15 #[.pointer (some ⟨g', 0, none⟩)] W fun e w' => e = .returned (.bool (shs.all (enoughB enA N1))) ∧ Two w w' g mb g' mb' shs al N1 shs al N2 := fun W h =>
              (h.y.every HG2.out).mono fun e w' ⟨he, hb⟩ => ⟨hca ▸ he, h.below hb⟩
            have hqx := fun W => HQ0.out W N1 N2
            have hax := fun W => HA0.out W N1 N2
            clear hcq hca hmem
            generalize shs.all (enoughB enQ N1) = q at *
            generalize shs.all (enoughB enA N1) = av at *
            have HQX := Lib.hid hqx; have HQY := Lib.hid hqy; have HAX := Lib.hid hax; have HAY := Lib.hid hay
            clear hqx hqy hax hay
            go_wp2_with fail
            refine (HQX.out _ hT8).mono ?_
            rintro e w9 ⟨rfl, hT9⟩
            go_wp2_with fail
            refine (HQY.out _ hT9).mono ?_
            rintro e w10 ⟨rfl, hT10⟩
            go_wp2_with fail
            refine (HAX.out _ hT10).mono ?_
            rintro e w11 ⟨rfl, hT11⟩
            go_wp2_with fail
            refine (HAY.out _ hT11).mono ?_
            rintro e w12 ⟨rfl, hT12⟩
            go_wp2_with fail
            refine (live_any _).mono ?_
            rintro e w13 ⟨rfl, hb13⟩
            go_wp2_with fail
            go_ret
            exact ⟨rfl, below_then hT12.1 hT12.1.size hb13⟩
      · go_wp2_with fail
        refine (live_any _).mono ?_
        rintro e w2 ⟨rfl, hb2⟩
        go_wp2_with fail
        go_ret
        exact ⟨rfl, below_then hb1 hb1.size hb2⟩
    · go_wp2_with fail
      refine (live_any _).mono ?_
      rintro e w2 ⟨rfl, hb2⟩
      go_wp2_with fail
      go_ret
      exact ⟨rfl, below_then hb1 hb1.size hb2⟩
end Go.Proofs.Ytmljpidhhiineaa.P
