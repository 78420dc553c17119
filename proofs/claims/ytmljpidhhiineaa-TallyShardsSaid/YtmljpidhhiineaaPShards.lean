/- A tally of shards has a quorum just if each one's by itself has: the walk of the statement. -/
import Derived.Test.YtmljpidhhiineaaPLawB
import Derived.Test.YtmljpidhhiineaaPMeet
namespace Go.Proofs.Ytmljpidhhiineaa.P
open Go.RowKit Go.Proofs.YtmljpidhhiineaaW.PrintWords Go.Proofs.YtmljpidhhiineaaW.PrintLast
def ShA (w : World) (g mb : Nat) (shs : List S40) (al a : List Int) (kv : Value) (wr : World) : Prop :=
  ∃ k : Nat, kv = .int .i64 k ∧ k ≤ a.length ∧ One w wr g mb shs al (addsP al [] (a.take k))
def ShB (w : World) (g mb : Nat) (shs : List S40) (al N sh : List Int) (fq fa fe : Int → Bool) (qv av ev kv : Value) (wr : World) : Prop :=
  ∃ k : Nat, qv = .bool ((sh.take k).all fq) ∧ av = .bool ((sh.take k).all fa) ∧ ev = .bool ((sh.take k).all fe) ∧ kv = .int .i64 k ∧ k ≤ sh.length ∧ One w wr g mb shs al N
def ShC (w : World) (g mb g' mb' : Nat) (shs : List S40) (al N : List Int) (shs' : List S40) (al' a : List Int) (jv : Value) (wr : World) : Prop :=
  ∃ j : Nat, jv = .int .i64 j ∧ j ≤ a.length ∧ Two w wr g mb g' mb' shs al N shs' al' (addsP al' [] (a.take j))
/-- what one shard's tally answers. -/
def oneQ (l : List S40) (a : List Int) (en : S40 → Int) (s : Int) : Bool := (pickS l (sortC [s])).all (enoughB en (addsP (nodesP l [s]) [] a))
theorem each_pick {l : List S40} (hg : Good l) (sh a : List Int) (en : S40 → Int) : sh.all (oneQ l a en) = (pickS l (sortC sh)).all (enoughB en (addsP (nodesP l sh) [] a)) := by
  have key : ∀ s ∈ sh, 0 ≤ s → s < l.length → enoughB en (addsP (nodesP l [s]) [] a) (Go.Proofs.Ytmljpidhhiineaa.P.rd_T40 l s) = enoughB en (addsP (nodesP l sh) [] a) (Go.Proofs.Ytmljpidhhiineaa.P.rd_T40 l s) := fun s hs h0 h1 => by
    rw [enough_cnt, enough_cnt, cnt_congr]
    intro x hx
    have hr := (hg.2 _ (rd_mem l s h0 h1)).range x hx
    have m1 : x ∈ nodesP l [s] := (mem_nodesP l [s] x).2 ⟨hr, s, List.mem_singleton.2 rfl, h0, h1, hx⟩
    have m2 : x ∈ nodesP l sh := (mem_nodesP l sh x).2 ⟨hr, s, hs, h0, h1, hx⟩
    rw [mem_addsP, mem_addsP]
    simp [m1, m2]
  rw [Bool.eq_iff_iff, all_pick, List.all_eq_true]
  constructor
  · intro h i hi h0 h1
    have := (all_pick l [i] _).1 (h i hi) i (List.mem_singleton.2 rfl) h0 h1
    rw [← key i hi h0 h1]; exact this
  · intro h s hs
    refine (all_pick l [s] _).2 fun i hi h0 h1 => ?_
    obtain rfl := List.mem_singleton.1 hi
    rw [key i hs h0 h1]; exact h i hs h0 h1
theorem all_snoc {α : Type} (f : α → Bool) (xs : List α) {k : Nat} (h : k < xs.length) : (xs.take (k + 1)).all f = ((xs.take k).all f && f xs[k]) := by
  rw [List.take_succ_eq_append_getElem h, List.all_append]; simp
set_option maxHeartbeats 8000000 in
set_option maxRecDepth 100000 in
theorem tallyShards_any (A : Option Addr) (c : Nat) (l : List S40) (B : Option Addr) (d : Nat) (sh : List Int) (A1 : Option Addr) (c1 : Nat) (a : List Int) (w : World)
    (hL : Kd.C k40 w A l.length l) (hc : l.length ≤ c) (hlen : ∀ s ∈ l, s.f1.length ≤ 9223372036854775807) (hS : Kd.C (Kd.int .i64) w B sh.length sh) (hA : Kd.C (Kd.int .i64) w A1 a.length a) (hAw : ∀ x ∈ a, wfI x) :
    Calls Try.prog 8 #[.slice A l.length c, .slice B sh.length d, .slice A1 a.length c1] w fun e w' => e = .returned (.bool true) ∧ Below w.heap.size w w' := by
  have hm0 := hL.2.1; have hm1 := hS.2.1; have hm2 := hA.2.1
  have HR := Lib.hid (right_any A c l w hL hc hlen)
  have HL := Lib.hid hL; have HS := Lib.hid hS; have HA := Lib.hid hA; have HAW := Lib.hid hAw
  clear hL hS hA hAw hlen
  go_enter Try.func8, Try.ntmps8
  go_wp2_with fail
  refine HR.out.mono ?_
  rintro e w1 ⟨r, rfl, hgood, hb1⟩
  cases r with
  | false =>
    go_wp2_with fail
    refine (live_any _).mono ?_
    rintro e w2 ⟨rfl, hb2⟩
    go_wp2_with fail
    go_ret
    exact ⟨rfl, below_then hb1 hb1.size hb2⟩
  | true =>
    have HG := Lib.hid (hgood rfl); clear hgood
    by_cases h1 : sh.length ≤ 10
    · by_cases h2 : a.length ≤ 40
      · have d1 : decide (10 < (sh.length : Int)) = false := decide_eq_false (by omega)
        have d2 : decide (40 < (a.length : Int)) = false := decide_eq_false (by omega)
        go_wp2_with fail
        clear d1 d2
        refine (one_new HL.out hb1 (Kd.C_below HS.out hb1) (by omega)).mono ?_
        rintro e w2 ⟨g, mb, rfl, hx⟩
        clear hb1
        have HG2 := Lib.hid (good2 HG.out sh)
        have HEP := Lib.hid (fun en => each_pick HG.out sh a en)
        generalize pickS l (sortC sh) = shs at *
        generalize nodesP l sh = al at *
        go_wp2
        go_loopw [8] (fun kv wr => ShA w g mb shs al a kv wr) (fun k _ => a.length - (intOf k).toNat)
        case atStart => exact ⟨0, rfl, Nat.zero_le _, hx⟩
        case round =>
          clear hx
          obtain ⟨k, rfl, hk, hT⟩ := hrel
          by_cases hlt : k < a.length
          · obtain ⟨ac, rfl, hck⟩ := Kd.at_int HA.out (k : Int) (by omega) (by omega)
            rw [rd_nat a hlt] at hck
            simp only [Int.toNat_natCast] at hck
            have hxw := HAW.out _ (List.getElem_mem hlt)
            have hsn := addsP_snoc al [] (a.take k) a[k]
            rw [← take_snocI a hlt] at hsn
            have hpl := addsP_len al (a.take k) []
            rw [List.length_take] at hpl
            simp only [List.length_nil, Nat.zero_add] at hpl
            generalize a[k] = u at *
            have HSN := Lib.hid hsn; clear hsn
            generalize addsP al [] (a.take k) = N1 at *
            have hck := pw_cell_below hT.1 hck
            go_wp2_with fail
            refine (hT.add hxw (by omega)).mono ?_
            rintro e w5 ⟨rfl, hT5⟩
            clear hT
            go_wp2_with fail
            go_roundw
            case rel => exact ⟨k + 1, by go_num, by omega, by rw [HSN.out]; assumption⟩
            case measure => simp [intOf]; omega
          · obtain rfl : k = a.length := by omega
            rw [List.take_length] at hT
            have hl1 := addsP_len al a []
            simp only [List.length_nil, Nat.zero_add] at hl1
            generalize addsP al [] a = N1 at *
            have heq := HEP.out enQ; have hea := HEP.out enA; have hee := HEP.out enE
            have hLF : ∀ s, oneQ l a enQ s = (pickS l (sortC [s])).all (enoughB enQ (addsP (nodesP l [s]) [] a)) := fun _ => rfl
            have hLA : ∀ s, oneQ l a enA s = (pickS l (sortC [s])).all (enoughB enA (addsP (nodesP l [s]) [] a)) := fun _ => rfl
            have hLE : ∀ s, oneQ l a enE s = (pickS l (sortC [s])).all (enoughB enE (addsP (nodesP l [s]) [] a)) := fun _ => rfl
            generalize oneQ l a enQ = fq at *
            generalize oneQ l a enA = fa at *
            generalize oneQ l a enE = fe at *
            have HEQ := Lib.hid heq; have HEA := Lib.hid hea; have HEE := Lib.hid hee
            have HLF := Lib.hid hLF; have HLA := Lib.hid hLA; have HLE := Lib.hid hLE
            clear heq hea hee hLF hLA hLE
            go_wp2
            go_loopw [9, 10, 11, 12] (fun qv av ev kv wr => ShB w g mb shs al N1 sh fq fa fe qv av ev kv wr) (fun _ _ _ k _ => sh.length - (intOf k).toNat)
            case atStart => exact ⟨0, rfl, rfl, rfl, rfl, Nat.zero_le _, hT⟩
            case round =>
              clear hT
              obtain ⟨k, rfl, rfl, rfl, rfl, hk, hT⟩ := hrel
              by_cases hlt : k < sh.length
              · obtain ⟨ac, rfl, hck⟩ := Kd.at_int HS.out (k : Int) (by omega) (by omega)
                rw [rd_nat sh hlt] at hck
                simp only [Int.toNat_natCast] at hck
                have hck := pw_cell_below hT.1 hck
                have hsq := all_snoc fq sh hlt; have hsa := all_snoc fa sh hlt; have hse := all_snoc fe sh hlt
                generalize (sh.take k).all fq = q at *
                generalize (sh.take k).all fa = av at *
                generalize (sh.take k).all fe = ev at *
                generalize sh[k] = s at *
                have HSQ := Lib.hid hsq; have HSA := Lib.hid hsa; have HSE := Lib.hid hse
                clear hsq hsa hse
                have hlit := lit_C wr [s] (by show 1 ≤ _; omega)
                obtain ⟨w0, hw0⟩ : ∃ w0, wr.alloc (.cells #[.int .i64 s] 3) = w0 := ⟨_, rfl⟩
                have hlit : Kd.C (Kd.int .i64) w0 (some ⟨wr.heap.size, 0, none⟩) [s].length [s] := by
                  rw [← hw0]; exact hlit
                have hb0 : Below wr.heap.size wr w0 := hw0 ▸ (Below.refl _ _).alloc (Nat.le_refl _) _
                have hT0 := hT.below hb0
                clear hT hb0
                have hnew : Calls Try.prog 11 #[.slice A l.length c, .slice (some ⟨wr.heap.size, 0, none⟩) 1 1] w0 _ := (two_new (sh := [s]) (d := 1) hT0 HL.out hlit (by show 56 ≤ _; omega) :)
                have HNEW := Lib.hid hnew; clear hnew hlit hT0
                have HGS := Lib.hid (good2 HG.out [s])
                have hfq := HLF.out s; have hfa := HLA.out s; have hfe := HLE.out s
                generalize pickS l (sortC [s]) = shs' at *
                generalize nodesP l [s] = al' at *
                go_wp2_with fail
                refine HNEW.out.mono ?_
                clear hck hw0
                rintro e w3 ⟨g', mb', rfl, hT⟩
                have HFQ := Lib.hid hfq; have HFA := Lib.hid hfa; have HFE := Lib.hid hfe
                clear hfq hfa hfe
                go_wp2
                go_loopw [14] (fun jv wr => ShC w g mb g' mb' shs al N1 shs' al' a jv wr) (fun k _ => a.length - (intOf k).toNat)
                case atStart => exact ⟨0, rfl, Nat.zero_le _, hT⟩
                case round =>
                  clear hT
                  obtain ⟨j, rfl, hj, hT⟩ := hrel
                  by_cases hltj : j < a.length
                  · obtain ⟨ac, rfl, hck⟩ := Kd.at_int HA.out (j : Int) (by omega) (by omega)
                    rw [rd_nat a hltj] at hck
                    simp only [Int.toNat_natCast] at hck
                    have hxw := HAW.out _ (List.getElem_mem hltj)
                    have hsn := addsP_snoc al' [] (a.take j) a[j]
                    rw [← take_snocI a hltj] at hsn
                    have hpl := addsP_len al' (a.take j) []
                    rw [List.length_take] at hpl
                    simp only [List.length_nil, Nat.zero_add] at hpl
                    generalize a[j] = u at *
                    have HSN := Lib.hid hsn; clear hsn
                    generalize addsP al' [] (a.take j) = N2 at *
                    have hck := pw_cell_below hT.1 hck
                    go_wp2_with fail
                    refine (hT.add2 hxw (by omega)).mono ?_
                    rintro e w5 ⟨rfl, hT5⟩
                    clear hT
                    go_wp2_with fail
                    go_roundw
                    case rel => exact ⟨j + 1, by go_num, by omega, by rw [HSN.out]; assumption⟩
                    case measure => simp [intOf]; omega
                  · obtain rfl : j = a.length := by omega
                    rw [List.take_length] at hT
                    generalize addsP al' [] a = N2 at *
                    have hq : ∀ (W : World), Two w W g mb g' mb' shs al N1 shs' al' N2 → Calls Try.prog 13 #[.pointer (some ⟨g', 0, none⟩)] W fun e w' => e = .returned (.bool (fq s)) ∧ Two w w' g mb g' mb' shs al N1 shs' al' N2 := fun W h =>
                      (h.y.quorum HGS.out).mono fun e w' ⟨he, hb⟩ => ⟨by rw [he, HFQ.out], h.below hb⟩
                    have hv : ∀ (W : World), Two w W g mb g' mb' shs al N1 shs' al' N2 → Calls Try.prog 15 #[.pointer (some ⟨g', 0, none⟩)] W fun e w' => e = .returned (.bool (fa s)) ∧ Two w w' g mb g' mb' shs al N1 shs' al' N2 := fun W h =>
                      (h.y.every HGS.out).mono fun e w' ⟨he, hb⟩ => ⟨by rw [he, HFA.out], h.below hb⟩
                    have he : ∀ (W : World), Two w W g mb g' mb' shs al N1 shs' al' N2 → Calls Try.prog 17 #[.pointer (some ⟨g', 0, none⟩)] W fun e w' => e = .returned (.bool (fe s)) ∧ Two w w' g mb g' mb' shs al N1 shs' al' N2 := fun W h =>
                      (h.y.each HGS.out).mono fun e w' ⟨he, hb⟩ => ⟨by rw [he, HFE.out], h.below hb⟩
                    generalize fq s = q' at *
                    generalize fa s = av' at *
                    generalize fe s = ev' at *
                    have HQ := Lib.hid hq; have HV := Lib.hid hv; have HE := Lib.hid he
                    clear hq hv he
                    cases q with
                    | false =>
                      cases av with
                      | false =>
                        cases ev with
                        | false =>
                          go_wp2_with fail
                          go_roundw
                          case rel => exact ⟨k + 1, by rw [HSQ.out]; rfl, by rw [HSA.out]; rfl, by rw [HSE.out]; rfl, by go_num, by omega, hT.left⟩
                          case measure => simp [intOf]; omega
                        | true =>
                          go_wp2_with fail
                          refine (HE.out _ hT).mono ?_
                          clear hT
                          rintro e v1 ⟨rfl, hT1⟩
                          go_wp2_with fail
                          go_roundw
                          case rel => exact ⟨k + 1, by rw [HSQ.out]; rfl, by rw [HSA.out]; rfl, by rw [HSE.out]; rfl, by go_num, by omega, hT1.left⟩
                          case measure => simp [intOf]; omega
                      | true =>
                        cases ev with
                        | false =>
                          go_wp2_with fail
                          refine (HV.out _ hT).mono ?_
                          clear hT
                          rintro e v1 ⟨rfl, hT1⟩
                          go_wp2_with fail
                          go_roundw
                          case rel => exact ⟨k + 1, by rw [HSQ.out]; rfl, by rw [HSA.out]; rfl, by rw [HSE.out]; rfl, by go_num, by omega, hT1.left⟩
                          case measure => simp [intOf]; omega
                        | true =>
                          go_wp2_with fail
                          refine (HV.out _ hT).mono ?_
                          clear hT
                          rintro e v1 ⟨rfl, hT1⟩
                          go_wp2_with fail
                          refine (HE.out _ hT1).mono ?_
                          clear hT1
                          rintro e v2 ⟨rfl, hT2⟩
                          go_wp2_with fail
                          go_roundw
                          case rel => exact ⟨k + 1, by rw [HSQ.out]; rfl, by rw [HSA.out]; rfl, by rw [HSE.out]; rfl, by go_num, by omega, hT2.left⟩
                          case measure => simp [intOf]; omega
                    | true =>
                      cases av with
                      | false =>
                        cases ev with
                        | false =>
                          go_wp2_with fail
                          refine (HQ.out _ hT).mono ?_
                          clear hT
                          rintro e v1 ⟨rfl, hT1⟩
                          go_wp2_with fail
                          go_roundw
                          case rel => exact ⟨k + 1, by rw [HSQ.out]; rfl, by rw [HSA.out]; rfl, by rw [HSE.out]; rfl, by go_num, by omega, hT1.left⟩
                          case measure => simp [intOf]; omega
                        | true =>
                          go_wp2_with fail
                          refine (HQ.out _ hT).mono ?_
                          clear hT
                          rintro e v1 ⟨rfl, hT1⟩
                          go_wp2_with fail
                          refine (HE.out _ hT1).mono ?_
                          clear hT1
                          rintro e v2 ⟨rfl, hT2⟩
                          go_wp2_with fail
                          go_roundw
                          case rel => exact ⟨k + 1, by rw [HSQ.out]; rfl, by rw [HSA.out]; rfl, by rw [HSE.out]; rfl, by go_num, by omega, hT2.left⟩
                          case measure => simp [intOf]; omega
                      | true =>
                        cases ev with
                        | false =>
                          go_wp2_with fail
                          refine (HQ.out _ hT).mono ?_
                          clear hT
                          rintro e v1 ⟨rfl, hT1⟩
                          go_wp2_with fail
                          refine (HV.out _ hT1).mono ?_
                          clear hT1
                          rintro e v2 ⟨rfl, hT2⟩
                          go_wp2_with fail
                          go_roundw
                          case rel => exact ⟨k + 1, by rw [HSQ.out]; rfl, by rw [HSA.out]; rfl, by rw [HSE.out]; rfl, by go_num, by omega, hT2.left⟩
                          case measure => simp [intOf]; omega
                        | true =>
                          go_wp2_with fail
                          refine (HQ.out _ hT).mono ?_
                          clear hT
                          rintro e v1 ⟨rfl, hT1⟩
                          go_wp2_with fail
                          refine (HV.out _ hT1).mono ?_
                          clear hT1
                          rintro e v2 ⟨rfl, hT2⟩
                          go_wp2_with fail
                          refine (HE.out _ hT2).mono ?_
                          clear hT2
                          rintro e v3 ⟨rfl, hT3⟩
                          go_wp2_with fail
                          go_roundw
                          case rel => exact ⟨k + 1, by rw [HSQ.out]; rfl, by rw [HSA.out]; rfl, by rw [HSE.out]; rfl, by go_num, by omega, hT3.left⟩
                          case measure => simp [intOf]; omega
              · obtain rfl : k = sh.length := by omega
                rw [List.take_length, HEQ.out, HEA.out, HEE.out]
                have hqx : ∀ (W : World), One w W g mb shs al N1 → Calls Try.prog 13 #[.pointer (some ⟨g, 0, none⟩)] W fun e w' => e = .returned (.bool (shs.all (enoughB enQ N1))) ∧ One w w' g mb shs al N1 := fun W h =>
                  (h.x.quorum HG2.out).mono fun e w' ⟨he, hb⟩ => ⟨he, h.below hb⟩
                have hax : ∀ (W : World), One w W g mb shs al N1 → Calls Try.prog 15 #[.pointer (some ⟨g, 0, none⟩)] W fun e w' => e = .returned (.bool (shs.all (enoughB enA N1))) ∧ One w w' g mb shs al N1 := fun W h =>
                  (h.x.every HG2.out).mono fun e w' ⟨he, hb⟩ => ⟨he, h.below hb⟩
                have hex : ∀ (W : World), One w W g mb shs al N1 → Calls Try.prog 17 #[.pointer (some ⟨g, 0, none⟩)] W fun e w' => e = .returned (.bool (shs.all (enoughB enE N1))) ∧ One w w' g mb shs al N1 := fun W h =>
                  (h.x.each HG2.out).mono fun e w' ⟨he, hb⟩ => ⟨he, h.below hb⟩
                generalize shs.all (enoughB enQ N1) = q at *
                generalize shs.all (enoughB enA N1) = av at *
                generalize shs.all (enoughB enE N1) = ev at *
                have HQX := Lib.hid hqx; have HAX := Lib.hid hax; have HEX := Lib.hid hex
                clear hqx hax hex
                go_wp2_with fail
                refine (HQX.out _ hT).mono ?_
                rintro e w9 ⟨rfl, hT9⟩
                go_wp2_with fail
                refine (HAX.out _ hT9).mono ?_
                rintro e w10 ⟨rfl, hT10⟩
                go_wp2_with fail
                refine (HEX.out _ hT10).mono ?_
                rintro e w11 ⟨rfl, hT11⟩
                go_wp2_with fail
                refine (live_any _).mono ?_
                rintro e w12 ⟨rfl, hb12⟩
                go_wp2_with fail
                go_ret
                exact ⟨rfl, below_then hT11.1 hT11.1.size hb12⟩
      · go_wp2_with fail
        refine (live_any _).mono ?_
        rintro e w2 ⟨rfl, hb2⟩
        go_wp2_with fail
        go_ret
        exact ⟨rfl, below_then hb1 hb1.size hb2⟩
    · go_wp2_with fail
      refine (live_any _).mono ?_
      rintro e w2 ⟨rfl, hb2⟩
      go_wp2_with fail
      go_ret
      exact ⟨rfl, below_then hb1 hb1.size hb2⟩
end Go.Proofs.Ytmljpidhhiineaa.P
