/- Who is none of the shards' nodes has no part: the walk of the statement. -/
import Derived.Test.YtmljpidhhiineaaPLawB
import Derived.Test.YtmljpidhhiineaaPMeet
import Derived.Test.YtmljpidhhiineaaPRefA
namespace Go.Proofs.Ytmljpidhhiineaa.P
open Go.RowKit Go.Proofs.YtmljpidhhiineaaW.PrintWords Go.Proofs.YtmljpidhhiineaaW.PrintLast
section
variable {w W W' : World} {g mb g' mb' : Nat} {shs shs' : List S40} {all N all' N' : List Int}
theorem Two.add1u (h : Two w W g mb g' mb' shs all N shs' all' N') {x : Int} (hx : wfI x) (hN : N.length < 1000000000) : Calls Try.prog 26 #[.pointer (some ⟨g, 0, none⟩), .int .i64 x] W fun e w' => e = .returned (.bool (decide (x ∉ N ∧ x ∈ all))) ∧ Two w w' g mb g' mb' shs all (addP all N x) shs' all' N' ∧ Upd W w' (· = mb) := by
  obtain ⟨h1, h2, h3, h3', ok, ok', a, b, c, d, e1, f, i, t, t'⟩ := h
  refine (tyAdd_any t a hx hN).mono ?_
  rintro e w' ⟨he, hT, hU⟩
  exact ⟨he, ⟨h1.trans (hU.below h1.size (fun k hk e => by omega)), h2, h3, h3', ok, ok', a, b, c, d, e1, f, i, hT, t'.upd hU (fun k hk e => d (e ▸ hk)) f (Ne.symm i)⟩, hU⟩
theorem Two.add2u (h : Two w W g mb g' mb' shs all N shs' all' N') {x : Int} (hx : wfI x) (hN : N'.length < 1000000000) : Calls Try.prog 26 #[.pointer (some ⟨g', 0, none⟩), .int .i64 x] W fun e w' => e = .returned (.bool (decide (x ∉ N' ∧ x ∈ all'))) ∧ Two w w' g mb g' mb' shs all N shs' all' (addP all' N' x) ∧ Upd W w' (· = mb') := by
  obtain ⟨h1, h2, h3, h3', ok, ok', a, b, c, d, e1, f, i, t, t'⟩ := h
  refine (tyAdd_any t' b hx hN).mono ?_
  rintro e w' ⟨he, hT, hU⟩
  exact ⟨he, ⟨h1.trans (hU.below h1.size (fun k hk e => by omega)), h2, h3, h3', ok, ok', a, b, c, d, e1, f, i, t.upd hU (fun k hk e => c (e ▸ hk)) e1 i, hT⟩, hU⟩
theorem Two.lt (h : Two w W g mb g' mb' shs all N shs' all' N') : mb < W.heap.size ∧ mb' < W.heap.size := by
  obtain ⟨h1, h2, h3, h3', ok, ok', a, b, c, d, e1, f, i, t, t'⟩ := h
  exact ⟨t.lt.2.1, t'.lt.2.1⟩
end
/-- a list of whole numbers that lies in blocks from B on. -/
def LsB (B : Nat) (W : World) (v : Value) (xs : List Int) : Prop := Kd.N (Kd.int .i64) 3 W 0 (fun k => B ≤ k) v xs
theorem LsB.upd {B mb : Nat} {W W' : World} {v : Value} {xs : List Int} (h : LsB B W v xs) (hu : Upd W W' (· = mb)) (hb : mb < B) : LsB B W' v xs :=
  Kd.N_step h (fun k hk hlt => hu.block k hlt (fun s => by omega))
theorem LsB.below {B : Nat} {W W' : World} {v : Value} {xs : List Int} (h : LsB B W v xs) (hu : Below W.heap.size W W') : LsB B W' v xs :=
  Kd.N_step h (fun k hk hlt => (Upd.of_below hu (fun _ => False)).block k hlt (fun s => s))
theorem in_ls {B : Nat} {W : World} {A : Option Addr} {c : Nat} {xs : List Int} (h : LsB B W (.slice A xs.length c) xs) (x : Int) : Calls Try.prog 25 #[.slice A xs.length c, .int .i64 x] W fun e w' => e = .returned (.bool (decide (x ∈ xs))) ∧ Drawn0 W w' := by
  have e := Kd.N_reads' h
  exact in_any A c xs x W e.2.2 e.2.1
def OthRel (w : World) (B g mb g' mb' : Nat) (shs : List S40) (al a : List Int) (va : Value) (kv : Value) (wr : World) : Prop :=
  ∃ k : Nat, kv = .int .i64 k ∧ k ≤ a.length ∧ Two w wr g mb g' mb' shs al (addsP al [] (a.take k)) shs al (addsP al [] (a.take k)) ∧ LsB B wr va al
def OthN (w6 : World) (kv : Value) (wr : World) : Prop := ∃ k : Nat, kv = .int .i64 k ∧ k ≤ 9 ∧ Drawn0 w6 wr
theorem addP_skip {al N : List Int} {u : Int} (h : u ∉ al) : addP al N u = N := by unfold addP; rw [if_neg fun hh => h hh.2]
theorem addsP_sub (al : List Int) (a : List Int) (x : Int) (h : x ∈ addsP al [] a) : x ∈ al := by
  rcases (mem_addsP al x a []).1 h with h | h
  · cases h
  · exact h.2
/-- all have answered just if nobody waits. -/
theorem all_waiting {l : List S40} (hg : Good l) (sh N : List Int) : (pickS l (sortC sh)).all (enoughB enA N) = decide ((((nodesP l sh).filter fun x => !decide (x ∈ N)).length : Int) = 0) := by
  have h : (pickS l (sortC sh)).all (enoughB enA N) = true ↔ ((nodesP l sh).filter fun x => !decide (x ∈ N)) = [] := by
    rw [all_pick, List.filter_eq_nil_iff]
    constructor
    · intro h x hx
      obtain ⟨hr, i, hi, h0, h1, hm⟩ := (mem_nodesP l sh x).1 hx
      have := h i hi h0 h1
      rw [enough_cnt] at this
      have h2 := of_decide_eq_true this
      unfold enA at h2
      have h3 := cnt_all.1 (show (Go.Proofs.Ytmljpidhhiineaa.P.rd_T40 l i).f1.length ≤ cntP N _ by omega) x hm
      simp [h3]
    · intro h i hi h0 h1
      rw [enough_cnt]
      refine decide_eq_true ?_
      unfold enA
      have : (Go.Proofs.Ytmljpidhhiineaa.P.rd_T40 l i).f1.length ≤ cntP N (Go.Proofs.Ytmljpidhhiineaa.P.rd_T40 l i).f1 := cnt_all.2 fun x hx => by
        have hr := (hg.2 _ (rd_mem l i h0 h1)).range x hx
        have := h x ((mem_nodesP l sh x).2 ⟨hr, i, hi, h0, h1, hx⟩)
        simpa using this
      omega
  by_cases hh : ((nodesP l sh).filter fun x => !decide (x ∈ N)) = []
  · rw [h.2 hh, hh]; rfl
  · have h1 : (pickS l (sortC sh)).all (enoughB enA N) = false := by
      cases hv : (pickS l (sortC sh)).all (enoughB enA N) with
      | false => rfl
      | true => exact absurd (h.1 hv) hh
    rw [h1]
    refine (decide_eq_false fun e => hh (List.length_eq_zero_iff.1 (by omega))).symm
set_option maxHeartbeats 8000000 in
set_option maxRecDepth 100000 in
theorem tallyOthers_any (A : Option Addr) (c : Nat) (l : List S40) (B : Option Addr) (d : Nat) (sh : List Int) (A1 : Option Addr) (c1 : Nat) (a : List Int) (w : World)
    (hL : Kd.C k40 w A l.length l) (hc : l.length ≤ c) (hlen : ∀ s ∈ l, s.f1.length ≤ 9223372036854775807) (hS : Kd.C (Kd.int .i64) w B sh.length sh) (hd : sh.length ≤ d) (hA : Kd.C (Kd.int .i64) w A1 a.length a) (hAw : ∀ x ∈ a, wfI x) :
    Calls Try.prog 7 #[.slice A l.length c, .slice B sh.length d, .slice A1 a.length c1] w fun e w' => e = .returned (.bool true) ∧ Below w.heap.size w w' := by
  have hm0 := hL.2.1; have hm1 := hS.2.1; have hm2 := hA.2.1
  have HR := Lib.hid (right_any A c l w hL hc hlen)
  have HL := Lib.hid hL; have HS := Lib.hid hS; have HA := Lib.hid hA; have HAW := Lib.hid hAw
  clear hL hS hA hAw hlen
  go_enter Try.func7, Try.ntmps7
  go_wp2_with fail
  refine HR.out.mono ?_
  rintro e w1 ⟨r, rfl, hgood, hb1⟩
  cases r with
  | false =>
    go_wp2_with fail
    refine (live_any _).mono ?_
    rintro e w2 ⟨rfl, hb2⟩
    go_wp2_with fail
    go_ret
    exact ⟨rfl, below_then hb1 hb1.size hb2⟩
  | true =>
    have HG := Lib.hid (hgood rfl); clear hgood
    by_cases h1 : sh.length ≤ 40
    · by_cases h2 : a.length ≤ 40
      · have d1 : decide (40 < (sh.length : Int)) = false := decide_eq_false (by omega)
        have d2 : decide (40 < (a.length : Int)) = false := decide_eq_false (by omega)
        go_wp2_with fail
        clear d1 d2
        refine (one_new HL.out hb1 (Kd.C_below HS.out hb1) (by omega)).mono ?_
        rintro e w2 ⟨g, mb, rfl, hx⟩
        go_wp2_with fail
        refine (two_new hx HL.out (Kd.C_below HS.out hx.1) (by omega)).mono ?_
        rintro e w3 ⟨g', mb', rfl, hxy⟩
        clear hx hb1
        go_wp2_with fail
        refine (rnodes_any A c l B d sh w3 (Kd.C_below HL.out hxy.1) hc (Kd.C_below HS.out hxy.1) hd (by omega) (fun s hs => by have := HG.out.flen hs; omega)).mono ?_
        rintro e w4 ⟨A4, c4, rfl, hN4, hc4, hC4, hb4⟩
        have hL4 : LsB w3.heap.size w4 (.slice A4 (nodesP l sh).length c4) (nodesP l sh) := Kd.N_lower hN4 (Nat.zero_le _)
        clear hN4 hC4
        obtain ⟨hltm, hltm'⟩ := hxy.lt
        have hT4 := hxy.below hb4
        clear hxy hb4
        generalize w3.heap.size = S3 at *
        have HG2 := Lib.hid (good2 HG.out sh)
        have HCG := Lib.hid (fun N => all_waiting HG.out sh N)
        have HRI := Lib.hid (nodesP_rise l sh)
        generalize pickS l (sortC sh) = shs at *
        generalize nodesP l sh = al at *
        go_wp2
        go_loopw [10] (fun kv wr => OthRel w S3 g mb g' mb' shs al a (.slice A4 al.length c4) kv wr) (fun k _ => a.length - (intOf k).toNat)
        case atStart => exact ⟨0, rfl, Nat.zero_le _, hT4, hL4⟩
        case round =>
          clear hT4 hL4
          obtain ⟨k, rfl, hk, hT, hLk⟩ := hrel
          have hbw := hT.1
          by_cases hlt : k < a.length
          · obtain ⟨ac, rfl, hck⟩ := Kd.at_int HA.out (k : Int) (by omega) (by omega)
            rw [rd_nat a hlt] at hck
            simp only [Int.toNat_natCast] at hck
            have hxw := HAW.out _ (List.getElem_mem hlt)
            have hsn := addsP_snoc al [] (a.take k) a[k]
            rw [← take_snocI a hlt] at hsn
            have hpl := addsP_len al (a.take k) []
            rw [List.length_take] at hpl
            simp only [List.length_nil, Nat.zero_add] at hpl
            generalize a[k] = u at *
            have HSN := Lib.hid hsn; clear hsn
            generalize addsP al [] (a.take k) = N1 at *
            have hb4 : ∀ (W W' : World), LsB S3 W (.slice A4 al.length c4) al → (Upd W W' (· = mb)) → LsB S3 W' (.slice A4 al.length c4) al := fun W W' h hu => h.upd hu hltm
            have hb5 : ∀ (W W' : World), LsB S3 W (.slice A4 al.length c4) al → (Upd W W' (· = mb')) → LsB S3 W' (.slice A4 al.length c4) al := fun W W' h hu => h.upd hu hltm'
            have HB4 := Lib.hid hb4; have HB5 := Lib.hid hb5; clear hb4 hb5
            have HCK := Lib.hid hck; clear hck
            have hck := pw_cell_below hbw HCK.out
            go_wp2_with fail
            clear hck
            refine (hT.add1u hxw (by omega)).mono ?_
            rintro e w5 ⟨rfl, hT5, hu5⟩
            have hL5 := HB4.out _ _ hLk hu5
            have hck5 := pw_cell_below hT5.1 HCK.out
            clear hT hLk hu5
            go_wp2_with fail
            refine (in_ls hL5 u).mono ?_
            rintro e w6 ⟨rfl, hd6⟩
            have hT6 := hT5.below hd6.below
            have hL6 := hL5.below hd6.below
            clear hT5 hL5 hd6 hck5
            by_cases hu : u ∈ al
            · rw [decide_eq_true hu]
              have hck6 := pw_cell_below hT6.1 HCK.out
              go_wp2_with fail
              clear hck6
              refine (hT6.add2u hxw (by omega)).mono ?_
              rintro e w7 ⟨rfl, hT7, hu7⟩
              have hL7 := HB5.out _ _ hL6 hu7
              clear hT6 hL6 hu7
              go_wp2_with fail
              go_roundw
              case rel => exact ⟨k + 1, by go_num, by omega, by rw [HSN.out]; assumption, by assumption⟩
              case measure => simp [intOf]; omega
            · rw [decide_eq_false hu]
              have hsk := addP_skip (N := N1) hu
              rw [hsk] at hT6
              go_wp2_with fail
              go_roundw
              case rel => exact ⟨k + 1, by go_num, by omega, by rw [HSN.out, hsk]; assumption, by assumption⟩
              case measure => simp [intOf]; omega
          · obtain rfl : k = a.length := by omega
            rw [List.take_length] at hT
            have hsub := addsP_sub al a
            have hl1 := addsP_len al a []
            simp only [List.length_nil, Nat.zero_add] at hl1
            generalize addsP al [] a = N1 at *
            go_wp2_with fail
            refine (hT.x.sorted (by omega)).mono ?_
            rintro e w5 ⟨A5, c5, rfl, hc5, hC5, hb5⟩
            have hT5 := hT.below hb5
            have hL5 := hLk.below hb5
            clear hT hLk
            go_wp2_with fail
            refine (hT5.x.waiting HG2.out).mono ?_
            rintro e w6 ⟨A6, c6, rfl, hc6, hC6, hb6⟩
            have hT6 := hT5.below hb6
            have hL6 := hL5.below hb6
            have hC56 := Kd.C_below hC5 hb6
            clear hT5 hL5 hC5
            have hqe := HCG.out N1
            have hmq : ∀ x, x ∈ (al.filter fun x => !decide (x ∈ N1)) ↔ x ∈ al ∧ x ∉ N1 := fun x => by rw [List.mem_filter]; simp
            generalize (al.filter fun x => !decide (x ∈ N1)) = Q at *
            have HQE := Lib.hid hqe; clear hqe
            have hmp := fun x => mem_sortP N1 x
            have hP : ∀ (W : World), Drawn0 w6 W → ∀ x : Int, Calls Try.prog 25 #[.slice A5 (sortP N1).length c5, .int .i64 x] W fun e w' => e = .returned (.bool (decide (x ∈ N1))) ∧ Drawn0 w6 w' := fun W h x =>
              (in_any A5 c5 (sortP N1) x W (Kd.C_below hC56 h.below) hc5).mono fun e w' ⟨he, hd⟩ => ⟨by rw [he, decide_eq_decide.2 (hmp x)], drawn0_trans h hd⟩
            have hQ : ∀ (W : World), Drawn0 w6 W → ∀ x : Int, Calls Try.prog 25 #[.slice A6 Q.length c6, .int .i64 x] W fun e w' => e = .returned (.bool (decide (x ∈ Q))) ∧ Drawn0 w6 w' := fun W h x =>
              (in_any A6 c6 Q x W (Kd.C_below hC6 h.below) hc6).mono fun e w' ⟨he, hd⟩ => ⟨he, drawn0_trans h hd⟩
            have hAl : ∀ (W : World), Drawn0 w6 W → ∀ x : Int, Calls Try.prog 25 #[.slice A4 al.length c4, .int .i64 x] W fun e w' => e = .returned (.bool (decide (x ∈ al))) ∧ Drawn0 w6 w' := fun W h x =>
              (in_ls (hL6.below h.below) x).mono fun e w' ⟨he, hd⟩ => ⟨he, drawn0_trans h hd⟩
            have hHas : ∀ (W : World), Drawn0 w6 W → ∀ x : Int, wfI x → Calls Try.prog 24 #[.pointer (some ⟨g, 0, none⟩), .int .i64 x] W fun e w' => e = .returned (.bool (decide (x ∈ N1))) ∧ w' = W := fun W h x hx =>
              (hT6.below h.below).x.has hx
            have HIP := Lib.hid hP; have HIQ := Lib.hid hQ; have HIA := Lib.hid hAl; have HIH := Lib.hid hHas; have HMQ := Lib.hid hmq; have HSUB := Lib.hid hsub; have HT6 := Lib.hid hT6; have HC56 := Lib.hid hC56
            clear hP hQ hAl hHas hmq hsub hT6 hL6 hC56 hmp hC6 hb6
            generalize hsp : sortP N1 = P1 at *
            have HSP := Lib.hid hsp; clear hsp
            go_wp2
            go_loopw [13] (fun kv wr => OthN w6 kv wr) (fun k _ => 9 - (intOf k).toNat)
            case atStart => exact ⟨0, rfl, Nat.zero_le _, ⟨0, rfl⟩⟩
            case round =>
              obtain ⟨k, rfl, hk, hD⟩ := hrel
              by_cases hlt9 : k < 9
              · have hkw : wfI (k : Int) := wf_small (by omega) (by omega)
                have hP := fun W h => HIP.out W h (k : Int)
                have hQ := fun W h => HIQ.out W h (k : Int)
                have hA := fun W h => HIA.out W h (k : Int)
                have hH := fun W h => HIH.out W h (k : Int) hkw
                have hm := HMQ.out (k : Int)
                have hs := HSUB.out (k : Int)
                have hqb : decide ((k : Int) ∈ Q) = (decide ((k : Int) ∈ al) && !decide ((k : Int) ∈ N1)) := by
                  by_cases z1 : (k : Int) ∈ al <;> by_cases z2 : (k : Int) ∈ N1 <;> simp [hm, z1, z2]
                have hpa : decide ((k : Int) ∈ N1) = true → decide ((k : Int) ∈ al) = true := fun h => decide_eq_true (hs (of_decide_eq_true h))
                clear hm hs
                generalize decide ((k : Int) ∈ Q) = qn at *
                generalize decide ((k : Int) ∈ al) = an at *
                generalize decide ((k : Int) ∈ N1) = pn at *
                subst hqb
                have HP := Lib.hid hP; have HQ := Lib.hid hQ; have HA2 := Lib.hid hA; have HH := Lib.hid hH
                clear hP hQ hA hH
                cases pn with
                | true =>
                  obtain rfl : an = true := hpa rfl
                  simp only [Bool.not_true, Bool.and_false] at HQ
                  clear hpa
                  go_wp2_with fail
                  refine (HP.out _ hD).mono ?_
                  rintro e v1 ⟨rfl, hD1⟩
                  go_wp2_with fail
                  refine (HH.out _ hD1).mono ?_
                  rintro e v2 ⟨rfl, rfl⟩
                  go_wp2_with fail
                  refine (HA2.out _ hD1).mono ?_
                  clear hD1
                  rintro e v3 ⟨rfl, hD3⟩
                  go_wp2_with fail
                  refine (HP.out _ hD3).mono ?_
                  clear hD3
                  rintro e v4 ⟨rfl, hD4⟩
                  go_wp2_with fail
                  refine (HQ.out _ hD4).mono ?_
                  clear hD4
                  rintro e v5 ⟨rfl, hD5⟩
                  go_wp2_with fail
                  refine (HP.out _ hD5).mono ?_
                  clear hD5
                  rintro e v6 ⟨rfl, hD6⟩
                  go_wp2_with fail
                  refine (HQ.out _ hD6).mono ?_
                  clear hD6
                  rintro e v7 ⟨rfl, hD7⟩
                  go_wp2_with fail
                  go_roundw
                  case rel => exact ⟨k + 1, by go_num, by omega, by assumption⟩
                  case measure => simp [intOf]; omega
                | false =>
                  clear hpa
                  cases an with
                  | true =>
                    simp only [Bool.not_false, Bool.and_true] at HQ
                    go_wp2_with fail
                    refine (HP.out _ hD).mono ?_
                    rintro e v1 ⟨rfl, hD1⟩
                    go_wp2_with fail
                    refine (HH.out _ hD1).mono ?_
                    rintro e v2 ⟨rfl, rfl⟩
                    go_wp2_with fail
                    refine (HA2.out _ hD1).mono ?_
                    clear hD1
                    rintro e v3 ⟨rfl, hD3⟩
                    go_wp2_with fail
                    refine (HP.out _ hD3).mono ?_
                    clear hD3
                    rintro e v4 ⟨rfl, hD4⟩
                    go_wp2_with fail
                    refine (HQ.out _ hD4).mono ?_
                    clear hD4
                    rintro e v5 ⟨rfl, hD5⟩
                    go_wp2_with fail
                    refine (HP.out _ hD5).mono ?_
                    clear hD5
                    rintro e v6 ⟨rfl, hD6⟩
                    go_wp2_with fail
                    go_roundw
                    case rel => exact ⟨k + 1, by go_num, by omega, by assumption⟩
                    case measure => simp [intOf]; omega
                  | false =>
                    simp only [Bool.not_false, Bool.and_true] at HQ
                    go_wp2_with fail
                    refine (HP.out _ hD).mono ?_
                    rintro e v1 ⟨rfl, hD1⟩
                    go_wp2_with fail
                    refine (HH.out _ hD1).mono ?_
                    rintro e v2 ⟨rfl, rfl⟩
                    go_wp2_with fail
                    refine (HA2.out _ hD1).mono ?_
                    clear hD1
                    rintro e v3 ⟨rfl, hD3⟩
                    go_wp2_with fail
                    refine (HP.out _ hD3).mono ?_
                    clear hD3
                    rintro e v4 ⟨rfl, hD4⟩
                    go_wp2_with fail
                    refine (HQ.out _ hD4).mono ?_
                    clear hD4
                    rintro e v5 ⟨rfl, hD5⟩
                    go_wp2_with fail
                    refine (HP.out _ hD5).mono ?_
                    clear hD5
                    rintro e v6 ⟨rfl, hD6⟩
                    go_wp2_with fail
                    go_roundw
                    case rel => exact ⟨k + 1, by go_num, by omega, by assumption⟩
                    case measure => simp [intOf]; omega
              · obtain rfl : k = 9 := by omega
                have hT6 := HT6.out.below hD.below
                have hC6 := Kd.C_below HC56.out hD.below
                have hn2 := hT6.y.sorted (by omega)
                rw [HSP.out] at hn2
                have HN2 := Lib.hid hn2; clear hn2
                go_wp2_with fail
                refine HN2.out.mono ?_
                rintro e w7 ⟨A7, c7, rfl, hc7, hC7, hb7⟩
                have hT7 := hT6.below hb7
                clear hT6
                go_wp2_with fail
                refine (ints_any A5 c5 P1 A7 c7 P1 _ (Kd.C_below hC6 hb7) hc5 hC7 hc7).mono ?_
                rintro e w8 ⟨rfl, hd8⟩
                rw [decide_eq_true rfl]
                have hT8 := hT7.below hd8.below
                clear hC6 hC7 hT7
                have hqx : ∀ (W : World), Two w W g mb g' mb' shs al N1 shs al N1 → Calls Try.prog 13 #[.pointer (some ⟨g, 0, none⟩)] W fun e w' => e = .returned (.bool (shs.all (enoughB enQ N1))) ∧ Two w w' g mb g' mb' shs al N1 shs al N1 := fun W h =>
                  (h.x.quorum HG2.out).mono fun e w' ⟨he, hb⟩ => ⟨he, h.below hb⟩
                have hqy : ∀ (W : World), Two w W g mb g' mb' shs al N1 shs al N1 → Calls Try.prog 13 #[.pointer (some ⟨g', 0, none⟩)] W fun e w' => e = .returned (.bool (shs.all (enoughB enQ N1))) ∧ Two w w' g mb g' mb' shs al N1 shs al N1 := fun W h =>
                  (h.y.quorum HG2.out).mono fun e w' ⟨he, hb⟩ => ⟨he, h.below hb⟩
                have hax : ∀ (W : World), Two w W g mb g' mb' shs al N1 shs al N1 → Calls Try.prog 15 #[.pointer (some ⟨g, 0, none⟩)] W fun e w' => e = .returned (.bool (decide ((Q.length : Int) = 0))) ∧ Two w w' g mb g' mb' shs al N1 shs al N1 := fun W h =>
                  (h.x.every HG2.out).mono fun e w' ⟨he, hb⟩ => ⟨by rw [he, HQE.out], h.below hb⟩
                generalize shs.all (enoughB enQ N1) = q at *
                have HQX := Lib.hid hqx; have HQY := Lib.hid hqy; have HAX := Lib.hid hax
                clear hqx hqy hax
                go_wp2_with fail
                refine (HQX.out _ hT8).mono ?_
                rintro e w9 ⟨rfl, hT9⟩
                go_wp2_with fail
                refine (HQY.out _ hT9).mono ?_
                rintro e w10 ⟨rfl, hT10⟩
                go_wp2_with fail
                refine (HAX.out _ hT10).mono ?_
                rintro e w11 ⟨rfl, hT11⟩
                go_wp2_with fail
                · refine (live_any _).mono ?_
                  rintro e w12 ⟨rfl, hb12⟩
                  go_wp2_with fail
                  go_ret
                  exact ⟨rfl, below_then hT11.1 hT11.1.size hb12⟩
                · rename_i hn
                  exact absurd (by by_cases z : Q = [] <;> simp [z]) hn
      · go_wp2_with fail
        refine (live_any _).mono ?_
        rintro e w2 ⟨rfl, hb2⟩
        go_wp2_with fail
        go_ret
        exact ⟨rfl, below_then hb1 hb1.size hb2⟩
    · go_wp2_with fail
      refine (live_any _).mono ?_
      rintro e w2 ⟨rfl, hb2⟩
      go_wp2_with fail
      go_ret
      exact ⟨rfl, below_then hb1 hb1.size hb2⟩
end Go.Proofs.Ytmljpidhhiineaa.P
