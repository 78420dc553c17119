/- Whoever answers: a tally beside the reference's: the walk of the statement. -/
import Derived.Test.YtmljpidhhiineaaPCnt
import Derived.Test.YtmljpidhhiineaaPBL
import Derived.Test.YtmljpidhhiineaaPMeet
namespace Go.Proofs.Ytmljpidhhiineaa.P
open Go.RowKit Go.Proofs.YtmljpidhhiineaaW.PrintWords Go.Proofs.YtmljpidhhiineaaW.PrintLast
theorem cellU {W W' : World} {mb : Nat} (hu : Upd W W' (· = mb)) {a : Addr} {v : Value} (hn : mb ≠ a.block) (h : W.cell? a = some v) : W'.cell? a = some v := (World.cell?_of_block (w := W) (hu.block a.block (World.block_lt_of_cell? W _ h) (fun e => hn e.symm))).trans h
def CntRel (w : World) (g mb g' B : Nat) (shs : List S40) (al : List Int) (l : List S40) (P a : List Int) (kv : Value) (wr : World) : Prop :=
  ∃ k : Nat, kv = .int .i64 k ∧ k ≤ a.length ∧ Both w wr g mb g' B shs al (addsP al [] (a.take k)) l P (addsP al [] (a.take k))
set_option maxHeartbeats 8000000 in
set_option maxRecDepth 100000 in
theorem tallyCounts_any (A : Option Addr) (c : Nat) (l : List S40) (D : Option Addr) (d : Nat) (sh : List Int) (A1 : Option Addr) (c1 : Nat) (a : List Int) (w : World)
    (hL : Kd.C k40 w A l.length l) (hc : l.length ≤ c) (hlen : ∀ s ∈ l, s.f1.length ≤ 9223372036854775807) (hS : Kd.C (Kd.int .i64) w D sh.length sh) (hA : Kd.C (Kd.int .i64) w A1 a.length a) (hAw : ∀ x ∈ a, wfI x) :
    Calls Try.prog 3 #[.slice A l.length c, .slice D sh.length d, .slice A1 a.length c1] w fun e w' => e = .returned (.bool true) ∧ Below w.heap.size w w' := by
  have hm0 := hL.2.1; have hm1 := hS.2.1; have hm2 := hA.2.1
  have HR := Lib.hid (right_any A c l w hL hc hlen)
  have HL := Lib.hid hL; have HS := Lib.hid hS; have HA := Lib.hid hA; have HAW := Lib.hid hAw
  clear hL hS hA hAw hlen
  go_enter Try.func3, Try.ntmps3
  go_wp2_with fail
  refine HR.out.mono ?_
  rintro e w1 ⟨r, rfl, hgood, hb1⟩
  cases r with
  | false =>
    go_wp2_with fail
    refine (live_any _).mono ?_
    rintro e w2 ⟨rfl, hb2⟩
    go_wp2_with fail
    go_ret
    exact ⟨rfl, below_then hb1 hb1.size hb2⟩
  | true =>
    have HG := Lib.hid (hgood rfl); clear hgood
    by_cases h1 : sh.length ≤ 40
    · by_cases h2 : a.length ≤ 40
      · have d1 : decide (40 < (sh.length : Int)) = false := decide_eq_false (by omega)
        have d2 : decide (40 < (a.length : Int)) = false := decide_eq_false (by omega)
        obtain ⟨w0, hw0⟩ : ∃ w0, w1.alloc (.cells #[] 3) = w0 := ⟨_, rfl⟩
        have hB0 : Below w1.heap.size w1 w0 := hw0 ▸ (Below.refl _ _).alloc (Nat.le_refl _) _
        have hO0 : w0.ownsRow w1.heap.size 3 1 (.slice (some ⟨w1.heap.size, 0, none⟩) 0 0) 0 (nums .i64 []) := hw0 ▸ own_lit w1 w1.heap.size 3 .i64 [] (Nat.le_refl _) (by decide)
        have hS0 := Kd.C_below HS.out (hb1.trans (hB0.mono hb1.size))
        have HRI := Lib.hid (readsInt_of.2 (Kd.reads_of_C (d := (0 : Int)) hS0))
        have HO0 := Lib.hid hO0; clear hO0 hS0
        have hz0 := hB0.size
        go_wp2_with ((with_reducible refine gate_builtin (b := .append) (xs := #[.tmp 25, .tmp 26]) rfl ?_); at_builtin; refine print_append_row (w0 := w0) w1.heap.size rfl (.tmp 25) (.tmp 26) 23 3 .i64 8 rfl Try.underlying23 info3 (by decide) (.slice (some ⟨w1.heap.size, 0, none⟩) 0 0) [] sh D sh.length d rfl rfl HO0.out HRI.out (Below.refl _ _) hz0 (by simp; omega) ?_; intro v1 w6 hO1 hb6 hg6 hat6)
        rw [List.nil_append] at hO1
        obtain ⟨A6, c6, rfl, hc6, hC6⟩ := own_C hO1
        have hbw6 : Below w.heap.size w w6 := hb1.trans ((hB0.trans hb6).mono hb1.size)
        clear hw0 hO1 hb6 hg6 hat6 hB0 hb1 hz0
        go_wp2_with fail
        clear d1 d2
        refine (one_new HL.out hbw6 hC6 (by omega)).mono ?_
        rintro e w7 ⟨g, mb, rfl, hx⟩
        clear hC6 hbw6
        go_wp2_with fail
        refine (both_new hx HL.out hc (Kd.C_below HS.out hx.1) (by omega)).mono ?_
        rintro e w8 ⟨g', B, rfl, hxy⟩
        clear hx
        have HCG := Lib.hid (cg_of HG.out sh h1)
        generalize pickS l (sortC sh) = shs at *
        generalize nodesP l sh = al at *
        generalize refP l.length sh = P at *
        go_wp2
        go_loopw [9] (fun kv wr => CntRel w g mb g' B shs al l P a kv wr) (fun k _ => a.length + 1 - (intOf k).toNat)
        case atStart => exact ⟨0, rfl, Nat.zero_le _, hxy⟩
        case round =>
          clear hxy
          obtain ⟨k, rfl, hk, hT⟩ := hrel
          have hnd := addsP_nodup al (a.take k) [] List.nodup_nil
          have hsb := addsP_sub al (a.take k)
          have hpl := addsP_len al (a.take k) []
          rw [List.length_take] at hpl
          simp only [List.length_nil, Nat.zero_add] at hpl
          have hsn := fun (hlt : k < a.length) => (take_snocI a hlt ▸ addsP_snoc al [] (a.take k) a[k] : addsP al [] (a.take (k + 1)) = addP al (addsP al [] (a.take k)) a[k])
          generalize addsP al [] (a.take k) = N at *
          have HND := Lib.hid hnd; have HSB := Lib.hid hsb; have HSN := Lib.hid hsn
          clear hnd hsb hsn
          have hq1 := fun W (h : Both w W g mb g' B shs al N l P N) => h.tq HCG.out
          have hq2 := fun W (h : Both w W g mb g' B shs al N l P N) => h.rq HCG.out
          have hv1 := fun W (h : Both w W g mb g' B shs al N l P N) => h.tv HCG.out
          have hv2 := fun W (h : Both w W g mb g' B shs al N l P N) => h.rv HCG.out
          have he1 := fun W (h : Both w W g mb g' B shs al N l P N) => h.te HCG.out
          have he2 := fun W (h : Both w W g mb g' B shs al N l P N) => h.re HCG.out
          have hn1 := fun W (h : Both w W g mb g' B shs al N l P N) => h.tn (by omega)
          have hn2 := fun W (h : Both w W g mb g' B shs al N l P N) => h.rn HCG.out HND.out HSB.out
          have hw1 := fun W (h : Both w W g mb g' B shs al N l P N) => h.tw HCG.out
          have hw2 := fun W (h : Both w W g mb g' B shs al N l P N) => h.rw_ HCG.out
          generalize shs.all (enoughB enQ N) = q at *
          generalize shs.all (enoughB enA N) = av at *
          generalize shs.all (enoughB enE N) = ev at *
          generalize sortP N = X1 at *
          generalize pickP N false al = X2 at *
          have Q1 := Lib.hid hq1; have Q2 := Lib.hid hq2; have V1 := Lib.hid hv1; have V2 := Lib.hid hv2; have E1 := Lib.hid he1; have E2 := Lib.hid he2
          have M1 := Lib.hid hn1; have M2 := Lib.hid hn2; have W1 := Lib.hid hw1; have W2 := Lib.hid hw2
          clear hq1 hq2 hv1 hv2 he1 he2 hn1 hn2 hw1 hw2
          go_wp2_with fail
          refine (Q1.out _ hT).mono ?_
          clear hT
          rintro e v1 ⟨rfl, hT1⟩
          go_wp2_with fail
          refine (Q2.out _ hT1).mono ?_
          clear hT1
          rintro e v2 ⟨rfl, hT2⟩
          go_wp2_with fail
          refine (V1.out _ hT2).mono ?_
          clear hT2
          rintro e v3 ⟨rfl, hT3⟩
          go_wp2_with fail
          refine (V2.out _ hT3).mono ?_
          clear hT3
          rintro e v4 ⟨rfl, hT4⟩
          go_wp2_with fail
          refine (E1.out _ hT4).mono ?_
          clear hT4
          rintro e v5 ⟨rfl, hT5⟩
          go_wp2_with fail
          refine (E2.out _ hT5).mono ?_
          clear hT5
          rintro e v6 ⟨rfl, hT6⟩
          go_wp2_with fail
          refine (M1.out _ hT6).mono ?_
          clear hT6
          rintro e v7 ⟨A2, c2, rfl, hc2, hC2, hb2, hT7⟩
          go_wp2_with fail
          refine (M2.out _ hT7).mono ?_
          clear hT7
          rintro e v8 ⟨A3, c3, rfl, hc3, hC3, hb3, hT8⟩
          have hC2 := Kd.C_below hC2 hb3
          go_wp2_with fail
          refine (ints_any A2 c2 X1 A3 c3 X1 _ hC2 hc2 hC3 hc3).mono ?_
          rintro e v9 ⟨rfl, hd9⟩
          have hT9 := hT8.below hd9.below
          rw [decide_eq_true rfl]
          clear hT8 hC2 hC3 hc2 hc3 hb2 hb3 hd9
          go_wp2_with fail
          refine (W1.out _ hT9).mono ?_
          clear hT9
          rintro e v10 ⟨A2, c2, rfl, hc2, hC2, hb2, hT10⟩
          go_wp2_with fail
          refine (W2.out _ hT10).mono ?_
          clear hT10
          rintro e v11 ⟨A3, c3, rfl, hc3, hC3, hb3, hT11⟩
          have hC2 := Kd.C_below hC2 hb3
          go_wp2_with fail
          refine (ints_any A2 c2 X2 A3 c3 X2 _ hC2 hc2 hC3 hc3).mono ?_
          rintro e v12 ⟨rfl, hd12⟩
          have hT := hT11.below hd12.below
          rw [decide_eq_true rfl]
          clear hT11 hC2 hC3 hc2 hc3 hb2 hb3 hd12
          clear Q1 Q2 V1 V2 E1 E2 M1 M2 W1 W2
          by_cases hlt : k < a.length
          · have d3 : decide ((k : Int) = (a.length : Int)) = false := decide_eq_false (by omega)
            obtain ⟨ac, rfl, hck⟩ := Kd.at_int HA.out (k : Int) (by omega) (by omega)
            rw [rd_nat a hlt] at hck
            simp only [Int.toNat_natCast] at hck
            have hxw := HAW.out _ (List.getElem_mem hlt)
            have hsn := HSN.out hlt
            clear HSN
            generalize a[k] = u at *
            have HSN := Lib.hid hsn; clear hsn
            obtain ⟨_, _, _, _, A4, c4, _, _, hcN, _, _, _, _, hCN, hcN4⟩ := hT.r.reads
            have hblk := World.block_lt_of_cell? w _ hck
            have hck := pw_cell_below hT.1 hck
            have hTd := hT.below (below_drew (Below.refl _ v12))
            have hhas := fun W (h : Both w W g mb g' B shs al N l P N) => h.x.has hxw
            have hin := fun W (h : Below v12.heap.size v12 W) => in_any A4 c4 N u W (Kd.C_below hCN h) hcN4
            have hadd := fun W (h : Both w W g mb g' B shs al N l P N) => h.addT hxw (by omega)
            have hadr := fun W (h : Both w W g mb g' B shs al (addP al N u) l P N) => h.addR HCG.out (by omega) u
            have hmb : mb ≠ (ac.add k).block ∧ mb ≠ g' := by
              obtain ⟨z1, z2, z3, z4, z5, z6, z7, z8⟩ := hT
              have := z8.1
              exact ⟨by omega, by omega⟩
            clear hblk
            generalize decide (u ∈ N) = hv at *
            generalize decide (u ∉ N ∧ u ∈ al) = bv at *
            have HHAS := Lib.hid hhas; have HIN := Lib.hid hin; have HADD := Lib.hid hadd; have HADR := Lib.hid hadr
            have HTD := Lib.hid hTd; have HMB := Lib.hid hmb
            clear hhas hin hadd hadr hTd hCN hT hmb
            go_upto_region 13 with fail
            clear d3
            refine wp_region_last3_held (S := (fun W => W.cell? (ac.add k) = some (.int .i64 u) ∧ W.cell? ⟨g', 2, none⟩ = some (.slice A4 N.length c4))) (l := [_, _, _, _, _, _, _, _, _, _, _, _, _, _, _, _, _, _, _, _, _, _, _, _, _, _, _, _]) (o1 := _) (o2 := _) (o3 := _) (by kernel_rfl) (by kernel_rfl) (by kernel_rfl) (by kernel_rfl) ?_
            simp only [List.size_toArray, List.length_cons, List.length_nil, Nat.zero_add, Nat.reduceAdd]
            have hHeld : ((fun W => W.cell? (ac.add k) = some (.int .i64 u) ∧ W.cell? ⟨g', 2, none⟩ = some (.slice A4 N.length c4))) v12.drew := ⟨hck, hcN⟩
            refine wpAnyH_take (i := 0) (v := ?_) rfl (by kernel_rfl) (by kernel_rfl) (by kernel_rfl) (fun _ _ _ h => h) (Or.inl ⟨by rfl, ?_⟩) (by assumption) ?_
            rotate_left
            · (intro w hSw; (try dsimp only at hSw); go_split_ands; go_simp; try with_reducible rfl)
            try simp only [List.getElem_toArray, List.getElem_cons_succ, List.getElem_cons_zero, Act.put, List.setIfInBounds_toArray, List.set_cons_zero, List.set_cons_succ]
            refine wpAnyH_take (i := 1) (v := ?_) rfl (by kernel_rfl) (by kernel_rfl) (by kernel_rfl) (fun _ _ _ h => h) (Or.inl ⟨by rfl, ?_⟩) (by assumption) ?_
            rotate_left
            · (intro w hSw; (try dsimp only at hSw); go_split_ands; go_simp; try with_reducible rfl)
            try simp only [List.getElem_toArray, List.getElem_cons_succ, List.getElem_cons_zero, Act.put, List.setIfInBounds_toArray, List.set_cons_zero, List.set_cons_succ]
            refine wpAnyH_take (i := 2) (v := ?_) rfl (by kernel_rfl) (by kernel_rfl) (by kernel_rfl) (fun _ _ _ h => h) (Or.inl ⟨by rfl, ?_⟩) (by assumption) ?_
            rotate_left
            · (intro w hSw; (try dsimp only at hSw); go_split_ands; go_simp; try with_reducible rfl)
            try simp only [List.getElem_toArray, List.getElem_cons_succ, List.getElem_cons_zero, Act.put, List.setIfInBounds_toArray, List.set_cons_zero, List.set_cons_succ]
            refine wpAnyH_take (i := 3) (v := ?_) rfl (by kernel_rfl) (by kernel_rfl) (by kernel_rfl) (fun _ _ _ h => h) (Or.inl ⟨by rfl, ?_⟩) (by assumption) ?_
            rotate_left
            · (intro w hSw; (try dsimp only at hSw); go_split_ands; go_simp; try with_reducible rfl)
            try simp only [List.getElem_toArray, List.getElem_cons_succ, List.getElem_cons_zero, Act.put, List.setIfInBounds_toArray, List.set_cons_zero, List.set_cons_succ]
            refine wpAnyH_take (i := 4) (v := ?_) rfl (by kernel_rfl) (by kernel_rfl) (by kernel_rfl) (fun _ _ _ h => h) (Or.inl ⟨by rfl, ?_⟩) (by assumption) ?_
            rotate_left
            · (intro w hSw; (try dsimp only at hSw); go_split_ands; go_simp; try with_reducible rfl)
            try simp only [List.getElem_toArray, List.getElem_cons_succ, List.getElem_cons_zero, Act.put, List.setIfInBounds_toArray, List.set_cons_zero, List.set_cons_succ]
            refine wpAnyH_take (i := 6) (v := ?_) rfl (by kernel_rfl) (by kernel_rfl) (by kernel_rfl) (fun _ _ _ h => h) (Or.inl ⟨by rfl, ?_⟩) (by assumption) ?_
            rotate_left
            · (intro w hSw; (try dsimp only at hSw); go_split_ands; go_simp; try with_reducible rfl)
            try simp only [List.getElem_toArray, List.getElem_cons_succ, List.getElem_cons_zero, Act.put, List.setIfInBounds_toArray, List.set_cons_zero, List.set_cons_succ]
            refine wpAnyH_take (i := 7) (v := ?_) rfl (by kernel_rfl) (by kernel_rfl) (by kernel_rfl) (fun _ _ _ h => h) (Or.inl ⟨by rfl, ?_⟩) (by assumption) ?_
            rotate_left
            · (intro w hSw; (try dsimp only at hSw); go_split_ands; go_simp; try with_reducible rfl)
            try simp only [List.getElem_toArray, List.getElem_cons_succ, List.getElem_cons_zero, Act.put, List.setIfInBounds_toArray, List.set_cons_zero, List.set_cons_succ]
            refine wpAnyH_take (i := 8) (v := ?_) rfl (by kernel_rfl) (by kernel_rfl) (by kernel_rfl) (fun _ _ _ h => h) (Or.inl ⟨by rfl, ?_⟩) (by assumption) ?_
            rotate_left
            · (intro w hSw; (try dsimp only at hSw); go_split_ands; go_simp; try with_reducible rfl)
            try simp only [List.getElem_toArray, List.getElem_cons_succ, List.getElem_cons_zero, Act.put, List.setIfInBounds_toArray, List.set_cons_zero, List.set_cons_succ]
            refine wpAnyH_take (i := 9) (v := ?_) rfl (by kernel_rfl) (by kernel_rfl) (by kernel_rfl) (fun _ _ _ h => h) (Or.inl ⟨by rfl, ?_⟩) (by assumption) ?_
            rotate_left
            · (intro w hSw; (try dsimp only at hSw); go_split_ands; go_simp; try with_reducible rfl)
            try simp only [List.getElem_toArray, List.getElem_cons_succ, List.getElem_cons_zero, Act.put, List.setIfInBounds_toArray, List.set_cons_zero, List.set_cons_succ]
            refine wpAnyH_take (i := 10) (v := ?_) rfl (by kernel_rfl) (by kernel_rfl) (by kernel_rfl) (fun _ _ _ h => h) (Or.inl ⟨by rfl, ?_⟩) (by assumption) ?_
            rotate_left
            · (intro w hSw; (try dsimp only at hSw); go_split_ands; go_simp; try with_reducible rfl)
            try simp only [List.getElem_toArray, List.getElem_cons_succ, List.getElem_cons_zero, Act.put, List.setIfInBounds_toArray, List.set_cons_zero, List.set_cons_succ]
            refine wpAnyH_take (i := 11) (v := ?_) rfl (by kernel_rfl) (by kernel_rfl) (by kernel_rfl) (fun _ _ _ h => h) (Or.inl ⟨by rfl, ?_⟩) (by assumption) ?_
            rotate_left
            · (intro w hSw; (try dsimp only at hSw); go_split_ands; go_simp; try with_reducible rfl)
            try simp only [List.getElem_toArray, List.getElem_cons_succ, List.getElem_cons_zero, Act.put, List.setIfInBounds_toArray, List.set_cons_zero, List.set_cons_succ]
            refine wpAnyH_take (i := 12) (v := ?_) rfl (by kernel_rfl) (by kernel_rfl) (by kernel_rfl) (fun _ _ _ h => h) (Or.inl ⟨by rfl, ?_⟩) (by assumption) ?_
            rotate_left
            · (intro w hSw; (try dsimp only at hSw); go_split_ands; go_simp; try with_reducible rfl)
            try simp only [List.getElem_toArray, List.getElem_cons_succ, List.getElem_cons_zero, Act.put, List.setIfInBounds_toArray, List.set_cons_zero, List.set_cons_succ]
            refine wpAnyH_take (i := 13) (v := ?_) rfl (by kernel_rfl) (by kernel_rfl) (by kernel_rfl) (fun _ _ _ h => h) (Or.inl ⟨by rfl, ?_⟩) (by assumption) ?_
            rotate_left
            · (intro w hSw; (try dsimp only at hSw); go_split_ands; go_simp; try with_reducible rfl)
            try simp only [List.getElem_toArray, List.getElem_cons_succ, List.getElem_cons_zero, Act.put, List.setIfInBounds_toArray, List.set_cons_zero, List.set_cons_succ]
            refine wpAnyH_ready (rs := [5]) (by kernel_rfl) (by simp) ?_
            refine AllReadyH.cons rfl (fun K hK => ?_) AllReadyH.nil
            go_simp
            refine (HHAS.out _ HTD.out).mono ?_
            rintro e vh ⟨rfl, rfl⟩
            refine hK.out _ _ ?_ (fun hHeld => ?_)
            · exact hHeld
            clear hK K
            try simp only [List.getElem_toArray, List.getElem_cons_succ, List.getElem_cons_zero, Act.put, List.setIfInBounds_toArray, List.set_cons_zero, List.set_cons_succ]
            refine wpAnyH_ready (rs := [14]) (by kernel_rfl) (by simp) ?_
            refine AllReadyH.cons rfl (fun K hK => ?_) AllReadyH.nil
            go_simp
            refine (HIN.out _ (below_drew (Below.refl _ _))).mono ?_
            rintro e vi ⟨rfl, hdi⟩
            refine hK.out _ _ ?_ (fun hHeld => ?_)
            · exact ⟨pw_cell_below hdi.below hHeld.1, pw_cell_below hdi.below hHeld.2⟩
            clear hK K
            try simp only [List.getElem_toArray, List.getElem_cons_succ, List.getElem_cons_zero, Act.put, List.setIfInBounds_toArray, List.set_cons_zero, List.set_cons_succ]
            refine wpAnyH_take (i := 15) (v := ?_) rfl (by kernel_rfl) (by kernel_rfl) (by kernel_rfl) (fun _ _ _ h => h) (Or.inl ⟨by rfl, ?_⟩) (by assumption) ?_
            rotate_left
            · (intro w hSw; (try dsimp only at hSw); go_split_ands; go_simp; try with_reducible rfl)
            try simp only [List.getElem_toArray, List.getElem_cons_succ, List.getElem_cons_zero, Act.put, List.setIfInBounds_toArray, List.set_cons_zero, List.set_cons_succ]
            refine wpAnyH_take (i := 16) (v := ?_) rfl (by kernel_rfl) (by kernel_rfl) (by kernel_rfl) (fun _ _ _ h => h) (Or.inl ⟨by rfl, ?_⟩) (by assumption) ?_
            rotate_left
            · (intro w hSw; (try dsimp only at hSw); go_split_ands; go_simp; try with_reducible rfl)
            try simp only [List.getElem_toArray, List.getElem_cons_succ, List.getElem_cons_zero, Act.put, List.setIfInBounds_toArray, List.set_cons_zero, List.set_cons_succ]
            refine wpAnyH_take (i := 17) (v := ?_) rfl (by kernel_rfl) (by kernel_rfl) (by kernel_rfl) (fun _ _ _ h => h) (Or.inl ⟨by rfl, ?_⟩) (by assumption) ?_
            rotate_left
            · (intro w hSw; (try dsimp only at hSw); go_split_ands; go_simp; try with_reducible rfl)
            try simp only [List.getElem_toArray, List.getElem_cons_succ, List.getElem_cons_zero, Act.put, List.setIfInBounds_toArray, List.set_cons_zero, List.set_cons_succ]
            refine wpAnyH_take (i := 18) (v := ?_) rfl (by kernel_rfl) (by kernel_rfl) (by kernel_rfl) (fun _ _ _ h => h) (Or.inl ⟨by rfl, ?_⟩) (by assumption) ?_
            rotate_left
            · (intro w hSw; (try dsimp only at hSw); go_split_ands; go_simp; try with_reducible rfl)
            try simp only [List.getElem_toArray, List.getElem_cons_succ, List.getElem_cons_zero, Act.put, List.setIfInBounds_toArray, List.set_cons_zero, List.set_cons_succ]
            refine wpAnyH_take (i := 19) (v := ?_) rfl (by kernel_rfl) (by kernel_rfl) (by kernel_rfl) (fun _ _ _ h => h) (Or.inl ⟨by rfl, ?_⟩) (by assumption) ?_
            rotate_left
            · (intro w hSw; (try dsimp only at hSw); go_split_ands; go_simp; try with_reducible rfl)
            try simp only [List.getElem_toArray, List.getElem_cons_succ, List.getElem_cons_zero, Act.put, List.setIfInBounds_toArray, List.set_cons_zero, List.set_cons_succ]
            refine wpAnyH_take (i := 20) (v := ?_) rfl (by kernel_rfl) (by kernel_rfl) (by kernel_rfl) (fun _ _ _ h => h) (Or.inl ⟨by rfl, ?_⟩) (by assumption) ?_
            rotate_left
            · (intro w hSw; (try dsimp only at hSw); go_split_ands; go_simp; try with_reducible rfl)
            try simp only [List.getElem_toArray, List.getElem_cons_succ, List.getElem_cons_zero, Act.put, List.setIfInBounds_toArray, List.set_cons_zero, List.set_cons_succ]
            refine wpAnyH_take (i := 21) (v := ?_) rfl (by kernel_rfl) (by kernel_rfl) (by kernel_rfl) (fun _ _ _ h => h) (Or.inl ⟨by rfl, ?_⟩) (by assumption) ?_
            rotate_left
            · (intro w hSw; (try dsimp only at hSw); go_split_ands; go_simp; try with_reducible rfl)
            try simp only [List.getElem_toArray, List.getElem_cons_succ, List.getElem_cons_zero, Act.put, List.setIfInBounds_toArray, List.set_cons_zero, List.set_cons_succ]
            refine wpAnyH_take (i := 23) (v := ?_) rfl (by kernel_rfl) (by kernel_rfl) (by kernel_rfl) (fun _ _ _ h => h) (Or.inl ⟨by rfl, ?_⟩) (by assumption) ?_
            rotate_left
            · (intro w hSw; (try dsimp only at hSw); go_split_ands; go_simp; try with_reducible rfl)
            try simp only [List.getElem_toArray, List.getElem_cons_succ, List.getElem_cons_zero, Act.put, List.setIfInBounds_toArray, List.set_cons_zero, List.set_cons_succ]
            refine wpAnyH_take (i := 24) (v := ?_) rfl (by kernel_rfl) (by kernel_rfl) (by kernel_rfl) (fun _ _ _ h => h) (Or.inl ⟨by rfl, ?_⟩) (by assumption) ?_
            rotate_left
            · (intro w hSw; (try dsimp only at hSw); go_split_ands; go_simp; try with_reducible rfl)
            try simp only [List.getElem_toArray, List.getElem_cons_succ, List.getElem_cons_zero, Act.put, List.setIfInBounds_toArray, List.set_cons_zero, List.set_cons_succ]
            refine wpAnyH_take (i := 25) (v := ?_) rfl (by kernel_rfl) (by kernel_rfl) (by kernel_rfl) (fun _ _ _ h => h) (Or.inl ⟨by rfl, ?_⟩) (by assumption) ?_
            rotate_left
            · (intro w hSw; (try dsimp only at hSw); go_split_ands; go_simp; try with_reducible rfl)
            try simp only [List.getElem_toArray, List.getElem_cons_succ, List.getElem_cons_zero, Act.put, List.setIfInBounds_toArray, List.set_cons_zero, List.set_cons_succ]
            refine wpAnyH_take (i := 26) (v := ?_) rfl (by kernel_rfl) (by kernel_rfl) (by kernel_rfl) (fun _ _ _ h => h) (Or.inl ⟨by rfl, ?_⟩) (by assumption) ?_
            rotate_left
            · (intro w hSw; (try dsimp only at hSw); go_split_ands; go_simp; try with_reducible rfl)
            try simp only [List.getElem_toArray, List.getElem_cons_succ, List.getElem_cons_zero, Act.put, List.setIfInBounds_toArray, List.set_cons_zero, List.set_cons_succ]
            refine wpAnyH_take (i := 27) (v := ?_) rfl (by kernel_rfl) (by kernel_rfl) (by kernel_rfl) (fun _ _ _ h => h) (Or.inl ⟨by rfl, ?_⟩) (by assumption) ?_
            rotate_left
            · (intro w hSw; (try dsimp only at hSw); go_split_ands; go_simp; try with_reducible rfl)
            try simp only [List.getElem_toArray, List.getElem_cons_succ, List.getElem_cons_zero, Act.put, List.setIfInBounds_toArray, List.set_cons_zero, List.set_cons_succ]
            refine wpAnyH_ready (rs := [22]) (by kernel_rfl) (by simp) ?_
            refine AllReadyH.cons rfl (fun K hK => ?_) AllReadyH.nil
            go_simp
            refine (HADD.out _ (HTD.out.below hdi.below)).mono ?_
            rintro e va ⟨rfl, hTa, hua⟩
            refine hK.out _ _ ?_ (fun hHeld => ?_)
            · exact ⟨cellU hua HMB.out.1 hHeld.1, cellU hua HMB.out.2 hHeld.2⟩
            clear hK K
            try simp only [List.getElem_toArray, List.getElem_cons_succ, List.getElem_cons_zero, Act.put, List.setIfInBounds_toArray, List.set_cons_zero, List.set_cons_succ]
            refine wpAnyH_done (by kernel_rfl) ?_ _
            refine lastPost_wp ?_
            go_wp2_with fail
            refine (HADR.out _ hTa).mono ?_
            rintro e vr ⟨rfl, hTr⟩
            go_wp2_with fail
            refine lastPost_wp ?_
            go_wp2_with fail
            refine lastPost_wp ?_
            go_wp2_with fail
            go_roundw
            case rel => exact ⟨k + 1, by go_num, by omega, by rw [HSN.out]; assumption⟩
            case measure => simp [intOf]; omega
          · obtain rfl : k = a.length := by omega
            go_wp2_with fail
            refine (live_any _).mono ?_
            rintro e w12 ⟨rfl, hb12⟩
            go_wp2_with fail
            go_ret
            exact ⟨rfl, below_then hT.1 hT.1.size hb12⟩
      · go_wp2_with fail
        refine (live_any _).mono ?_
        rintro e w2 ⟨rfl, hb2⟩
        go_wp2_with fail
        go_ret
        exact ⟨rfl, below_then hb1 hb1.size hb2⟩
    · go_wp2_with fail
      refine (live_any _).mono ?_
      rintro e w2 ⟨rfl, hb2⟩
      go_wp2_with fail
      go_ret
      exact ⟨rfl, below_then hb1 hb1.size hb2⟩
end Go.Proofs.Ytmljpidhhiineaa.P
