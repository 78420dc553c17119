/- The reference's tally: at, Quorum, All, Each, Nodes, Waiting. -/
import Derived.Test.YtmljpidhhiineaaPRefP
namespace Go.Proofs.Ytmljpidhhiineaa.P
open Go.RowKit Go.Proofs.YtmljpidhhiineaaW.PrintWords Go.Proofs.YtmljpidhhiineaaW.PrintLast
def atP (l : List S40) (N : List Int) (t o : Int) (p : Int) : Bool := !decide (t * (cntP N (Go.Proofs.Ytmljpidhhiineaa.P.rd_T40 l p).f1 : Int) ≤ o * ((Go.Proofs.Ytmljpidhhiineaa.P.rd_T40 l p).f1.length : Int))
section
variable {w : World} {B g : Nat} {okl : Nat → Prop} {l : List S40} {P N : List Int}
def AtRel (w : World) (P : List Int) (p : Int → Bool) (kv : Value) (wr : World) : Prop := ∃ k : Nat, kv = .int .i64 k ∧ k ≤ P.length ∧ Drawn0 w wr ∧ (P.take k).all p = true
def AtIn (w : World) (N ns : List Int) (cv jv : Value) (wr : World) : Prop := ∃ j : Nat, cv = .int .i64 (cntP N (ns.take j)) ∧ jv = .int .i64 j ∧ j ≤ ns.length ∧ Drawn0 w wr
set_option maxHeartbeats 4000000 in
set_option maxRecDepth 100000 in
theorem rtat_any (h : RTal w B okl g l P N) (hP : ∀ p ∈ P, 0 ≤ p ∧ p < l.length) (hl : ∀ s ∈ l, s.f1.length < 1000000000000000) (t o : Int) (ht0 : 0 ≤ t) (ht : t ≤ 2) (ho0 : 0 ≤ o) (ho : o ≤ 2) :
    Calls Try.prog 37 #[.pointer (some ⟨g, 0, none⟩), .int .i64 t, .int .i64 o] w fun e w' => e = .returned (.bool (P.all (atP l N t o))) ∧ Drawn0 w w' := by
  obtain ⟨A, c, A1, c1, A2, c2, hc0, hc1, hc2, hCl, hlc, hCP, hPc, hCN, hNc⟩ := h.reads
  have hm1 := hCP.2.1
  have HC0 := Lib.hid hc0; have HC1 := Lib.hid hc1; have HC2 := Lib.hid hc2; have HCL := Lib.hid hCl; have HCP := Lib.hid hCP; have HCN := Lib.hid hCN; have HNC := Lib.hid hNc
  have HHP := Lib.hid hP; have HHL := Lib.hid hl
  clear hc0 hc1 hc2 hCl hCP hCN hP hl h hlc hPc hNc
  go_enter Try.func37, Try.ntmps37
  go_wp2
  go_loopw [7, 8, 9, 10] (fun kv _ _ _ wr => AtRel w P (atP l N t o) kv wr) (fun k _ _ _ _ => P.length - (intOf k).toNat)
  case atStart => exact ⟨0, rfl, Nat.zero_le _, Drawn0.refl _, by simp⟩
  case round =>
    obtain ⟨k, rfl, hk, hD, hA⟩ := hrel
    have HA := Lib.hid hA; clear hA
    have hb0 := pw_cell_below hD.below HC0.out
    have hb1 := pw_cell_below hD.below HC1.out
    have hb2 := pw_cell_below hD.below HC2.out
    by_cases hlt : k < P.length
    · obtain ⟨ac, rfl, hck⟩ := Kd.at_int HCP.out (k : Int) (by omega) (by omega)
      replace hck := pw_cell_below hD.below hck
      rw [rd_nat P hlt] at hck
      simp only [Int.toNat_natCast] at hck
      have hpm := List.getElem_mem hlt
      have hpin := HHP.out P[k] hpm
      have hsn := take_snocI P hlt
      generalize P[k] = p at *
      have HSN := Lib.hid hsn; clear hsn
      obtain ⟨hp0, hp1⟩ := hpin
      obtain ⟨ad, A3, c3, rfl, hx0, hx1, hx2, hl3, hi3⟩ := at_T40 HCL.out p hp0 hp1
      replace hx2 := pw_cell_below hD.below hx2
      have hsm : Go.Proofs.Ytmljpidhhiineaa.P.rd_T40 l p ∈ l := rd_mem l p hp0 hp1
      have hlen := HHL.out _ hsm
      clear hx0 hx1 hsm
      have hat : atP l N t o p = !decide (t * (cntP N (Go.Proofs.Ytmljpidhhiineaa.P.rd_T40 l p).f1 : Int) ≤ o * ((Go.Proofs.Ytmljpidhhiineaa.P.rd_T40 l p).f1.length : Int)) := rfl
      generalize (Go.Proofs.Ytmljpidhhiineaa.P.rd_T40 l p).f1 = ns at *
      obtain ⟨q, rfl⟩ := Int.eq_ofNat_of_zero_le hp0
      simp only [Int.toNat_natCast] at hx2
      have HPM := Lib.hid hpm; clear hpm
      have HAT := Lib.hid hat; have HI3 := Lib.hid hi3
      clear hat hi3
      have hdr0 : Drawn0 wr wr.drew := (Drawn0.refl _).step 1
      have hmk0 : ∀ W, Drawn0 wr W → Drawn0 wr W ∧ W.cell? ⟨g, 0, none⟩ = some (.slice (some ad) l.length c) ∧ W.cell? ⟨g, 1, none⟩ = some (.slice (some ac) P.length c1) ∧ W.cell? (ac.add k) = some (.int .i64 (q : Int)) ∧ W.cell? ⟨(ad.add (q * 3)).block, (ad.add (q * 3)).off + 2, none⟩ = some (.slice A3 ns.length c3) :=
        fun W h => ⟨h, pw_cell_below h.below hb0, pw_cell_below h.below hb1, pw_cell_below h.below hck, pw_cell_below h.below hx2⟩
      have HMK0 := Lib.hid hmk0; clear hmk0
      go_upto_region 4 with fail
      refine wp_region_held (S := (fun W => Drawn0 wr W ∧ W.cell? ⟨g, 0, none⟩ = some (.slice (some ad) l.length c) ∧ W.cell? ⟨g, 1, none⟩ = some (.slice (some ac) P.length c1) ∧ W.cell? (ac.add k) = some (.int .i64 (q : Int)) ∧ W.cell? ⟨(ad.add (q * 3)).block, (ad.add (q * 3)).off + 2, none⟩ = some (.slice A3 ns.length c3))) (by kernel_rfl) ?_
      simp only [List.size_toArray, List.length_cons, List.length_nil, Nat.zero_add, Nat.reduceAdd]
      have hHeld : ((fun W => Drawn0 wr W ∧ W.cell? ⟨g, 0, none⟩ = some (.slice (some ad) l.length c) ∧ W.cell? ⟨g, 1, none⟩ = some (.slice (some ac) P.length c1) ∧ W.cell? (ac.add k) = some (.int .i64 (q : Int)) ∧ W.cell? ⟨(ad.add (q * 3)).block, (ad.add (q * 3)).off + 2, none⟩ = some (.slice A3 ns.length c3))) wr.drew := HMK0.out _ hdr0
      refine wpAnyH_take (i := 0) (v := ?_) rfl (by kernel_rfl) (by kernel_rfl) (by kernel_rfl) (fun _ _ _ h => h) (Or.inl ⟨by rfl, ?_⟩) (by assumption) ?_
      rotate_left
      · (intro w hSw; (try dsimp only at hSw); go_split_ands; go_simp; try with_reducible rfl)
      try simp only [List.getElem_toArray, List.getElem_cons_succ, List.getElem_cons_zero, Act.put, List.setIfInBounds_toArray, List.set_cons_zero, List.set_cons_succ]
      refine wpAnyH_take (i := 1) (v := ?_) rfl (by kernel_rfl) (by kernel_rfl) (by kernel_rfl) (fun _ _ _ h => h) (Or.inl ⟨by rfl, ?_⟩) (by assumption) ?_
      rotate_left
      · (intro w hSw; (try dsimp only at hSw); go_split_ands; go_simp; try with_reducible rfl)
      try simp only [List.getElem_toArray, List.getElem_cons_succ, List.getElem_cons_zero, Act.put, List.setIfInBounds_toArray, List.set_cons_zero, List.set_cons_succ]
      refine wpAnyH_take (i := 2) (v := ?_) rfl (by kernel_rfl) (by kernel_rfl) (by kernel_rfl) (fun _ _ _ h => h) (Or.inl ⟨by rfl, ?_⟩) (by assumption) ?_
      rotate_left
      · (intro w hSw; (try dsimp only at hSw); go_split_ands; go_simp; try with_reducible rfl)
      try simp only [List.getElem_toArray, List.getElem_cons_succ, List.getElem_cons_zero, Act.put, List.setIfInBounds_toArray, List.set_cons_zero, List.set_cons_succ]
      refine wpAnyH_take (i := 3) (v := ?_) rfl (by kernel_rfl) (by kernel_rfl) (by kernel_rfl) (fun _ _ _ h => h) (Or.inl ⟨by rfl, ?_⟩) (by assumption) ?_
      rotate_left
      · (intro w hSw; (try dsimp only at hSw); go_split_ands; go_simp; try with_reducible rfl)
      try simp only [List.getElem_toArray, List.getElem_cons_succ, List.getElem_cons_zero, Act.put, List.setIfInBounds_toArray, List.set_cons_zero, List.set_cons_succ]
      refine wpAnyH_take (i := 4) (v := ?_) rfl (by kernel_rfl) (by kernel_rfl) (by kernel_rfl) (fun _ _ _ h => h) (Or.inl ⟨by rfl, ?_⟩) (by assumption) ?_
      rotate_left
      · (intro w hSw; (try dsimp only at hSw); go_split_ands; go_simp; try with_reducible rfl)
      try simp only [List.getElem_toArray, List.getElem_cons_succ, List.getElem_cons_zero, Act.put, List.setIfInBounds_toArray, List.set_cons_zero, List.set_cons_succ]
      refine wpAnyH_take (i := 5) (v := ?_) rfl (by kernel_rfl) (by kernel_rfl) (by kernel_rfl) (fun _ _ _ h => h) (Or.inl ⟨by rfl, ?_⟩) (by assumption) ?_
      rotate_left
      · (intro w hSw; (try dsimp only at hSw); go_split_ands; go_simp; try with_reducible rfl)
      try simp only [List.getElem_toArray, List.getElem_cons_succ, List.getElem_cons_zero, Act.put, List.setIfInBounds_toArray, List.set_cons_zero, List.set_cons_succ]
      refine wpAnyH_take (i := 6) (v := ?_) rfl (by kernel_rfl) (by kernel_rfl) (by kernel_rfl) (fun _ _ _ h => h) (Or.inl ⟨by rfl, ?_⟩) (by assumption) ?_
      rotate_left
      · (intro w hSw; (try dsimp only at hSw); go_split_ands; go_simp; try with_reducible rfl)
      try simp only [List.getElem_toArray, List.getElem_cons_succ, List.getElem_cons_zero, Act.put, List.setIfInBounds_toArray, List.set_cons_zero, List.set_cons_succ]
      refine wpAnyH_take (i := 7) (v := ?_) rfl (by kernel_rfl) (by kernel_rfl) (by kernel_rfl) (fun _ _ _ h => h) (Or.inl ⟨by rfl, ?_⟩) (by assumption) ?_
      rotate_left
      · (intro w hSw; (try dsimp only at hSw); go_split_ands; go_simp; try with_reducible rfl)
      try simp only [List.getElem_toArray, List.getElem_cons_succ, List.getElem_cons_zero, Act.put, List.setIfInBounds_toArray, List.set_cons_zero, List.set_cons_succ]
      refine wpAnyH_take (i := 8) (v := ?_) rfl (by kernel_rfl) (by kernel_rfl) (by kernel_rfl) (fun _ _ _ h => h) (Or.inl ⟨by rfl, ?_⟩) (by assumption) ?_
      rotate_left
      · (intro w hSw; (try dsimp only at hSw); go_split_ands; go_simp; try with_reducible rfl)
      try simp only [List.getElem_toArray, List.getElem_cons_succ, List.getElem_cons_zero, Act.put, List.setIfInBounds_toArray, List.set_cons_zero, List.set_cons_succ]
      refine wpAnyH_take (i := 9) (v := ?_) rfl (by kernel_rfl) (by kernel_rfl) (by kernel_rfl) (fun _ _ _ h => h) (Or.inl ⟨by rfl, ?_⟩) (by assumption) ?_
      rotate_left
      · (intro w hSw; (try dsimp only at hSw); go_split_ands; go_simp; try with_reducible rfl)
      try simp only [List.getElem_toArray, List.getElem_cons_succ, List.getElem_cons_zero, Act.put, List.setIfInBounds_toArray, List.set_cons_zero, List.set_cons_succ]
      refine wpAnyH_take (i := 10) (v := ?_) rfl (by kernel_rfl) (by kernel_rfl) (by kernel_rfl) (fun _ _ _ h => h) (Or.inl ⟨by rfl, ?_⟩) (by assumption) ?_
      rotate_left
      · (intro w hSw; (try dsimp only at hSw); go_split_ands; go_simp; try with_reducible rfl)
      try simp only [List.getElem_toArray, List.getElem_cons_succ, List.getElem_cons_zero, Act.put, List.setIfInBounds_toArray, List.set_cons_zero, List.set_cons_succ]
      refine wpAnyH_take (i := 11) (v := ?_) rfl (by kernel_rfl) (by kernel_rfl) (by kernel_rfl) (fun _ _ _ h => h) (Or.inl ⟨by rfl, ?_⟩) (by assumption) ?_
      rotate_left
      · (intro w hSw; (try dsimp only at hSw); go_split_ands; go_simp; try with_reducible rfl)
      try simp only [List.getElem_toArray, List.getElem_cons_succ, List.getElem_cons_zero, Act.put, List.setIfInBounds_toArray, List.set_cons_zero, List.set_cons_succ]
      refine wpAnyH_take (i := 12) (v := ?_) rfl (by kernel_rfl) (by kernel_rfl) (by kernel_rfl) (fun _ _ _ h => h) (Or.inl ⟨by rfl, ?_⟩) (by assumption) ?_
      rotate_left
      · (intro w hSw; (try dsimp only at hSw); go_split_ands; go_simp; try with_reducible rfl)
      try simp only [List.getElem_toArray, List.getElem_cons_succ, List.getElem_cons_zero, Act.put, List.setIfInBounds_toArray, List.set_cons_zero, List.set_cons_succ]
      refine wpAnyH_take (i := 13) (v := ?_) rfl (by kernel_rfl) (by kernel_rfl) (by kernel_rfl) (fun _ _ _ h => h) (Or.inl ⟨by rfl, ?_⟩) (by assumption) ?_
      rotate_left
      · (intro w hSw; (try dsimp only at hSw); go_split_ands; go_simp; try with_reducible rfl)
      try simp only [List.getElem_toArray, List.getElem_cons_succ, List.getElem_cons_zero, Act.put, List.setIfInBounds_toArray, List.set_cons_zero, List.set_cons_succ]
      refine wpAnyH_take (i := 14) (v := ?_) rfl (by kernel_rfl) (by kernel_rfl) (by kernel_rfl) (fun _ _ _ h => h) (Or.inl ⟨by rfl, ?_⟩) (by assumption) ?_
      rotate_left
      · (intro w hSw; (try dsimp only at hSw); go_split_ands; go_simp; try with_reducible rfl)
      try simp only [List.getElem_toArray, List.getElem_cons_succ, List.getElem_cons_zero, Act.put, List.setIfInBounds_toArray, List.set_cons_zero, List.set_cons_succ]
      refine wpAnyH_done (by kernel_rfl) ?_ _
      go_wp2
      go_loopw [9, 10] (fun cv jv wr2 => AtIn w N ns cv jv wr2) (fun _ j _ => ns.length - (intOf j).toNat)
      case atStart => exact ⟨0, rfl, rfl, Nat.zero_le _, hD.step 1⟩
      case round =>
        obtain ⟨j, rfl, rfl, hj, hD2⟩ := hrel
        clear hck hx2 hb0 hb1 hb2 hD
        have hcl := cntP_le N (ns.take j)
        rw [List.length_take] at hcl
        by_cases hlt2 : j < ns.length
        · obtain ⟨ac3, rfl, hck3⟩ := Kd.at_int HI3.out (j : Int) (by omega) (by omega)
          rw [rd_nat ns hlt2] at hck3
          simp only [Int.toNat_natCast] at hck3
          have hsn := cntP_snoc N (ns.take j) ns[j]
          rw [← take_snocI ns hlt2] at hsn
          have hin := in_any A2 c2 N ns[j]
          have hcases := Decidable.em (ns[j] ∈ N)
          have hdr : Drawn0 w wr.drew := hD2.step 1
          generalize ns[j] = x at *
          generalize cntP N (ns.take j) = cn at *
          have HSN2 := Lib.hid hsn; clear hsn
          have hmk : ∀ W, Drawn0 w W → Drawn0 w W ∧ W.cell? ⟨g, 2, none⟩ = some (.slice A2 N.length c2) ∧ W.cell? (ac3.add j) = some (.int .i64 x) := fun W h => ⟨h, pw_cell_below h.below HC2.out, pw_cell_below h.below hck3⟩
          have HMK := Lib.hid hmk; clear hmk
          have hinw : ∀ W, Drawn0 w W → Calls Try.prog 25 #[.slice A2 N.length c2, .int .i64 x] W fun e w' => e = .returned (.bool (decide (x ∈ N))) ∧ Drawn0 w w' := fun W hW =>
            (hin W (Kd.C_below HCN.out hW.below) HNC.out).mono fun e w' h => ⟨h.1, drawn0_trans hW h.2⟩
          have HIN := Lib.hid hinw; clear hinw hin hck3
          rcases hcases with hx | hx
          · rw [decide_eq_true hx] at HIN
            rw [if_pos hx] at HSN2
            clear hx
            go_upto_region 9 with fail
            refine wp_region_held (S := (fun W => Drawn0 w W ∧ W.cell? ⟨g, 2, none⟩ = some (.slice A2 N.length c2) ∧ W.cell? (ac3.add j) = some (.int .i64 x))) (by kernel_rfl) ?_
            simp only [List.size_toArray, List.length_cons, List.length_nil, Nat.zero_add, Nat.reduceAdd]
            have hHeld : ((fun W => Drawn0 w W ∧ W.cell? ⟨g, 2, none⟩ = some (.slice A2 N.length c2) ∧ W.cell? (ac3.add j) = some (.int .i64 x))) wr.drew := HMK.out _ hdr
            refine wpAnyH_take (i := 0) (v := ?_) rfl (by kernel_rfl) (by kernel_rfl) (by kernel_rfl) (fun _ _ _ h => h) (Or.inl ⟨by rfl, ?_⟩) (by assumption) ?_
            rotate_left
            · (intro w hSw; (try dsimp only at hSw); go_split_ands; go_simp; try with_reducible rfl)
            try simp only [List.getElem_toArray, List.getElem_cons_succ, List.getElem_cons_zero, Act.put, List.setIfInBounds_toArray, List.set_cons_zero, List.set_cons_succ]
            refine wpAnyH_take (i := 1) (v := ?_) rfl (by kernel_rfl) (by kernel_rfl) (by kernel_rfl) (fun _ _ _ h => h) (Or.inl ⟨by rfl, ?_⟩) (by assumption) ?_
            rotate_left
            · (intro w hSw; (try dsimp only at hSw); go_split_ands; go_simp; try with_reducible rfl)
            try simp only [List.getElem_toArray, List.getElem_cons_succ, List.getElem_cons_zero, Act.put, List.setIfInBounds_toArray, List.set_cons_zero, List.set_cons_succ]
            refine wpAnyH_take (i := 2) (v := ?_) rfl (by kernel_rfl) (by kernel_rfl) (by kernel_rfl) (fun _ _ _ h => h) (Or.inl ⟨by rfl, ?_⟩) (by assumption) ?_
            rotate_left
            · (intro w hSw; (try dsimp only at hSw); go_split_ands; go_simp; try with_reducible rfl)
            try simp only [List.getElem_toArray, List.getElem_cons_succ, List.getElem_cons_zero, Act.put, List.setIfInBounds_toArray, List.set_cons_zero, List.set_cons_succ]
            refine wpAnyH_take (i := 3) (v := ?_) rfl (by kernel_rfl) (by kernel_rfl) (by kernel_rfl) (fun _ _ _ h => h) (Or.inl ⟨by rfl, ?_⟩) (by assumption) ?_
            rotate_left
            · (intro w hSw; (try dsimp only at hSw); go_split_ands; go_simp; try with_reducible rfl)
            try simp only [List.getElem_toArray, List.getElem_cons_succ, List.getElem_cons_zero, Act.put, List.setIfInBounds_toArray, List.set_cons_zero, List.set_cons_succ]
            refine wpAnyH_take (i := 4) (v := ?_) rfl (by kernel_rfl) (by kernel_rfl) (by kernel_rfl) (fun _ _ _ h => h) (Or.inl ⟨by rfl, ?_⟩) (by assumption) ?_
            rotate_left
            · (intro w hSw; (try dsimp only at hSw); go_split_ands; go_simp; try with_reducible rfl)
            try simp only [List.getElem_toArray, List.getElem_cons_succ, List.getElem_cons_zero, Act.put, List.setIfInBounds_toArray, List.set_cons_zero, List.set_cons_succ]
            refine wpAnyH_take (i := 5) (v := ?_) rfl (by kernel_rfl) (by kernel_rfl) (by kernel_rfl) (fun _ _ _ h => h) (Or.inl ⟨by rfl, ?_⟩) (by assumption) ?_
            rotate_left
            · (intro w hSw; (try dsimp only at hSw); go_split_ands; go_simp; try with_reducible rfl)
            try simp only [List.getElem_toArray, List.getElem_cons_succ, List.getElem_cons_zero, Act.put, List.setIfInBounds_toArray, List.set_cons_zero, List.set_cons_succ]
            refine wpAnyH_take (i := 6) (v := ?_) rfl (by kernel_rfl) (by kernel_rfl) (by kernel_rfl) (fun _ _ _ h => h) (Or.inl ⟨by rfl, ?_⟩) (by assumption) ?_
            rotate_left
            · (intro w hSw; (try dsimp only at hSw); go_split_ands; go_simp; try with_reducible rfl)
            try simp only [List.getElem_toArray, List.getElem_cons_succ, List.getElem_cons_zero, Act.put, List.setIfInBounds_toArray, List.set_cons_zero, List.set_cons_succ]
            refine wpAnyH_take (i := 7) (v := ?_) rfl (by kernel_rfl) (by kernel_rfl) (by kernel_rfl) (fun _ _ _ h => h) (Or.inl ⟨by rfl, ?_⟩) (by assumption) ?_
            rotate_left
            · (intro w hSw; (try dsimp only at hSw); go_split_ands; go_simp; try with_reducible rfl)
            try simp only [List.getElem_toArray, List.getElem_cons_succ, List.getElem_cons_zero, Act.put, List.setIfInBounds_toArray, List.set_cons_zero, List.set_cons_succ]
            refine wpAnyH_ready (rs := [8]) (by kernel_rfl) (by simp) ?_
            refine AllReadyH.cons rfl (fun K hK => ?_) AllReadyH.nil
            go_simp
            refine (HIN.out _ hHeld.1).mono ?_
            rintro e wq ⟨rfl, hDq⟩
            refine hK.out _ _ ?_ (fun hHeld => ?_)
            · exact HMK.out _ hDq
            clear hK K
            try simp only [List.getElem_toArray, List.getElem_cons_succ, List.getElem_cons_zero, Act.put, List.setIfInBounds_toArray, List.set_cons_zero, List.set_cons_succ]
            refine wpAnyH_done (by kernel_rfl) ?_ _
            go_wp2
            go_roundw
            case rel => exact ⟨j + 1, by rw [HSN2.out]; go_num, by go_num, by omega, hHeld.1⟩
            case measure => simp [intOf]; omega
          · rw [decide_eq_false hx] at HIN
            rw [if_neg hx] at HSN2
            clear hx
            go_upto_region 9 with fail
            refine wp_region_held (S := (fun W => Drawn0 w W ∧ W.cell? ⟨g, 2, none⟩ = some (.slice A2 N.length c2) ∧ W.cell? (ac3.add j) = some (.int .i64 x))) (by kernel_rfl) ?_
            simp only [List.size_toArray, List.length_cons, List.length_nil, Nat.zero_add, Nat.reduceAdd]
            have hHeld : ((fun W => Drawn0 w W ∧ W.cell? ⟨g, 2, none⟩ = some (.slice A2 N.length c2) ∧ W.cell? (ac3.add j) = some (.int .i64 x))) wr.drew := HMK.out _ hdr
            refine wpAnyH_take (i := 0) (v := ?_) rfl (by kernel_rfl) (by kernel_rfl) (by kernel_rfl) (fun _ _ _ h => h) (Or.inl ⟨by rfl, ?_⟩) (by assumption) ?_
            rotate_left
            · (intro w hSw; (try dsimp only at hSw); go_split_ands; go_simp; try with_reducible rfl)
            try simp only [List.getElem_toArray, List.getElem_cons_succ, List.getElem_cons_zero, Act.put, List.setIfInBounds_toArray, List.set_cons_zero, List.set_cons_succ]
            refine wpAnyH_take (i := 1) (v := ?_) rfl (by kernel_rfl) (by kernel_rfl) (by kernel_rfl) (fun _ _ _ h => h) (Or.inl ⟨by rfl, ?_⟩) (by assumption) ?_
            rotate_left
            · (intro w hSw; (try dsimp only at hSw); go_split_ands; go_simp; try with_reducible rfl)
            try simp only [List.getElem_toArray, List.getElem_cons_succ, List.getElem_cons_zero, Act.put, List.setIfInBounds_toArray, List.set_cons_zero, List.set_cons_succ]
            refine wpAnyH_take (i := 2) (v := ?_) rfl (by kernel_rfl) (by kernel_rfl) (by kernel_rfl) (fun _ _ _ h => h) (Or.inl ⟨by rfl, ?_⟩) (by assumption) ?_
            rotate_left
            · (intro w hSw; (try dsimp only at hSw); go_split_ands; go_simp; try with_reducible rfl)
            try simp only [List.getElem_toArray, List.getElem_cons_succ, List.getElem_cons_zero, Act.put, List.setIfInBounds_toArray, List.set_cons_zero, List.set_cons_succ]
            refine wpAnyH_take (i := 3) (v := ?_) rfl (by kernel_rfl) (by kernel_rfl) (by kernel_rfl) (fun _ _ _ h => h) (Or.inl ⟨by rfl, ?_⟩) (by assumption) ?_
            rotate_left
            · (intro w hSw; (try dsimp only at hSw); go_split_ands; go_simp; try with_reducible rfl)
            try simp only [List.getElem_toArray, List.getElem_cons_succ, List.getElem_cons_zero, Act.put, List.setIfInBounds_toArray, List.set_cons_zero, List.set_cons_succ]
            refine wpAnyH_take (i := 4) (v := ?_) rfl (by kernel_rfl) (by kernel_rfl) (by kernel_rfl) (fun _ _ _ h => h) (Or.inl ⟨by rfl, ?_⟩) (by assumption) ?_
            rotate_left
            · (intro w hSw; (try dsimp only at hSw); go_split_ands; go_simp; try with_reducible rfl)
            try simp only [List.getElem_toArray, List.getElem_cons_succ, List.getElem_cons_zero, Act.put, List.setIfInBounds_toArray, List.set_cons_zero, List.set_cons_succ]
            refine wpAnyH_take (i := 5) (v := ?_) rfl (by kernel_rfl) (by kernel_rfl) (by kernel_rfl) (fun _ _ _ h => h) (Or.inl ⟨by rfl, ?_⟩) (by assumption) ?_
            rotate_left
            · (intro w hSw; (try dsimp only at hSw); go_split_ands; go_simp; try with_reducible rfl)
            try simp only [List.getElem_toArray, List.getElem_cons_succ, List.getElem_cons_zero, Act.put, List.setIfInBounds_toArray, List.set_cons_zero, List.set_cons_succ]
            refine wpAnyH_take (i := 6) (v := ?_) rfl (by kernel_rfl) (by kernel_rfl) (by kernel_rfl) (fun _ _ _ h => h) (Or.inl ⟨by rfl, ?_⟩) (by assumption) ?_
            rotate_left
            · (intro w hSw; (try dsimp only at hSw); go_split_ands; go_simp; try with_reducible rfl)
            try simp only [List.getElem_toArray, List.getElem_cons_succ, List.getElem_cons_zero, Act.put, List.setIfInBounds_toArray, List.set_cons_zero, List.set_cons_succ]
            refine wpAnyH_take (i := 7) (v := ?_) rfl (by kernel_rfl) (by kernel_rfl) (by kernel_rfl) (fun _ _ _ h => h) (Or.inl ⟨by rfl, ?_⟩) (by assumption) ?_
            rotate_left
            · (intro w hSw; (try dsimp only at hSw); go_split_ands; go_simp; try with_reducible rfl)
            try simp only [List.getElem_toArray, List.getElem_cons_succ, List.getElem_cons_zero, Act.put, List.setIfInBounds_toArray, List.set_cons_zero, List.set_cons_succ]
            refine wpAnyH_ready (rs := [8]) (by kernel_rfl) (by simp) ?_
            refine AllReadyH.cons rfl (fun K hK => ?_) AllReadyH.nil
            go_simp
            refine (HIN.out _ hHeld.1).mono ?_
            rintro e wq ⟨rfl, hDq⟩
            refine hK.out _ _ ?_ (fun hHeld => ?_)
            · exact HMK.out _ hDq
            clear hK K
            try simp only [List.getElem_toArray, List.getElem_cons_succ, List.getElem_cons_zero, Act.put, List.setIfInBounds_toArray, List.set_cons_zero, List.set_cons_succ]
            refine wpAnyH_done (by kernel_rfl) ?_ _
            go_wp2
            go_roundw
            case rel => exact ⟨j + 1, by rw [HSN2.out]; rfl, by go_num, by omega, hHeld.1⟩
            case measure => simp [intOf]; omega
        · obtain rfl : j = ns.length := by omega
          rw [List.take_length] at *
          generalize cntP N ns = cn at *
          have h1 : 0 ≤ t * (cn : Int) := Int.mul_nonneg ht0 (by omega)
          have h2 : t * (cn : Int) ≤ 2 * (cn : Int) := Int.mul_le_mul_of_nonneg_right ht (by omega)
          have h3 : 0 ≤ o * (ns.length : Int) := Int.mul_nonneg ho0 (by omega)
          have h4 : o * (ns.length : Int) ≤ 2 * (ns.length : Int) := Int.mul_le_mul_of_nonneg_right ho (by omega)
          have e1 : wrap64 (t * (cn : Int)) = t * (cn : Int) := w64 (by omega) (by omega)
          have e2 : wrap64 (o * (ns.length : Int)) = o * (ns.length : Int) := w64 (by omega) (by omega)
          go_wp2
          · rename_i hw
            go_ret
            have hx : P.all (atP l N t o) = false := List.all_eq_false.2 ⟨(q : Int), HPM.out, by rw [HAT.out, decide_eq_true hw]; simp⟩
            exact ⟨by rw [hx]; rfl, hD2⟩
          · rename_i hw
            refine ⟨⟨k + 1, by go_num, by omega, hD2, ?_⟩, by simp [intOf]; omega⟩
            rw [HSN.out, List.all_append, HA.out]
            simp [HAT.out, hw]
    · obtain rfl : k = P.length := by omega
      go_wp2
      go_ret
      have hx := HA.out
      rw [List.take_length] at hx
      exact ⟨by rw [hx]; rfl, hD⟩
theorem rtQuorum_any (h : RTal w B okl g l P N) (hP : ∀ p ∈ P, 0 ≤ p ∧ p < l.length) (hl : ∀ s ∈ l, s.f1.length < 1000000000000000) :
    Calls Try.prog 14 #[.pointer (some ⟨g, 0, none⟩)] w fun e w' => e = .returned (.bool (P.all (atP l N 2 1))) ∧ Drawn0 w w' := by
  have H := Lib.hid (rtat_any h hP hl 2 1 (by omega) (by omega) (by omega) (by omega))
  go_enter Try.func14, Try.ntmps14
  go_wp2_with fail
  refine H.out.mono ?_
  rintro e w1 ⟨rfl, hb⟩
  go_wp2_with fail
  go_ret
  exact ⟨rfl, hb⟩
theorem rtEach_any (h : RTal w B okl g l P N) (hP : ∀ p ∈ P, 0 ≤ p ∧ p < l.length) (hl : ∀ s ∈ l, s.f1.length < 1000000000000000) :
    Calls Try.prog 18 #[.pointer (some ⟨g, 0, none⟩)] w fun e w' => e = .returned (.bool (P.all (atP l N 1 0))) ∧ Drawn0 w w' := by
  have H := Lib.hid (rtat_any h hP hl 1 0 (by omega) (by omega) (by omega) (by omega))
  go_enter Try.func18, Try.ntmps18
  go_wp2_with fail
  refine H.out.mono ?_
  rintro e w1 ⟨rfl, hb⟩
  go_wp2_with fail
  go_ret
  exact ⟨rfl, hb⟩
theorem rtNodes_any (h : RTal w B okl g l P N) (hP : P.length ≤ 1000000000) (hl : ∀ s ∈ l, s.f1.length < 1000000000000000) (hal : (nodesP l P).length < 1000000000) :
    Calls Try.prog 21 #[.pointer (some ⟨g, 0, none⟩)] w fun e w' => ∃ A c, e = .returned (.slice A (pickP N true (nodesP l P)).length c) ∧ (pickP N true (nodesP l P)).length ≤ c ∧ Kd.C (Kd.int .i64) w' A (pickP N true (nodesP l P)).length (pickP N true (nodesP l P)) ∧ Below w.heap.size w w' := by
  have H := Lib.hid (rtpick_any h hP hl hal true)
  go_enter Try.func21, Try.ntmps21
  go_wp2_with fail
  refine H.out.mono ?_
  rintro e w1 ⟨A, c, rfl, h1, h2, h3⟩
  go_wp2_with fail
  go_ret
  exact ⟨A, c, rfl, h1, h2, h3⟩
theorem rtWaiting_any (h : RTal w B okl g l P N) (hP : P.length ≤ 1000000000) (hl : ∀ s ∈ l, s.f1.length < 1000000000000000) (hal : (nodesP l P).length < 1000000000) :
    Calls Try.prog 23 #[.pointer (some ⟨g, 0, none⟩)] w fun e w' => ∃ A c, e = .returned (.slice A (pickP N false (nodesP l P)).length c) ∧ (pickP N false (nodesP l P)).length ≤ c ∧ Kd.C (Kd.int .i64) w' A (pickP N false (nodesP l P)).length (pickP N false (nodesP l P)) ∧ Below w.heap.size w w' := by
  have H := Lib.hid (rtpick_any h hP hl hal false)
  go_enter Try.func23, Try.ntmps23
  go_wp2_with fail
  refine H.out.mono ?_
  rintro e w1 ⟨A, c, rfl, h1, h2, h3⟩
  go_wp2_with fail
  go_ret
  exact ⟨A, c, rfl, h1, h2, h3⟩
theorem rtAll_any (h : RTal w B okl g l P N) (hP : P.length ≤ 1000000000) (hl : ∀ s ∈ l, s.f1.length < 1000000000000000) (hal : (nodesP l P).length < 1000000000) :
    Calls Try.prog 16 #[.pointer (some ⟨g, 0, none⟩)] w fun e w' => e = .returned (.bool (decide ((pickP N false (nodesP l P)).length = 0))) ∧ Below w.heap.size w w' := by
  have H := Lib.hid (rtWaiting_any h hP hl hal)
  generalize pickP N false (nodesP l P) = X at *
  go_enter Try.func16, Try.ntmps16
  go_wp2_with fail
  refine H.out.mono ?_
  rintro e w1 ⟨A, c, rfl, h1, h2, h3⟩
  go_wp2_with fail
  go_ret
  exact ⟨by congr 2; by_cases h : X.length = 0 <;> simp [h], h3⟩
end
end Go.Proofs.Ytmljpidhhiineaa.P
