/- A tally that is new; Quorum, All, Each. -/
import Derived.Test.YtmljpidhhiineaaPEach
import Derived.Test.YtmljpidhhiineaaPBR
namespace Go.Proofs.Ytmljpidhhiineaa.P
open Go.RowKit Go.Proofs.YtmljpidhhiineaaW.PrintWords Go.Proofs.YtmljpidhhiineaaW.PrintLast
def pickS (l : List S40) (cs : List Int) : List S40 := (cs.filter fun i : Int => decide (0 ≤ i) && decide (i < l.length)).map (Go.Proofs.Ytmljpidhhiineaa.P.rd_T40 l)
theorem pickS_snoc (l : List S40) (cs : List Int) (i : Int) : pickS l (cs ++ [i]) = pickS l cs ++ (if 0 ≤ i ∧ i < l.length then [Go.Proofs.Ytmljpidhhiineaa.P.rd_T40 l i] else []) := by
  unfold pickS
  rw [List.filter_append, List.map_append]
  congr 1
  by_cases h0 : 0 ≤ i <;> by_cases h1 : i < l.length <;> simp [h0, h1]
theorem pickS_len (l : List S40) (cs : List Int) : (pickS l cs).length ≤ cs.length := by
  unfold pickS
  rw [List.length_map]
  exact List.length_filter_le _ _
theorem at_FS {W : World} {ok : Nat → Prop} {A : Option Addr} {n : Nat} {xs : List S40} (h : Kd.F k40 W ok A n xs) (i : Int) (h0 : 0 ≤ i) (h1 : i < n) : ∃ ad A2 c2, A = some ad ∧ W.cell? (ad.add (i.toNat * 3)) = some (.string (Go.Proofs.Ytmljpidhhiineaa.P.rd_T40 xs i).f0.f0) ∧
    W.cell? ⟨(ad.add (i.toNat * 3)).block, (ad.add (i.toNat * 3)).off + 1, none⟩ = some (.string (Go.Proofs.Ytmljpidhhiineaa.P.rd_T40 xs i).f0.f1) ∧ W.cell? ⟨(ad.add (i.toNat * 3)).block, (ad.add (i.toNat * 3)).off + 2, none⟩ = some (.slice A2 (Go.Proofs.Ytmljpidhhiineaa.P.rd_T40 xs i).f1.length c2) ∧
    Kd.FK k40 W ok (Go.Proofs.Ytmljpidhhiineaa.P.rd_T40 xs i) [.string (Go.Proofs.Ytmljpidhhiineaa.P.rd_T40 xs i).f0.f0, .string (Go.Proofs.Ytmljpidhhiineaa.P.rd_T40 xs i).f0.f1, .slice A2 (Go.Proofs.Ytmljpidhhiineaa.P.rd_T40 xs i).f1.length c2] ∧ ok ad.block := by
  obtain ⟨ad, c, rfl, hcl, hK, hcc0, hin⟩ := Kd.F_get h z40 i h0 h1
  have hcc : ∀ j u, c[j]? = some u → W.cell? (ad.add (i.toNat * 3 + j)) = some u := hcc0
  obtain ⟨A2, c2, rfl, _, _⟩ := k40_openF hK
  exact ⟨ad, A2, c2, rfl, hcc 0 _ rfl, by rw [← add_field _ _ 1 (by omega)]; exact hcc 1 _ rfl, by rw [← add_field _ _ 2 (by omega)]; exact hcc 2 _ rfl, hK, hin (by decide)⟩
def sortC (sh : List Int) : List Int := compacted (sh.mergeSort fun x y => decide (x ≤ y))
theorem shardInfo : (Try.prog.info? 40).map (fun i => (i.zero, i.size, i.bytes)) = some (some (.agg #[.string ⟨#[]⟩, .string ⟨#[]⟩, .slice none 0 0]), 3, 56) := by kernel_rfl
def NewRel (W1 : World) (l : List S40) (cs : List Int) (tb : Nat) (ok : Nat → Prop) (va vm : Value) (kv : Value) (wr : World) : Prop :=
  ∃ (k : Nat) (vS : Value), kv = .int .i64 k ∧ k ≤ cs.length ∧ Upd W1 wr (· = tb) ∧ Blk wr tb 48 #[vS, va, vm] ∧ Kd.N k40 40 wr W1.heap.size ok vS (pickS l (cs.take k))
set_option maxHeartbeats 4000000 in
set_option maxRecDepth 100000 in
theorem tyNew_any (A : Option Addr) (c : Nat) (l : List S40) (B : Option Addr) (d : Nat) (sh : List Int) (w : World) (okl : Nat → Prop) (hokl : ∀ k, okl k → k < w.heap.size) (hr : Kd.F k40 w okl A l.length l) (hs : Kd.C (Kd.int .i64) w B sh.length sh) (hs8 : sh.length * 56 ≤ 140737488355272) :
    Calls Try.prog 11 #[.slice A l.length c, .slice B sh.length d] w fun e w' => ∃ g mb, e = .returned (.pointer (some ⟨g, 0, none⟩)) ∧ w.heap.size ≤ g ∧ w.heap.size ≤ mb ∧ Below w.heap.size w w' ∧
      Tal w' (fun k => ((okl k ∨ w.heap.size ≤ k) ∧ k ≠ mb) ∧ k < w'.heap.size) g mb (pickS l (sortC sh)) (nodesP l sh) [] := by
  have hm1 := (Kd.F_now hr).2.1
  have HR := Lib.hid hr; clear hr
  have HS := Lib.hid hs; clear hs
  have hnd := topoNodes_any A c l B d sh w (Kd.F_now HR.out) HS.out
  have HND := Lib.hid hnd; clear hnd
  have hcl := fun W (h : Below w.heap.size w W) => iclone_any B d sh W (Kd.C_below HS.out h) (by omega)
  have HCL := Lib.hid hcl; clear hcl
  have hmm := @run_makeMap Try.prog
  go_enter Try.func11, Try.ntmps11
  go_wp2_with fail
  refine HND.out.mono ?_
  rintro e w1 ⟨va, rfl, hoa, hB1⟩
  obtain ⟨Aa, ca, rfl⟩ := own_slice hoa
  go_upto_region 2 with fail
  obtain ⟨w2, hw2⟩ : ∃ w2, (w1.alloc (.map #[] 0)).alloc (.cells #[.slice none 0 0, .slice Aa (nodesP l sh).length ca, .map (some w1.heap.size)] 48) = w2 := ⟨_, rfl⟩
  have hB2 : Below w1.heap.size w1 w2 := hw2 ▸ ((Below.refl _ _).alloc (Nat.le_refl _) _).alloc (by simp) _
  have hS2 : SetIs w2 w1.heap.size [] := by
    have h := (SetIs.made w1).below ((Below.refl _ _).alloc (Nat.le_refl _) (.cells #[.slice none 0 0, .slice Aa (nodesP l sh).length ca, .map (some w1.heap.size)] 48))
    rw [hw2] at h
    exact h
  have hT2 : Blk w2 (w1.heap.size + 1) 48 #[.slice none 0 0, .slice Aa (nodesP l sh).length ca, .map (some w1.heap.size)] := by
    have h := Blk.new (w1.alloc (.map #[] 0)) 48 #[.slice none 0 0, .slice Aa (nodesP l sh).length ca, .map (some w1.heap.size)]
    rw [hw2] at h
    simpa using h
  have hFa : Kd.F (Kd.int .i64) w1 (fun k => w.heap.size ≤ k ∧ k < w1.heap.size) Aa (nodesP l sh).length (nodesP l sh) :=
    Kd.R_F (Kd.R_mono (Kd.R_bound (Kd.R_of_own (ok := fun _ => True) (h1 := fun _ => rfl) hoa (fun _ _ => trivial))) (fun k hk => ⟨hk.2.1, hk.2.2.1⟩))
  have hca : (nodesP l sh).length ≤ ca := (Kd.N_reads' (Kd.R_N (Kd.R_bound (Kd.R_of_own (ok := fun _ => True) (h1 := fun _ => rfl) hoa (fun _ _ => trivial))))).2.1
  have hFa2 := Kd.F_below hFa hB2
  have hBw2 : Below w.heap.size w w2 := hB1.trans (hB2.mono hB1.size)
  have hsz2 : w2.heap.size = w1.heap.size + 2 := by rw [← hw2]; simp
  rw [hw2]
  clear hw2 hoa hFa
  have hge1 := hB1.size
  go_wp2_with fail
  refine (HCL.out w2 hBw2).mono ?_
  rintro e w3 ⟨v3, rfl, ho3, hB3⟩
  go_wp2_with fail
  refine (isort_any ho3 (by omega)).mono ?_
  rintro e w4 ⟨rfl, ho4, hU4⟩
  have hB4 : Below w2.heap.size w2 w4 := hB3.trans (hU4.below hB3.size (fun k hk e => by have := own_base ho3 k e; omega))
  go_wp2_with fail
  rw [show sh.length = (sh.mergeSort fun x y => decide (x ≤ y)).length by simp] at ho4
  refine (icompact_any ho4).mono ?_
  rintro e w5 ⟨v5, rfl, ho5, hU5⟩
  have hB5 : Below w2.heap.size w2 w5 := hB4.trans (hU5.below hB4.size (fun k hk e => by have := own_base ho4 k e; omega))
  have hcl5 := compacted_le (sh.mergeSort fun x y => decide (x ≤ y))
  rw [List.length_mergeSort] at hcl5
  have hT5 := hT2.below hB5 (by omega)
  have hS5 := hS2.below hB5
  have hFa5 := Kd.F_below hFa2 hB5
  have hBw5 : Below w.heap.size w w5 := hBw2.trans (hB5.mono hBw2.size)
  have hF5 : Kd.F k40 w5 okl A l.length l := Kd.F_step HR.out (fun k hk hlt => hBw5.block k (hokl k hk))
  have hk5 : w2.heap.size ≤ w5.heap.size := hB5.size
  have hC5 : ∃ A5 c5, v5 = .slice A5 (sortC sh).length c5 ∧ Kd.F (Kd.int .i64) w5 (fun k => w2.heap.size ≤ k ∧ k < w5.heap.size) A5 (sortC sh).length (sortC sh) := by
    obtain ⟨A5, c5, rfl⟩ := own_slice ho5
    exact ⟨A5, c5, rfl, Kd.R_F (Kd.R_mono (Kd.R_bound (Kd.R_of_own (ok := fun _ => True) (h1 := fun _ => rfl) ho5 (fun _ _ => trivial))) (fun k hk => ⟨hk.2.1, hk.2.2.1⟩))⟩
  obtain ⟨A5, c5, rfl, hF6⟩ := hC5
  have hsc : (sortC sh).length ≤ sh.length := hcl5
  generalize hcs : sortC sh = cs at *
  generalize hal : nodesP l sh = al at *
  have HCS := Lib.hid hcs; have HAL := Lib.hid hal; clear hcs hal
  have hm6 := (Kd.F_now hF6).2.1
  have HRest := Lib.hid (⟨hS5, hFa5, hBw5, hge1, hsz2, hk5⟩ : SetIs w5 w1.heap.size [] ∧ Kd.F (Kd.int .i64) w5 (fun k => w.heap.size ≤ k ∧ k < w1.heap.size) Aa al.length al ∧ Below w.heap.size w w5 ∧ w.heap.size ≤ w1.heap.size ∧ w2.heap.size = w1.heap.size + 2 ∧ w2.heap.size ≤ w5.heap.size)
  have hfx : ∀ k, w2.heap.size ≤ k ∧ k < w5.heap.size → ¬ k = w1.heap.size + 1 := fun k h e => by omega
  have hfl : ∀ k, okl k → ¬ k = w1.heap.size + 1 := fun k h e => by have := hokl k h; omega
  have HFX := Lib.hid hfx; have HFL := Lib.hid hfl
  have hokw : ∀ k, okl k → k < w5.heap.size := fun k h => by have := hokl k h; omega
  have HOKW := Lib.hid hokw
  have HOKL := Lib.hid hokl
  have HCA := Lib.hid hca; clear hca
  clear hfx hfl hS5 hFa5 hBw5 hT2 hS2 hFa2 hBw2 hB1 hB2 hB3 hB4 hB5 hU4 hU5 ho3 ho4 ho5 hcl5 hge1 hsz2 hk5 hokl hokw
  generalize w1.heap.size = mb at *
  have HF5 := Lib.hid hF5; clear hF5
  have HF6 := Lib.hid hF6; clear hF6
  go_wp2
  go_loopw [7, 21] (fun _ kv wr => NewRel w5 l cs (mb + 1) (fun k => okl k ∨ w5.heap.size ≤ k) (.slice Aa al.length ca) (.map (some mb)) kv wr) (fun _ k _ => cs.length - (intOf k).toNat)
  case atStart => exact ⟨0, _, rfl, Nat.zero_le _, Upd.refl _ _, hT5, Kd.N_nil _ _ _ _ _⟩
  case round =>
    obtain ⟨k, vS, rfl, hk, hU, hT, hN⟩ := hrel
    by_cases hlt : k < cs.length
    · obtain ⟨ac, rfl, hck⟩ := Kd.at_int (Kd.F_now (F_upd HF6.out hU HFX.out)) (k : Int) (by omega) (by omega)
      rw [rd_nat cs hlt] at hck
      simp only [Int.toNat_natCast] at hck
      have hsn := pickS_snoc l (cs.take k) cs[k]
      rw [← take_snocI cs hlt] at hsn
      have hpl := pickS_len l (cs.take k)
      rw [List.length_take] at hpl
      generalize cs[k] = u at *
      have HSN := Lib.hid hsn; clear hsn
      generalize pickS l (cs.take k) = ps at *
      by_cases hv : 0 ≤ u ∧ u < l.length
      · obtain ⟨hv0, hv1⟩ := hv
        obtain ⟨ad, A2, c2, rfl, hx0, hx1, hx2, hFK, had⟩ := at_FS (F_upd HF5.out hU HFL.out) u hv0 hv1
        rw [if_pos ⟨hv0, hv1⟩] at HSN
        generalize Go.Proofs.Ytmljpidhhiineaa.P.rd_T40 l u = s at *
        obtain ⟨q, rfl⟩ := Int.eq_ofNat_of_zero_le hv0
        simp only [Int.toNat_natCast] at hx0 hx1 hx2
        have hc0' : wr.cell? ⟨mb + 1, 0, none⟩ = some vS := hT.cell 0
        have hne1 : some (mb + 1) ≠ vS.ownBlock := Kd.N_ne hN hT (by decide)
        have hbs := Kd.N_base hN
        have hne2 : some (ad.add (q * 3)).block ≠ vS.ownBlock := fun e => by
          have h1 := hbs _ e.symm
          rw [add_block] at h1
          have := HOKW.out _ had
          omega
        have hgw : w5.heap.size ≤ wr.heap.size := hU.size
        go_upto_region 8 with fail
        refine wp_region_last_held (S := (fun w' => w'.cell? ⟨mb + 1, 0, none⟩ = some vS ∧ w'.cell? (ad.add (q * 3)) = some (.string s.f0.f0) ∧ w'.cell? ⟨(ad.add (q * 3)).block, (ad.add (q * 3)).off + 1, none⟩ = some (.string s.f0.f1) ∧ w'.cell? ⟨(ad.add (q * 3)).block, (ad.add (q * 3)).off + 2, none⟩ = some (.slice A2 s.f1.length c2))) (l := [_, _, _, _, _, _, _, _, _, _, _, _, _]) (o := _) (by kernel_rfl) (by kernel_rfl) ?_
        simp only [List.size_toArray, List.length_cons, List.length_nil, Nat.zero_add, Nat.reduceAdd]
        have hHeld : ((fun w' => w'.cell? ⟨mb + 1, 0, none⟩ = some vS ∧ w'.cell? (ad.add (q * 3)) = some (.string s.f0.f0) ∧ w'.cell? ⟨(ad.add (q * 3)).block, (ad.add (q * 3)).off + 1, none⟩ = some (.string s.f0.f1) ∧ w'.cell? ⟨(ad.add (q * 3)).block, (ad.add (q * 3)).off + 2, none⟩ = some (.slice A2 s.f1.length c2))) wr.drew := ⟨hc0', hx0, hx1, hx2⟩
        refine wpAnyH_take (i := 0) (v := ?_) rfl (by kernel_rfl) (by kernel_rfl) (by kernel_rfl) (fun _ _ _ h => h) (Or.inl ⟨by rfl, ?_⟩) (by assumption) ?_
        rotate_left
        · (intro w hSw; (try dsimp only at hSw); go_split_ands; go_simp; try with_reducible rfl)
        try simp only [List.getElem_toArray, List.getElem_cons_succ, List.getElem_cons_zero, Act.put, List.setIfInBounds_toArray, List.set_cons_zero, List.set_cons_succ]
        refine wpAnyH_take (i := 1) (v := ?_) rfl (by kernel_rfl) (by kernel_rfl) (by kernel_rfl) (fun _ _ _ h => h) (Or.inl ⟨by rfl, ?_⟩) (by assumption) ?_
        rotate_left
        · (intro w hSw; (try dsimp only at hSw); go_split_ands; go_simp; try with_reducible rfl)
        try simp only [List.getElem_toArray, List.getElem_cons_succ, List.getElem_cons_zero, Act.put, List.setIfInBounds_toArray, List.set_cons_zero, List.set_cons_succ]
        refine wpAnyH_take (i := 2) (v := ?_) rfl (by kernel_rfl) (by kernel_rfl) (by kernel_rfl) (fun _ _ _ h => h) (Or.inl ⟨by rfl, ?_⟩) (by assumption) ?_
        rotate_left
        · (intro w hSw; (try dsimp only at hSw); go_split_ands; go_simp; try with_reducible rfl)
        try simp only [List.getElem_toArray, List.getElem_cons_succ, List.getElem_cons_zero, Act.put, List.setIfInBounds_toArray, List.set_cons_zero, List.set_cons_succ]
        refine wpAnyH_take (i := 3) (v := ?_) rfl (by kernel_rfl) (by kernel_rfl) (by kernel_rfl) (fun _ _ _ h => h) (Or.inl ⟨by rfl, ?_⟩) (by assumption) ?_
        rotate_left
        · (intro w hSw; (try dsimp only at hSw); go_split_ands; go_simp; try with_reducible rfl)
        try simp only [List.getElem_toArray, List.getElem_cons_succ, List.getElem_cons_zero, Act.put, List.setIfInBounds_toArray, List.set_cons_zero, List.set_cons_succ]
        refine wpAnyH_take (i := 4) (v := ?_) rfl (by kernel_rfl) (by kernel_rfl) (by kernel_rfl) (fun _ _ _ h => h) (Or.inl ⟨by rfl, ?_⟩) (by assumption) ?_
        rotate_left
        · (intro w hSw; (try dsimp only at hSw); go_split_ands; go_simp; try with_reducible rfl)
        try simp only [List.getElem_toArray, List.getElem_cons_succ, List.getElem_cons_zero, Act.put, List.setIfInBounds_toArray, List.set_cons_zero, List.set_cons_succ]
        refine wpAnyH_take (i := 5) (v := ?_) rfl (by kernel_rfl) (by kernel_rfl) (by kernel_rfl) (fun _ _ _ h => h) (Or.inl ⟨by rfl, ?_⟩) (by assumption) ?_
        rotate_left
        · (intro w hSw; (try dsimp only at hSw); go_split_ands; go_simp; try with_reducible rfl)
        try simp only [List.getElem_toArray, List.getElem_cons_succ, List.getElem_cons_zero, Act.put, List.setIfInBounds_toArray, List.set_cons_zero, List.set_cons_succ]
        refine wpAnyH_take (i := 6) (v := ?_) rfl (by kernel_rfl) (by kernel_rfl) (by kernel_rfl) (fun _ _ _ h => h) (Or.inl ⟨by rfl, ?_⟩) (by assumption) ?_
        rotate_left
        · (intro w hSw; (try dsimp only at hSw); go_split_ands; go_simp; try with_reducible rfl)
        try simp only [List.getElem_toArray, List.getElem_cons_succ, List.getElem_cons_zero, Act.put, List.setIfInBounds_toArray, List.set_cons_zero, List.set_cons_succ]
        refine wpAnyH_take (i := 7) (v := ?_) rfl (by kernel_rfl) (by kernel_rfl) (by kernel_rfl) (fun _ _ _ h => h) (Or.inl ⟨by rfl, ?_⟩) (by assumption) ?_
        rotate_left
        · (intro w hSw; (try dsimp only at hSw); go_split_ands; go_simp; try with_reducible rfl)
        try simp only [List.getElem_toArray, List.getElem_cons_succ, List.getElem_cons_zero, Act.put, List.setIfInBounds_toArray, List.set_cons_zero, List.set_cons_succ]
        refine wpAnyH_take (i := 8) (v := ?_) rfl (by kernel_rfl) (by kernel_rfl) (by kernel_rfl) (fun _ _ _ h => h) (Or.inl ⟨by rfl, ?_⟩) (by assumption) ?_
        rotate_left
        · (intro w hSw; (try dsimp only at hSw); go_split_ands; go_simp; try with_reducible rfl)
        try simp only [List.getElem_toArray, List.getElem_cons_succ, List.getElem_cons_zero, Act.put, List.setIfInBounds_toArray, List.set_cons_zero, List.set_cons_succ]
        refine wpAnyH_ready (rs := [9]) (by kernel_rfl) (by simp) ?_
        refine AllReadyH.cons rfl (fun K hK => ?_) AllReadyH.nil
        go_simp
        refine hK.out _ _ ?_ (fun hHeld => ?_)
        · exact ⟨cellA hHeld.1 _, cellA hHeld.2.1 _, cellA hHeld.2.2.1 _, cellA hHeld.2.2.2 _⟩
        clear hK K
        try simp only [List.getElem_toArray, List.getElem_cons_succ, List.getElem_cons_zero, Act.put, List.setIfInBounds_toArray, List.set_cons_zero, List.set_cons_succ]
        refine wpAnyH_ready (rs := [10]) (by kernel_rfl) (by simp) ?_
        refine AllReadyH.cons rfl (fun K hK => ?_) AllReadyH.nil
        refine Kd.N_append_step (w0 := wr) k40 w5.heap.size (by rfl) (.tmp 37) (.tmp 42) 22 40 _ 56 (by rfl) Try.underlying22 shardInfo rfl (by decide) (by decide) vS ps s [.string s.f0.f0, .string s.f0.f1, .slice A2 s.f1.length c2] (fun k => okl k ∨ w5.heap.size ≤ k) okl (by rfl) (by rfl) (Kd.FK_below hFK (below_drew (Below.refl _ _))) (fun k hk => ⟨.inl hk, fun e => by have h1 := hbs k e.symm; have := HOKW.out k hk; omega⟩) (fun k hk => .inr (Nat.le_trans hgw hk)) (Kd.N_drew hN) (below_drew (Below.refl _ _)) hgw (by omega) ?_
        intro v1 w6 hN1 hb1 hg1 hat1
        obtain ⟨A6, c6, rfl⟩ := Kd.N_slice hN1
        refine hK.out _ _ ?_ (fun hHeld => ?_)
        · exact ⟨cellG hg1 hne1 hc0', cellG hg1 hne2 hx0, cellG hg1 hne2 hx1, cellG hg1 hne2 hx2⟩
        clear hK K
        try simp only [List.getElem_toArray, List.getElem_cons_succ, List.getElem_cons_zero, Act.put, List.setIfInBounds_toArray, List.set_cons_zero, List.set_cons_succ]
        refine wpAnyH_take (i := 11) (v := ?_) rfl (by kernel_rfl) (by kernel_rfl) (by kernel_rfl) (fun _ _ _ h => h) (Or.inl ⟨by rfl, ?_⟩) (by assumption) ?_
        rotate_left
        · (intro w hSw; (try dsimp only at hSw); go_split_ands; go_simp; try with_reducible rfl)
        try simp only [List.getElem_toArray, List.getElem_cons_succ, List.getElem_cons_zero, Act.put, List.setIfInBounds_toArray, List.set_cons_zero, List.set_cons_succ]
        refine wpAnyH_take (i := 12) (v := ?_) rfl (by kernel_rfl) (by kernel_rfl) (by kernel_rfl) (fun _ _ _ h => h) (Or.inl ⟨by rfl, ?_⟩) (by assumption) ?_
        rotate_left
        · (intro w hSw; (try dsimp only at hSw); go_split_ands; go_simp; try with_reducible rfl)
        try simp only [List.getElem_toArray, List.getElem_cons_succ, List.getElem_cons_zero, Act.put, List.setIfInBounds_toArray, List.set_cons_zero, List.set_cons_succ]
        refine wpAnyH_done (by kernel_rfl) ?_ _
        refine lastPost_wp ?_
        have hT6 := (hT.drew.grown hg1 hne1)
        have hc6 : w6.cell? ⟨mb + 1, 0, none⟩ = some vS := hT6.cell 0
        have hz6 := hT6.frozen 0
        rw [show (ps ++ [s]).length = ps.length + 1 by simp] at hN1
        have hlt6 : mb + 1 < w5.heap.size := by have := HRest.out.2.2.2.2; omega
        have hNF := Kd.N_far hN1 (p := ⟨mb + 1, 0, none⟩) (fun j hj => hj.elim (HFL.out j) (fun (h : w5.heap.size ≤ j) (e : j = mb + 1) => by omega)) (.slice A6 (ps.length + 1) c6)
        have hTF := hT6.set_ 0 (.slice A6 (ps.length + 1) c6)
        have hUF := ((hU.drew.grown hg1 (fun j e => .inr (hbs j e))).setCell (p := ⟨mb + 1, 0, none⟩) (.inl rfl) (.slice A6 (ps.length + 1) c6))
        go_wp2
        go_roundw
        case rel =>
          refine ⟨k + 1, _, by go_num, by omega, hUF, hTF, ?_⟩
          rw [HSN.out]
          exact hNF
        case measure => simp [intOf]; omega
      · rw [if_neg hv, List.append_nil] at HSN
        have hst : ∀ K : Act → World → Prop, True := fun _ => trivial
        by_cases hv0 : 0 ≤ u
        · have hv1 : ¬ u < l.length := fun h => hv ⟨hv0, h⟩
          clear hv
          go_wp2
          go_roundw
          case rel =>
            refine ⟨k + 1, vS, by go_num, by omega, hU, hT, ?_⟩
            rw [HSN.out]
            exact hN
          case measure => simp [intOf]; omega
        · clear hv
          go_wp2
          go_roundw
          case rel =>
            refine ⟨k + 1, vS, by go_num, by omega, hU, hT, ?_⟩
            rw [HSN.out]
            exact hN
          case measure => simp [intOf]; omega
    · obtain rfl : k = cs.length := by omega
      go_wp2
      go_ret
      rw [HCS.out, HAL.out]
      obtain ⟨hS5, hFa5, hBw5, hge1, hsz2, hk5⟩ := HRest.out
      rw [List.take_length] at hN
      obtain ⟨A6, c6, rfl⟩ := Kd.N_slice hN
      have hcap := (Kd.N_reads' hN).2.1
      refine ⟨mb + 1, mb, rfl, by omega, hge1, hBw5.trans (hU.below (by omega) (fun j hj e => by omega)), ?_⟩
      refine ⟨A6, c6, Aa, ca, hT, ?_, ?_, hS5.upd hU (by omega), hcap, ?_⟩
      · exact Kd.F_mono (Kd.F_bound (Kd.N_F hN)) (fun j hj => by
          obtain ⟨h1, h2⟩ := hj
          have hz := hBw5.size
          exact ⟨⟨h1.elim .inl (fun h => .inr (by omega)), fun e => h1.elim (fun h => by have := HOKL.out j h; omega) (fun h => by omega)⟩, h2⟩)
      · exact Kd.F_mono (Kd.F_bound (F_upd hFa5 hU (fun j hj e => by omega))) (fun j hj => ⟨⟨.inr hj.1.1, by have := hj.1.2; omega⟩, hj.2⟩)
      · exact HCA.out
end Go.Proofs.Ytmljpidhhiineaa.P
