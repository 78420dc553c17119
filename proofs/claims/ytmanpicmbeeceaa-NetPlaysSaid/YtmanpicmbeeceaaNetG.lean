/- The reference's Send. -/
import Derived.Test.YtmanpicmbeeceaaNetE
import Derived.Test.YtmanpicmbeeceaaBaseR
namespace Go.Proofs.Ytmanpicmbeeceaa
open Go.RowKit
open Kd (Sl)

def RSendRel (nb : Nat) (S : Nat → Prop) (M : List Lt) (bss : List (List UInt8)) (w : World) (K : Nat) (c i : Value) (wr : World) : Prop :=
  ∃ k S' v' M', i = .int .i64 (k : Nat) ∧ c = .int .i64 (k : Nat) ∧ k ≤ K ∧ NetIs wr 30 50 nb S' v' M' ∧ ab M' = ab M ++ (bss.take k).map (·, false) ∧ Nx w S wr S'

def RSendRet (w : World) (nb : Nat) (S : Nat → Prop) (M : List Lt) (bss : List (List UInt8)) (K : Nat) (e : Ending) (w' : World) : Prop :=
  ∃ S' v' M', e = .returned (.int .i64 (K : Nat)) ∧ NetIs w' 30 50 nb S' v' M' ∧ ab M' = ab M ++ (bss.take K).map (·, false) ∧ Nx w S w' S'
set_option maxRecDepth 100000 in
set_option maxHeartbeats 1000000 in
theorem rsend_any {H : PHeap} (nb : Nat) (S : Nat → Prop) (v : Value) (M : List Lt) (vl : Value) (bss : List (List UInt8)) (w : World) (hF : Fits w H) (hS : ∀ k, S k → H k = none)
    (hN : NetIs w 30 50 nb S v M) (hl : Sl (Kd.slice Kd.byte) H vl bss) (hM : M.length ≤ 4000) (hbs : ∀ b ∈ bss, b.length ≤ 140737488355328) :
    Calls Try.prog 11 #[.pointer (some ⟨nb, 0, none⟩), vl] w (RSendRet w nb S M bss (min bss.length (4000 - M.length))) := by
  obtain ⟨A, c, rfl, hc, hmx⟩ := sl_len hl
  obtain ⟨B, d, rfl, hd, c0, f0, l0⟩ := hN.shape
  generalize hK : min bss.length (4000 - M.length) = K at *
  have hK1 : K ≤ bss.length := by omega
  have hK2 : K + M.length ≤ 4000 := by omega
  have hK3 : K = bss.length ∨ K = 4000 - M.length := by omega
  have HK := Lib.hid hK; have HK3 := Lib.hid hK3; clear hK hK3
  obtain ⟨i0, hi0, hz0, hz1, hz2⟩ := info_parts Try.infoOne
  obtain ⟨i1, hi1, hy0, hy1, hy2⟩ := info_parts Try.info5
  go_enter Try.func11, Try.ntmps11
  go_wp2_with fail
  go_loopw [5, 6] (RSendRel nb S M bss w K) (fun _ i _ => K - (intOf i).toNat)
  case atStart => exact ⟨0, S, _, M, rfl, rfl, Nat.zero_le _, hN, by simp, Nx.refl _ _⟩
  case round =>
    obtain ⟨k, S', v', M', rfl, rfl, hk, hN', hab, hx⟩ := hrel
    obtain ⟨B', d', rfl, hd', c0', f0', l0'⟩ := hN'.shape
    obtain ⟨hF', hS'⟩ := hx.out hF hS
    have hml : M'.length = M.length + k := by
      have := congrArg List.length hab
      simp only [ab_length, List.length_append, List.length_map, List.length_take] at this
      omega
    by_cases hlt : k < K
    · obtain ⟨ad, u, rfl, ⟨ub, hu1, hu⟩, hcell⟩ := sl_get1 rfl hl (i := k) (x := bss[k]) (List.getElem?_eq_getElem (by omega))
      simp only [List.cons.injEq, and_true] at hu1
      subst hu1
      obtain ⟨A1, cc, inner, rfl, _, _, hr, hi⟩ := hu
      obtain rfl := byts_of_reps hi
      have hbk := hbs _ (List.getElem_mem (show k < bss.length by omega))
      generalize hbb : bss[k] = bb at *
      have hcell0 := hcell wr hF'
      have hmb : M'.length < 4000 := by omega
      have hkb : k < bss.length := by omega
      have HML := Lib.hid hml; clear hml
      have HBB := Lib.hid hbb; clear hbb
      have hrn : (Value.slice B' M'.length d').ownBlock ≠ some nb := own_ne hN'.row hN'.blk (by decide)
      have q1 : ((k : Int) < bss.length) := by omega
      have q2 : ((M'.length : Int) < 4000) := by omega
      have HB0 : Below wr.heap.size wr.drew (wr.drew.alloc (.cells #[] 5)) := (Below.refl wr.heap.size wr.drew).alloc (Nat.le_refl _) _
      have hkl : (ad.add k).block < wr.heap.size := World.block_lt_of_cell? _ _ hcell0
      go_wp2_with fail
      refine wp_region_last_held (S := (fun w' => w'.cell? ⟨nb, 0, none⟩ = some (.slice B' M'.length d') ∧ w'.frozen? ⟨nb, 0, none⟩ = false ∧ w'.cell? (ad.add k) = some (.slice A1 bb.length cc))) (l := [_, _, _, _, _, _, _, _, _, _, _, _, _, _, _, _]) (o := _) (by kernel_rfl) (by kernel_rfl) ?_
      simp only [List.size_toArray, List.length_cons, List.length_nil, Nat.zero_add, Nat.reduceAdd]
      have hHeld : ((fun w' => w'.cell? ⟨nb, 0, none⟩ = some (.slice B' M'.length d') ∧ w'.frozen? ⟨nb, 0, none⟩ = false ∧ w'.cell? (ad.add k) = some (.slice A1 bb.length cc))) wr.drew := ⟨c0', f0', hcell0⟩
      refine wpAnyH_take (i := 0) (v := ?_) rfl (by kernel_rfl) (by kernel_rfl) (by kernel_rfl) (fun _ _ _ h => h) (Or.inl ⟨by rfl, ?_⟩) (by assumption) ?_
      rotate_left
      · (intro w hSw; (try dsimp only at hSw); go_split_ands; go_simp; try with_reducible rfl)
      try simp only [List.getElem_toArray, List.getElem_cons_succ, List.getElem_cons_zero, Act.put, List.setIfInBounds_toArray, List.set_cons_zero, List.set_cons_succ]
      refine wpAnyH_take (i := 1) (v := ?_) rfl (by kernel_rfl) (by kernel_rfl) (by kernel_rfl) (fun _ _ _ h => h) (Or.inl ⟨by rfl, ?_⟩) (by assumption) ?_
      rotate_left
      · (intro w hSw; (try dsimp only at hSw); go_split_ands; go_simp; try with_reducible rfl)
      try simp only [List.getElem_toArray, List.getElem_cons_succ, List.getElem_cons_zero, Act.put, List.setIfInBounds_toArray, List.set_cons_zero, List.set_cons_succ]
      refine wpAnyH_take (i := 2) (v := ?_) rfl (by kernel_rfl) (by kernel_rfl) (by kernel_rfl) (fun _ _ _ h => h) (Or.inl ⟨by rfl, ?_⟩) (by assumption) ?_
      rotate_left
      · (intro w hSw; (try dsimp only at hSw); go_split_ands; go_simp; try with_reducible rfl)
      try simp only [List.getElem_toArray, List.getElem_cons_succ, List.getElem_cons_zero, Act.put, List.setIfInBounds_toArray, List.set_cons_zero, List.set_cons_succ]
      refine wpAnyH_take (i := 3) (v := ?_) rfl (by kernel_rfl) (by kernel_rfl) (by kernel_rfl) (fun _ _ _ h => h) (Or.inl ⟨by rfl, ?_⟩) (by assumption) ?_
      rotate_left
      · (intro w hSw; (try dsimp only at hSw); go_split_ands; go_simp; try with_reducible rfl)
      try simp only [List.getElem_toArray, List.getElem_cons_succ, List.getElem_cons_zero, Act.put, List.setIfInBounds_toArray, List.set_cons_zero, List.set_cons_succ]
      refine wpAnyH_take (i := 4) (v := ?_) rfl (by kernel_rfl) (by kernel_rfl) (by kernel_rfl) (fun _ _ _ h => h) (Or.inl ⟨by rfl, ?_⟩) (by assumption) ?_
      rotate_left
      · (intro w hSw; (try dsimp only at hSw); go_split_ands; go_simp; try with_reducible rfl)
      try simp only [List.getElem_toArray, List.getElem_cons_succ, List.getElem_cons_zero, Act.put, List.setIfInBounds_toArray, List.set_cons_zero, List.set_cons_succ]
      refine wpAnyH_take (i := 6) (v := ?_) rfl (by kernel_rfl) (by kernel_rfl) (by kernel_rfl) (fun _ _ _ h => h) (Or.inl ⟨by rfl, ?_⟩) (by assumption) ?_
      rotate_left
      · (intro w hSw; (try dsimp only at hSw); go_split_ands; go_simp; try with_reducible rfl)
      try simp only [List.getElem_toArray, List.getElem_cons_succ, List.getElem_cons_zero, Act.put, List.setIfInBounds_toArray, List.set_cons_zero, List.set_cons_succ]
      refine wpAnyH_take (i := 7) (v := ?_) rfl (by kernel_rfl) (by kernel_rfl) (by kernel_rfl) (fun _ _ _ h => h) (Or.inl ⟨by rfl, ?_⟩) (by assumption) ?_
      rotate_left
      · (intro w hSw; (try dsimp only at hSw); go_split_ands; go_simp; try with_reducible rfl)
      try simp only [List.getElem_toArray, List.getElem_cons_succ, List.getElem_cons_zero, Act.put, List.setIfInBounds_toArray, List.set_cons_zero, List.set_cons_succ]
      refine wpAnyH_take (i := 8) (v := ?_) rfl (by kernel_rfl) (by kernel_rfl) (by kernel_rfl) (fun _ _ _ h => h) (Or.inl ⟨by rfl, ?_⟩) (by assumption) ?_
      rotate_left
      · (intro w hSw; (try dsimp only at hSw); go_split_ands; go_simp; try with_reducible rfl)
      try simp only [List.getElem_toArray, List.getElem_cons_succ, List.getElem_cons_zero, Act.put, List.setIfInBounds_toArray, List.set_cons_zero, List.set_cons_succ]
      refine wpAnyH_take (i := 9) (v := ?_) rfl (by kernel_rfl) (by kernel_rfl) (by kernel_rfl) (fun _ _ _ h => h) (Or.inl ⟨by rfl, ?_⟩) (by assumption) ?_
      rotate_left
      · (intro w hSw; (try dsimp only at hSw); go_split_ands; go_simp; try with_reducible rfl)
      try simp only [List.getElem_toArray, List.getElem_cons_succ, List.getElem_cons_zero, Act.put, List.setIfInBounds_toArray, List.set_cons_zero, List.set_cons_succ]
      refine wpAnyH_ready (rs := [5]) (by kernel_rfl) (by simp) ?_
      refine AllReadyH.cons rfl (fun K hK => ?_) AllReadyH.nil
      go_simp
      refine hK.out _ _ ?_ (fun hHeld => ?_)
      · exact ⟨(keepA ⟨hHeld.1, hHeld.2.1⟩ _).1, (keepA ⟨hHeld.1, hHeld.2.1⟩ _).2, cellA hHeld.2.2 _⟩
      clear hK K
      try simp only [List.getElem_toArray, List.getElem_cons_succ, List.getElem_cons_zero, Act.put, List.setIfInBounds_toArray, List.set_cons_zero, List.set_cons_succ]
      refine wpAnyH_ready (rs := [10]) (by kernel_rfl) (by simp) ?_
      refine AllReadyH.cons rfl (fun K hK => ?_) AllReadyH.nil
      refine step_append_h (by rfl) (.tmp 26) (.tmp 30) 34 (by rfl) 5 i1 _ 1 1 Try.underlying34 hi1 hy0 hy1 hy2 rfl (by omega) (by omega) (.slice (some ⟨wr.heap.size, 0, none⟩) 0 0) 0 [] H A1 _ _ (byts bb) (by rfl) (by rfl) (own_empty wr.drew _ _) (Fits.alloc (w := wr.drew) hF' _) hr (by simp [byts_length]) (byts_one bb) (by omega) ?_
      intro A2 c2 w2 hown2 hg2 hat2
      simp only [Nat.zero_add, List.nil_append] at hown2 hat2 ⊢
      have HB2 : Below wr.heap.size wr.drew w2 := HB0.grown hg2 (by simp) (fun q hq => by simp only [Value.ownBlock, Option.some.injEq] at hq; omega)
      obtain ⟨g, rest, rfl, hbl, hgc, hgm⟩ := own_some hown2 (by rcases hat2 with h | h <;> rw [h] <;> simp [Value.ownBlock])
      have hg2' : wr.heap.size ≤ g := by rcases hat2 with h | h <;> simp only [Value.ownBlock, Option.some.injEq] at h <;> first | omega | (have := h; simp at this; omega)
      refine hK.out _ _ ?_ (fun hHeld => ?_)
      · exact ⟨(keepG hg2 (by simp [Value.ownBlock]; omega) ⟨hHeld.1, hHeld.2.1⟩).1, (keepG hg2 (by simp [Value.ownBlock]; omega) ⟨hHeld.1, hHeld.2.1⟩).2, cellG hg2 (by simp [Value.ownBlock]; omega) hHeld.2.2⟩
      clear hK K
      try simp only [List.getElem_toArray, List.getElem_cons_succ, List.getElem_cons_zero, Act.put, List.setIfInBounds_toArray, List.set_cons_zero, List.set_cons_succ]
      refine wpAnyH_take (i := 11) (v := ?_) rfl (by kernel_rfl) (by kernel_rfl) (by kernel_rfl) (fun _ _ _ h => h) (Or.inl ⟨by rfl, ?_⟩) (by assumption) ?_
      rotate_left
      · (intro w hSw; (try dsimp only at hSw); go_split_ands; go_simp; try with_reducible rfl)
      try simp only [List.getElem_toArray, List.getElem_cons_succ, List.getElem_cons_zero, Act.put, List.setIfInBounds_toArray, List.set_cons_zero, List.set_cons_succ]
      refine wpAnyH_ready (rs := [12]) (by kernel_rfl) (by simp) ?_
      refine AllReadyH.cons rfl (fun K hK => ?_) AllReadyH.nil
      go_simp
      refine hK.out _ _ ?_ (fun hHeld => ?_)
      · exact ⟨(keepA ⟨hHeld.1, hHeld.2.1⟩ _).1, (keepA ⟨hHeld.1, hHeld.2.1⟩ _).2, cellA hHeld.2.2 _⟩
      clear hK K
      try simp only [List.getElem_toArray, List.getElem_cons_succ, List.getElem_cons_zero, Act.put, List.setIfInBounds_toArray, List.set_cons_zero, List.set_cons_succ]
      refine wpAnyH_ready (rs := [13]) (by kernel_rfl) (by simp) ?_
      refine AllReadyH.cons rfl (fun K hK => ?_) AllReadyH.nil
      refine step_push (by rfl) (.tmp 25) (.tmp 33) 28 (by rfl) i0 _ 2 32 Try.underlying28 hi0 hz0 hz1 hz2 rfl (by omega) (by omega) (.slice B' M'.length d') M'.length (ltRow M') _ (by rfl) (by rfl) (by rfl) (own_below (w := wr.drew) hN'.row HB2) (by simp [Value.oneCell']) (by omega) ?_
      intro gg cap2 w3 hown3 hgrow hat
      refine hK.out _ _ ?_ (fun hHeld => ?_)
      · exact ⟨(keepG hgrow (Ne.symm hrn) ⟨hHeld.1, hHeld.2.1⟩).1, (keepG hgrow (Ne.symm hrn) ⟨hHeld.1, hHeld.2.1⟩).2, cellG hgrow (fun e => HCell.dom hF' hcell (hS' _ (hN'.srow _ e.symm))) hHeld.2.2⟩
      clear hK K
      try simp only [List.getElem_toArray, List.getElem_cons_succ, List.getElem_cons_zero, Act.put, List.setIfInBounds_toArray, List.set_cons_zero, List.set_cons_succ]
      refine wpAnyH_take (i := 14) (v := ?_) rfl (by kernel_rfl) (by kernel_rfl) (by kernel_rfl) (fun _ _ _ h => h) (Or.inl ⟨by rfl, ?_⟩) (by assumption) ?_
      rotate_left
      · (intro w hSw; (try dsimp only at hSw); go_split_ands; go_simp; try with_reducible rfl)
      try simp only [List.getElem_toArray, List.getElem_cons_succ, List.getElem_cons_zero, Act.put, List.setIfInBounds_toArray, List.set_cons_zero, List.set_cons_succ]
      refine wpAnyH_take (i := 15) (v := ?_) rfl (by kernel_rfl) (by kernel_rfl) (by kernel_rfl) (fun _ _ _ h => h) (Or.inl ⟨by rfl, ?_⟩) (by assumption) ?_
      rotate_left
      · (intro w hSw; (try dsimp only at hSw); go_split_ands; go_simp; try with_reducible rfl)
      try simp only [List.getElem_toArray, List.getElem_cons_succ, List.getElem_cons_zero, Act.put, List.setIfInBounds_toArray, List.set_cons_zero, List.set_cons_succ]
      refine wpAnyH_done (by kernel_rfl) ?_ _
      refine lastPost_wp ?_
      have hb3 : Below wr.heap.size wr w2 := ⟨HB2.os, HB2.tape, HB2.output, HB2.size, HB2.block⟩
      have HP := Lib.hid (net_push (sp := false) (bs := bb) (n := bb.length) (cap := c2) (by decide) (by decide) (by decide) hN' (hb3.alloc hb3.size _) (hbl.alloc _) hg2' rfl hgc hgm hgrow hown3 (by simpa using hat))
      obtain ⟨c3, f3, _⟩ := hHeld
      clear hbl hown2 hown3 hgrow hg2 hat hat2 hb3 HB2 HB0
      go_wp2
      refine ⟨⟨k + 1, _, _, _, by go_num, by go_num, hlt, HP.out.1, ?_, hx.trans HP.out.2⟩, by simp [intOf]; omega⟩
      simp only [ab, List.map_append] at hab ⊢
      rw [hab, List.take_succ_eq_append_getElem hkb, List.map_append, List.append_assoc, HBB.out]
      rfl
    · obtain rfl : k = K := by omega
      rcases HK3.out with h | h
      · have q3 : ¬ ((k : Int) < bss.length) := by omega
        have HML := Lib.hid hml; clear hml h
        go_wp2_with fail
        go_ret
        exact ⟨S', _, M', by simp, hN', hab, hx⟩
      · have q3 : ¬ ((M'.length : Int) < 4000) := by omega
        have HML := Lib.hid hml; clear hml h
        go_wp2_with fail
        all_goals
          go_ret
          exact ⟨S', _, M', by simp, hN', hab, hx⟩
end Go.Proofs.Ytmanpicmbeeceaa
