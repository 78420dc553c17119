/- NetPlays' walk. -/
import Derived.Test.YtmanpicmbeeceaaNetP
import Derived.Test.YtmanpicmbeeceaaBaseM
namespace Go.Proofs.Ytmanpicmbeeceaa
open Go.RowKit
open Kd (Sl)
def OutRel (w0 : World) (n : Nat) (kv : Value) (wq : World) : Prop := ∃ j : Nat, kv = .int .i64 (j : Nat) ∧ j ≤ n ∧ Below w0.heap.size w0 wq
/-- the walk stops at an append. -/
theorem stop_append {P : Program} {ops : Array Oper} {rest : List Oper} {o : Oper} {a : Go.Act} {Q : Exit → Go.Act → World → Prop} {w : World} {xs : Array Operand} {ts : Array TypeId} (_ho : o.op = .call { callee := .builtin .append, args := xs, argTypes := ts })
    (h : RowKit.Hid (wpList P ops Q (o :: rest) a w)) : wpList P ops Q (o :: rest) a w := h.out
def BuildRel (w : World) (H : PHeap) (nb rb : Nat) (S : Nat → Prop) (v : Value) (M : List Lt) (T : Nat → Prop) (u : Value) (N : List Lt) (ab_ : Nat) (cs : Array Value) (L : List (List UInt8)) (gv kv : Value) (wr : World) : Prop :=
  ∃ (G : Nat → Prop) (gs : List Lt), kv = .int .i64 (gs.length : Nat) ∧ gs.length ≤ L.length ∧ gs.map (·.bs) = L.take gs.length ∧ PlayAt w H nb rb S v M T u N wr ∧ Blk wr ab_ 33 cs ∧ Giv wr w.heap.size G gv gs ∧ ∀ q, G q → ¬ S q ∧ ¬ T q ∧ q ≠ ab_
def MutRel (w : World) (H : PHeap) (nb rb : Nat) (S : Nat → Prop) (v : Value) (M : List Lt) (T : Nat → Prop) (u : Value) (N : List Lt) (gv : Value) (gs : List Lt) (kv : Value) (wr : World) : Prop :=
  ∃ k : Nat, kv = .int .i64 (k : Nat) ∧ k ≤ gs.length ∧ PlayAt w H nb rb S v M T u N wr ∧ Mut wr gv gs
def MutRel2 (w : World) (H : PHeap) (nb rb : Nat) (S : Nat → Prop) (v : Value) (M : List Lt) (T : Nat → Prop) (u : Value) (N : List Lt) (gv : Value) (gs : List Lt) (n : Nat) (kv : Value) (wr : World) : Prop :=
  ∃ k : Nat, kv = .int .i64 (k : Nat) ∧ k ≤ n ∧ PlayAt w H nb rb S v M T u N wr ∧ Mut wr gv gs
def PlayRel (w : World) (H : PHeap) (nb rb : Nat) (acts : List Act) (iv : Value) (wr : World) : Prop :=
  ∃ (i : Nat) (S : Nat → Prop) (v : Value) (M : List Lt) (T : Nat → Prop) (u : Value) (N : List Lt), iv = .int .i64 (i : Nat) ∧ i ≤ acts.length ∧ PlayAt w H nb rb S v M T u N wr ∧ Twin M N
def MidRel (w : World) (H : PHeap) (nb rb : Nat) (x y : Value) (wr : World) : Prop :=
  ∃ (k : Int) (S : Nat → Prop) (v : Value) (M : List Lt) (T : Nat → Prop) (u : Value) (N : List Lt), x = .int .i64 k ∧ y = .int .i64 k ∧ PlayAt w H nb rb S v M T u N wr ∧ Twin M N
set_option maxRecDepth 100000 in
set_option maxHeartbeats 4000000 in
theorem netPlays_any {H : PHeap} (v : Value) (acts : List Act) (w : World) (hF : Fits w H) (hv : Sl kAct H v acts) :
    Calls Try.prog 3 #[v] w (TurnsRet w) := by
  obtain ⟨A, c, rfl, hc, hcm⟩ := sl_len hv
  go_enter Try.func3, Try.ntmps3
  go_wp2_with fail
  refine (small_any _ acts w hF hv).mono ?_
  rintro e w' ⟨b, rfl, rfl, hsm⟩
  cases b with
  | false =>
    go_wp2_with (go_at_call 8; refine (live_any _).mono ?_; rintro e w' ⟨rfl, hb⟩)
    go_ret
    exact ⟨rfl, hb⟩
  | true =>
    obtain ⟨hsm1, hsm2⟩ := hsm rfl
    clear hsm
    go_wp2_with fail
    refine (new_any _).mono ?_
    rintro e w1 ⟨rfl, hN, hB⟩
    have hF1 := hF.below hB
    generalize hnb : w.heap.size = nb at *
    have HNB := Lib.hid hnb; clear hnb
    have HB : RowKit.Hid (Below w.heap.size w w1) := Lib.hid (by rw [HNB.out]; exact hB)
    go_wp2_with fail
    go_loopw [5] (PlayRel w H nb w1.heap.size acts) (fun k _ => acts.length - (intOf k).toNat)
    case atStart =>
      have hb := Blk.new w1 30 #[.slice none 0 0]
      have hP : PlayAt w H nb w1.heap.size (· = nb) (.slice none 0 0) [] (· = w1.heap.size) (.slice none 0 0) [] (w1.alloc (.cells #[.slice none 0 0] 30)) := {
        net := hN.upd ((Upd.refl w1 (fun _ => False)).alloc _) (fun _ _ h => h)
        ref := ⟨hb, ⟨by simp [ltRow], .inl ⟨rfl, rfl⟩⟩, by simp, by simp, rfl, by simp [Value.ownBlock], by simp, fun k hk => by subst hk; simp⟩
        dis := fun q (h1 : q = nb) (h2 : q = w1.heap.size) => by have := hN.slo q h1; omega
        slo := fun q (h1 : q = nb) => by rw [h1]; exact Nat.le_of_eq HNB.out
        tlo := fun q (h1 : q = w1.heap.size) => by rw [h1]; exact HB.out.size
        fits := hF1.alloc _
        dom := fun q hq => hF.none_ hq
        below := HB.out.alloc HB.out.size _ }
      exact ⟨0, _, _, [], _, _, [], rfl, Nat.zero_le _, hP, rfl, by simp, by simp⟩
    case round =>
      obtain ⟨i, S, v, M, T, u, N, rfl, hi, hP, hT⟩ := hrel
      by_cases hlt : i < acts.length
      · obtain ⟨ad, vL, rfl, hc0, hc1, hL, hc2, hc3, hc4, _, _, _⟩ := act_at hv (List.getElem?_eq_getElem hlt)
        obtain ⟨B, d, rfl, hd1, hd2⟩ := sl_len hL
        have q0 := hc0 wr hP.fits
        have q1 := hc1 wr hP.fits
        have q2 := hc2 wr hP.fits
        have q3 := hc3 wr hP.fits
        have q4 := hc4 wr hP.fits
        rcases hact : acts[i] with ⟨kd, L, ai, aat, aby⟩
        rw [hact] at q0 q1 q2 q3 q4 hL
        clear hact
        have hbk := Blk.new wr 33 #[.int .i64 kd, .slice B L.length d, .int .i64 ai, .int .i64 aat, .int .u8 aby.toNat]
        have hP1 := hP.alloc (.cells #[.int .i64 kd, .slice B L.length d, .int .i64 ai, .int .i64 aat, .int .u8 aby.toNat] 33)
        go_upto_block 2 with fail
        go_cut [7, 8] (MidRel w H nb w1.heap.size)
        case first =>
          as_aux_lemma =>
            have hna : ¬ S wr.heap.size := fun hs => by have := hP.net.slo _ hs; omega
            by_cases hk0 : kd = 0
            · subst hk0
              have hLb : ∀ b ∈ L, b.length ≤ 140737488355328 := fun b hb => by
                obtain ⟨q, hq⟩ := List.getElem?_of_mem hb
                obtain ⟨A', cv', inner, hveq, _, _, hr, hi'⟩ := hL
                obtain ⟨_, _, _, h, _⟩ := reps_bys hi' q b hq
                exact h
              have hLn : L.length * 24 ≤ 140737488355328 := sl_bound hL
              obtain ⟨i0, hi0, hz0, hz1, hz2⟩ := info_parts Try.infoBytes
              obtain ⟨i1, hi1, hy0, hy1, hy2⟩ := info_parts Try.info5
              go_wp2_with fail
              generalize hab0 : wr.heap.size = ab0 at *
              have HAB0 := Lib.hid hab0; clear hab0
              go_loopw [9, 10] (BuildRel w H nb w1.heap.size S v M T u N ab0 #[.int .i64 0, .slice B L.length d, .int .i64 ai, .int .i64 aat, .int .u8 aby.toNat] L) (fun _ k _ => L.length - (intOf k).toNat)
              case atStart =>
                refine ⟨fun _ => False, [], rfl, Nat.zero_le _, rfl, hP1, hbk, ?_, fun q h => h.elim⟩
                exact { row := ⟨by simp [gRow], .inl ⟨rfl, rfl⟩⟩, ok := fun l hl => (by simp at hl), glo := fun q h => h.elim, gsz := fun q h => h.elim, grow := fun q hq => (by cases hq), gin := fun l hl => (by simp at hl) }
              case round =>
                obtain ⟨G, gs, rfl, hgl, hgb, hPk, hbkk, hG, hGd⟩ := hrel
                have q1 := hbkk.cell 1
                have q1' : wr.cell? ⟨ab0, 1, none⟩ = some (.slice B L.length d) := q1
                clear q1
                have hlo := hPk.below.size
                have habl := hbkk.lt
                have HGB := Lib.hid hgb; clear hgb
                by_cases hkl : gs.length < L.length
                · obtain ⟨bd, ub, rfl, ⟨ub2, hu1, hu⟩, hck⟩ := sl_get1 rfl hL (List.getElem?_eq_getElem hkl)
                  simp only [List.cons.injEq, and_true] at hu1
                  subst hu1
                  obtain ⟨A1, c1, inner, rfl, hc1, _, hr, hri⟩ := hu
                  obtain rfl := byts_of_reps hri
                  have hckw := cellA (hck wr hPk.fits) (.cells #[] 5)
                  have hLk := hLb _ (List.getElem_mem hkl)
                  obtain ⟨Ag, cg, rfl, hgc1, hgc2⟩ := own_shape hG.row
                  have HGL := Lib.hid hgl; clear hgl
                  have hgll : gs.length ≤ 5864062014805 := by omega
                  go_wp2_with (first
                    | (at_builtin; refine stop_append rfl ?_))
                  refine Lib.hid ?_
                  refine wpList_append_h rfl (.tmp 49) (.tmp 54) 34 rfl 5 i1 _ 1 1 Try.underlying34 hi1 hy0 hy1 hy2 rfl (by omega) (by omega) (.slice (some ⟨wr.heap.size, 0, none⟩) 0 0) 0 [] H A1 L[gs.length].length c1 (byts L[gs.length]) rfl rfl (own_empty wr _ _) (hPk.fits.alloc _) hr (by rw [byts_length, Nat.mul_one]) (byts_one _) (by omega) ?_
                  intro A2 c2 w2 hown2 hg2 hat2
                  simp only [Nat.zero_add, List.nil_append] at hown2 hat2 ⊢
                  have hu2 : Upd wr w2 (fun _ => False) := ((Upd.refl wr (fun _ => False)).alloc _).grown hg2 (fun k hk => .inr (by simp only [Value.ownBlock, Option.some.injEq] at hk; omega))
                  obtain ⟨g, rest, rfl, hbl, _, _⟩ := own_some hown2 (by rcases hat2 with h | h <;> rw [h] <;> simp [Value.ownBlock])
                  have hgw : wr.heap.size ≤ g := by
                    rcases hat2 with h | h <;> simp only [Value.ownBlock, Option.some.injEq, World.size_alloc] at h <;> omega
                  have HU2 := Lib.hid hu2; clear hu2
                  go_wp2_with (first
                    | (at_builtin; refine stop_append rfl ?_))
                  refine Lib.hid ?_
                  refine wpList_push (cs := #[.slice (some ⟨g, 0, none⟩) L[gs.length].length c2]) (e := 34) rfl (.tmp 48) (.tmp 56) 31 rfl i0 _ 1 24 Try.underlying31 hi0 hz0 hz1 hz2 rfl (by omega) (by omega) (.slice Ag gs.length cg) gs.length (gRow gs) _ rfl rfl rfl (own_upd hG.row HU2.out (fun _ _ h => h)) (fun u hu => by rcases List.mem_singleton.1 hu with rfl; rfl) (by omega) ?_
                  intro g3 c3 w3 hown3 hg3 hat3
                  have hu3 : Upd wr w3 (fun q => (Value.slice Ag gs.length cg).ownBlock = some q) := ((HU2.out.mono (fun _ _ h => h.elim)).alloc _).grown hg3 (fun k hk => .inl hk)
                  have hG3 := hG.push hlo HU2.out rfl hown2 hgw hg3 hown3 hat3
                  have hP3 := hPk.upd hu3 (fun q hq => ⟨(hGd q (hG.grow q hq)).1, (hGd q (hG.grow q hq)).2.1, hG.glo q (hG.grow q hq)⟩)
                  have hb3 := hbkk.upd hu3 (fun hq => (hGd _ (hG.grow _ hq)).2.2 rfl)
                  have hGd3 : ∀ q, (G q ∨ q = g ∨ q = g3) → ¬ S q ∧ ¬ T q ∧ q ≠ ab0 := fun q hq => by
                    have hnew : ∀ q, wr.heap.size ≤ q → ¬ S q ∧ ¬ T q ∧ q ≠ ab0 := fun q hq => ⟨fun h => by have := hPk.net.slo q h; omega, fun h => by have := hPk.ref.slo q h; omega, by omega⟩
                    rcases hq with h | rfl | rfl
                    · exact hGd q h
                    · exact hnew _ hgw
                    · rcases hat3 with h | h
                      · exact hGd _ (hG.grow _ h)
                      · exact hnew _ (by have := HU2.out.size; omega)
                  have hmap : (gs ++ [(⟨g, c2, L[gs.length], false⟩ : Lt)]).map Lt.bs = L.take (gs.length + 1) := by
                    rw [List.map_append, HGB.out, List.take_succ_eq_append_getElem hkl]; rfl
                  have HGD3 := Lib.hid hGd3; clear hGd3
                  have HMAP := Lib.hid hmap; clear hmap
                  go_wp2_with fail
                  refine ⟨⟨_, gs ++ [⟨g, c2, L[gs.length], false⟩], by rw [List.length_append]; go_num, by rw [List.length_append]; exact hkl, by rw [List.length_append]; exact HMAP.out, hP3, hb3, ?_, HGD3.out⟩, by simp [intOf]; omega⟩
                  exact hG3
                · have hgl2 : gs.length = L.length := by omega
                  have HGL2 := Lib.hid hgl2
                  have hmapL : gs.map Lt.bs = L := by have h := HGB.out; rwa [hgl2, List.take_length] at h
                  have HML := Lib.hid hmapL; clear hmapL
                  have hslG : Sl (Kd.slice Kd.byte) (HX wr S) _ (gs.map Lt.bs) := hG.sl (S := S) (fun q hq => (hGd q hq).1) (fun l hl => hLb _ (by rw [← HML.out]; exact List.mem_map.2 ⟨l, hl, rfl⟩)) (by omega)
                  rw [HML.out] at hslG
                  have hge : ¬ (gs.length : Int) < L.length := by omega
                  obtain ⟨Ag, cg, rfl, hgc1, hgc2⟩ := own_shape hG.row
                  clear hgl2 hkl
                  go_wp2_with fail
                  refine (send_any nb S _ M _ L _ (hx_fits wr S) (hx_out wr S) hPk.net hslG hT.2.1 hLb).mono ?_
                  rintro e w2 ⟨S2, v2, M2, rfl, hN2, hab2, hx2⟩
                  have HAB2 := Lib.hid hab2; clear hab2
                  have hP2 := hPk.impl hN2 hx2
                  have hG2 := hG.upd hx2.upd (fun q hq => (hGd q hq).1)
                  have hbk2 : w2.cell? ⟨ab0, 1, none⟩ = some (.slice B L.length d) := (hbkk.upd hx2.upd hna).cell 1
                  have HT := Lib.hid hT; clear hT
                  clear q1'
                  go_wp2_with fail
                  refine (rsend_any _ T u N _ L _ hP2.fits hP2.tnone hP2.ref hL (by rw [← HT.out.len]; exact HT.out.2.1) hLb).mono ?_
                  rintro e w3 ⟨T3, u3, N3, rfl, hN3, hab3, hx3⟩
                  have HAB3 := Lib.hid hab3; clear hab3
                  have hP3 := hP2.refn hN3 hx3
                  have hG3 := hG2.upd hx3.upd (fun q hq => (hGd q hq).2.1)
                  have hTw := HT.out.sent HAB2.out HAB3.out hLb
                  have HTW := Lib.hid hTw; clear hTw
                  have hGd3 : ∀ q, G q → ¬ S2 q ∧ ¬ T3 q := fun q hq => ⟨fun h => by
                    rcases hx2.new q h with h | h
                    · exact (hGd q hq).1 h
                    · have := hG.gsz q hq; omega, fun h => by
                    rcases hx3.new q h with h | h
                    · exact (hGd q hq).2.1 h
                    · have := hG2.gsz q hq; omega⟩
                  have HGD := Lib.hid hGd3; clear hGd3
                  have hKK : ((min L.length (4000 - N.length) : Nat) : Int) = (min L.length (4000 - M.length) : Nat) := by rw [HT.out.len]
                  rw [hKK]
                  clear hKK hx2 hx3 hGd
                  have hMu := hG3.mut
                  have hglo := hG3.glo
                  have hgin := hG3.gin
                  generalize min L.length (4000 - M.length) = res at *
                  clear hG3 hG2 hG
                  go_wp2_with fail
                  go_loopw [11] (MutRel w H nb w1.heap.size S2 v2 M2 T3 u3 N3 (.slice Ag gs.length cg) gs) (fun k _ => gs.length - (intOf k).toNat)
                  case atStart => exact ⟨0, rfl, Nat.zero_le _, hP3, hMu⟩
                  case round =>
                    obtain ⟨k, rfl, hk, hPm, hMm⟩ := hrel
                    by_cases hk1 : k < gs.length
                    · have hlm : gs[k] ∈ gs := List.getElem_mem hk1
                      have hrk : (gRow gs)[k]? = some (.slice (some ⟨gs[k].g, 0, none⟩) gs[k].bs.length gs[k].cap) := by unfold gRow; rw [List.getElem?_map, List.getElem?_eq_getElem hk1]; rfl
                      obtain ⟨gB, rfl⟩ : ∃ g, Ag = some ⟨g, 0, none⟩ := by
                        rcases hMm.row.2 with ⟨_, h0⟩ | ⟨g, cap, cur, h, _⟩
                        · omega
                        · simp only [Value.slice.injEq] at h; exact ⟨g, h.1⟩
                      have hcellk := own_cell hMm.row hrk
                      have hbk' : gs[k].bs.length ≤ 140737488355328 := hLb _ (by rw [← HML.out]; exact List.mem_map.2 ⟨gs[k], hlm, rfl⟩)
                      go_wp2_with fail
                      go_loopw [12] (MutRel2 w H nb w1.heap.size S2 v2 M2 T3 u3 N3 (.slice (some ⟨gB, 0, none⟩) gs.length cg) gs gs[k].bs.length) (fun j _ => gs[k].bs.length - (intOf j).toNat)
                      case atStart => exact ⟨0, rfl, Nat.zero_le _, hPm, hMm⟩
                      case round =>
                        obtain ⟨j, rfl, hj, hPj, hMj⟩ := hrel
                        have hcellj := own_cell hMj.row hrk
                        by_cases hj1 : j < gs[k].bs.length
                        · obtain ⟨cs, hbc, hcs⟩ := hMj.ok _ hlm
                          obtain ⟨bb, hbb⟩ := hcs j hj1
                          have hcc := (hbc.cell j).trans hbb
                          have hff := hbc.frozen j
                          have hx85 := u8_xor bb 85
                          have e85 : ((85 : UInt8).toNat : Int) = 85 := rfl
                          rw [e85] at hx85
                          clear e85
                          have hset := hMj.set_ hlm hj1 (bb ^^^ 85)
                          have HSET := Lib.hid hset; clear hset
                          have hbbv : wr.cell? ⟨gs[k].g, j, none⟩ = some (.int .u8 bb.toNat) := hcc
                          clear hcc hbb hcs
                          generalize hqq : bb ^^^ 85 = qq at *
                          clear hqq
                          have hcs : True := trivial
                          generalize bb.toNat = pp at *
                          have hk0' : (0 : Int) ≤ (k : Int) := by omega
                          have hk1' : (k : Int) < (gs.length : Int) := by omega
                          have hj0' : (0 : Int) ≤ (j : Int) := by omega
                          have hj1' : (j : Int) < (gs[k].bs.length : Int) := by omega
                          go_wp2_with fail
                          refine wp_region_last_held (S := (fun w' => w'.cell? ⟨gB, k, none⟩ = some (.slice (some ⟨gs[k].g, 0, none⟩) gs[k].bs.length gs[k].cap) ∧ w'.cell? ⟨gs[k].g, j, none⟩ = some (.int .u8 pp))) (l := [_, _, _, _, _, _, _, _, _, _, _, _, _, _]) (o := _) (by kernel_rfl) (by kernel_rfl) ?_
                          simp only [List.size_toArray, List.length_cons, List.length_nil, Nat.zero_add, Nat.reduceAdd]
                          have hHeld : ((fun w' => w'.cell? ⟨gB, k, none⟩ = some (.slice (some ⟨gs[k].g, 0, none⟩) gs[k].bs.length gs[k].cap) ∧ w'.cell? ⟨gs[k].g, j, none⟩ = some (.int .u8 pp))) wr.drew := ⟨hcellj, hbbv⟩
                          refine wpAnyH_take (i := 0) (v := ?_) rfl (by kernel_rfl) (by kernel_rfl) (by kernel_rfl) (fun _ _ _ h => h) (Or.inl ⟨by rfl, ?_⟩) (by assumption) ?_
                          rotate_left
                          · (intro w hSw; (try dsimp only at hSw); go_split_ands; go_simp; try with_reducible rfl)
                          try simp only [List.getElem_toArray, List.getElem_cons_succ, List.getElem_cons_zero, Act.put, List.setIfInBounds_toArray, List.set_cons_zero, List.set_cons_succ]
                          refine wpAnyH_take (i := 1) (v := ?_) rfl (by kernel_rfl) (by kernel_rfl) (by kernel_rfl) (fun _ _ _ h => h) (Or.inl ⟨by rfl, ?_⟩) (by assumption) ?_
                          rotate_left
                          · (intro w hSw; (try dsimp only at hSw); go_split_ands; go_simp; try with_reducible rfl)
                          try simp only [List.getElem_toArray, List.getElem_cons_succ, List.getElem_cons_zero, Act.put, List.setIfInBounds_toArray, List.set_cons_zero, List.set_cons_succ]
                          refine wpAnyH_take (i := 2) (v := ?_) rfl (by kernel_rfl) (by kernel_rfl) (by kernel_rfl) (fun _ _ _ h => h) (Or.inl ⟨by rfl, ?_⟩) (by assumption) ?_
                          rotate_left
                          · (intro w hSw; (try dsimp only at hSw); go_split_ands; go_simp; try with_reducible rfl)
                          try simp only [List.getElem_toArray, List.getElem_cons_succ, List.getElem_cons_zero, Act.put, List.setIfInBounds_toArray, List.set_cons_zero, List.set_cons_succ]
                          refine wpAnyH_take (i := 3) (v := ?_) rfl (by kernel_rfl) (by kernel_rfl) (by kernel_rfl) (fun _ _ _ h => h) (Or.inl ⟨by rfl, ?_⟩) (by assumption) ?_
                          rotate_left
                          · (intro w hSw; (try dsimp only at hSw); go_split_ands; go_simp; try with_reducible rfl)
                          try simp only [List.getElem_toArray, List.getElem_cons_succ, List.getElem_cons_zero, Act.put, List.setIfInBounds_toArray, List.set_cons_zero, List.set_cons_succ]
                          refine wpAnyH_take (i := 4) (v := ?_) rfl (by kernel_rfl) (by kernel_rfl) (by kernel_rfl) (fun _ _ _ h => h) (Or.inl ⟨by rfl, ?_⟩) (by assumption) ?_
                          rotate_left
                          · (intro w hSw; (try dsimp only at hSw); go_split_ands; go_simp; try with_reducible rfl)
                          try simp only [List.getElem_toArray, List.getElem_cons_succ, List.getElem_cons_zero, Act.put, List.setIfInBounds_toArray, List.set_cons_zero, List.set_cons_succ]
                          refine wpAnyH_take (i := 5) (v := ?_) rfl (by kernel_rfl) (by kernel_rfl) (by kernel_rfl) (fun _ _ _ h => h) (Or.inl ⟨by rfl, ?_⟩) (by assumption) ?_
                          rotate_left
                          · (intro w hSw; (try dsimp only at hSw); go_split_ands; go_simp; try with_reducible rfl)
                          try simp only [List.getElem_toArray, List.getElem_cons_succ, List.getElem_cons_zero, Act.put, List.setIfInBounds_toArray, List.set_cons_zero, List.set_cons_succ]
                          refine wpAnyH_take (i := 6) (v := ?_) rfl (by kernel_rfl) (by kernel_rfl) (by kernel_rfl) (fun _ _ _ h => h) (Or.inl ⟨by rfl, ?_⟩) (by assumption) ?_
                          rotate_left
                          · (intro w hSw; (try dsimp only at hSw); go_split_ands; go_simp; try with_reducible rfl)
                          try simp only [List.getElem_toArray, List.getElem_cons_succ, List.getElem_cons_zero, Act.put, List.setIfInBounds_toArray, List.set_cons_zero, List.set_cons_succ]
                          refine wpAnyH_take (i := 7) (v := ?_) rfl (by kernel_rfl) (by kernel_rfl) (by kernel_rfl) (fun _ _ _ h => h) (Or.inl ⟨by rfl, ?_⟩) (by assumption) ?_
                          rotate_left
                          · (intro w hSw; (try dsimp only at hSw); go_split_ands; go_simp; try with_reducible rfl)
                          try simp only [List.getElem_toArray, List.getElem_cons_succ, List.getElem_cons_zero, Act.put, List.setIfInBounds_toArray, List.set_cons_zero, List.set_cons_succ]
                          refine wpAnyH_take (i := 8) (v := ?_) rfl (by kernel_rfl) (by kernel_rfl) (by kernel_rfl) (fun _ _ _ h => h) (Or.inl ⟨by rfl, ?_⟩) (by assumption) ?_
                          rotate_left
                          · (intro w hSw; (try dsimp only at hSw); go_split_ands; go_simp; try with_reducible rfl)
                          try simp only [List.getElem_toArray, List.getElem_cons_succ, List.getElem_cons_zero, Act.put, List.setIfInBounds_toArray, List.set_cons_zero, List.set_cons_succ]
                          refine wpAnyH_take (i := 9) (v := ?_) rfl (by kernel_rfl) (by kernel_rfl) (by kernel_rfl) (fun _ _ _ h => h) (Or.inl ⟨by rfl, ?_⟩) (by assumption) ?_
                          rotate_left
                          · (intro w hSw; (try dsimp only at hSw); go_split_ands; go_simp; try with_reducible rfl)
                          try simp only [List.getElem_toArray, List.getElem_cons_succ, List.getElem_cons_zero, Act.put, List.setIfInBounds_toArray, List.set_cons_zero, List.set_cons_succ]
                          refine wpAnyH_take (i := 10) (v := ?_) rfl (by kernel_rfl) (by kernel_rfl) (by kernel_rfl) (fun _ _ _ h => h) (Or.inl ⟨by rfl, ?_⟩) (by assumption) ?_
                          rotate_left
                          · (intro w hSw; (try dsimp only at hSw); go_split_ands; go_simp; try with_reducible rfl)
                          try simp only [List.getElem_toArray, List.getElem_cons_succ, List.getElem_cons_zero, Act.put, List.setIfInBounds_toArray, List.set_cons_zero, List.set_cons_succ]
                          refine wpAnyH_take (i := 11) (v := ?_) rfl (by kernel_rfl) (by kernel_rfl) (by kernel_rfl) (fun _ _ _ h => h) (Or.inl ⟨by rfl, ?_⟩) (by assumption) ?_
                          rotate_left
                          · (intro w hSw; (try dsimp only at hSw); go_split_ands; go_simp; try with_reducible rfl)
                          try simp only [List.getElem_toArray, List.getElem_cons_succ, List.getElem_cons_zero, Act.put, List.setIfInBounds_toArray, List.set_cons_zero, List.set_cons_succ]
                          refine wpAnyH_take (i := 12) (v := ?_) rfl (by kernel_rfl) (by kernel_rfl) (by kernel_rfl) (fun _ _ _ h => h) (Or.inl ⟨by rfl, ?_⟩) (by assumption) ?_
                          rotate_left
                          · (intro w hSw; (try dsimp only at hSw); go_split_ands; go_simp; try with_reducible rfl)
                          try simp only [List.getElem_toArray, List.getElem_cons_succ, List.getElem_cons_zero, Act.put, List.setIfInBounds_toArray, List.set_cons_zero, List.set_cons_succ]
                          refine wpAnyH_take (i := 13) (v := ?_) rfl (by kernel_rfl) (by kernel_rfl) (by kernel_rfl) (fun _ _ _ h => h) (Or.inl ⟨by rfl, ?_⟩) (by assumption) ?_
                          rotate_left
                          · (intro w hSw; (try dsimp only at hSw); go_split_ands; go_simp; try with_reducible rfl)
                          try simp only [List.getElem_toArray, List.getElem_cons_succ, List.getElem_cons_zero, Act.put, List.setIfInBounds_toArray, List.set_cons_zero, List.set_cons_succ]
                          refine wpAnyH_done (by kernel_rfl) ?_ _
                          refine lastPost_wp ?_
                          go_wp2_with fail
                          have hX : ∀ q, q = gs[k].g → ¬ S2 q ∧ ¬ T3 q ∧ w.heap.size ≤ q := fun q hq => by subst hq; exact ⟨(HGD.out _ (hgin _ hlm)).1, (HGD.out _ (hgin _ hlm)).2, hglo _ (hgin _ hlm)⟩
                          have hPn := hPj.upd (X := (· = gs[k].g)) (((Upd.refl wr (· = gs[k].g)).setCell (p := ⟨gs[k].g, j, none⟩) (.inl rfl) (.int .u8 qq.toNat)).drew) hX
                          exact ⟨⟨j + 1, by go_num, by omega, hPn, ⟨HSET.out.row, HSET.out.ok⟩⟩, by simp [intOf]; omega⟩
                        · obtain rfl : j = gs[k].bs.length := by omega
                          go_wp2_with fail
                          refine ⟨⟨k + 1, by go_num, by omega, hPj, hMj⟩, by simp [intOf]; omega⟩
                    · obtain rfl : k = gs.length := by omega
                      go_wp2_with fail
                      go_meet
                      case rel => exact ⟨_, S2, v2, M2, T3, u3, N3, rfl, rfl, hPm, HTW.out⟩
            by_cases hk1 : kd = 1
            · subst hk1
              by_cases hr : 0 ≤ ai ∧ ai < M.length
              · obtain ⟨hr0, hr1⟩ := hr
                obtain ⟨k, rfl⟩ := Int.eq_ofNat_of_zero_le hr0
                have hkM : k < M.length := by omega
                clear hr0 hr1
                obtain ⟨hkN, hbs, hsp⟩ := hT.at_ hkM
                have HBS := Lib.hid hbs; clear hbs hsp
                have HT := Lib.hid hT; clear hT
                go_wp2_with fail
                refine (take_any nb S v M k M[k] _ hP1.net (List.getElem?_eq_getElem hkM)).mono ?_
                rintro e w2 ⟨v2, rfl, hN2, hx2, hlt2⟩
                have hP2 := hP1.impl hN2 hx2
                have hq2 := (hbk.upd hx2.upd hna).cell 2
                have hSl := hP.net.slt _ (List.getElem_mem hkM)
                go_wp2_with fail
                refine (rtake_any _ T u N k N[k] _ hP2.ref (List.getElem?_eq_getElem hkN) (by rw [← HT.out.len]; exact HT.out.2.1)).mono ?_
                rintro e w3 ⟨T3, u3, rfl, hN3, hx3, hlt3⟩
                have hP3 := hP2.refn hN3 hx3
                have hlb := HT.out.2.2 _ (List.getElem_mem hkM)
                have hconv1 := lt_conv (hP2.ltOk hlt2 hSl hx3) hlb
                have hconv2 : (convert 34 9 (.slice (some ⟨N[k].g, 0, none⟩) N[k].bs.length N[k].cap)).run Try.prog w3 = .ok (.string ⟨M[k].bs.toArray⟩) w3 := by
                  have h := lt_conv hlt3 (by rw [HBS.out]; exact hlb)
                  rwa [show (⟨N[k].bs.toArray⟩ : ByteArray) = ⟨M[k].bs.toArray⟩ from by rw [HBS.out]] at h
                clear hlb
                go_wp2_with (go_at_call 14; refine (num_any _ _).mono ?_; rintro e w' ⟨rfl, rfl⟩)
                go_meet
                case rel => exact ⟨0, S, v2, _, T3, u3, _, rfl, rfl, hP3, HT.out.erase k⟩
              · obtain ⟨Av, cv, rfl, _, dv, _, _⟩ := hP1.net.shape
                obtain ⟨Aw, cw, rfl, _, dw, _, _⟩ := hP1.ref.shape
                have hr' : ai < 0 ∨ (M.length : Int) ≤ ai := by omega
                have hr2 : ai < 0 ∨ (N.length : Int) ≤ ai := by rw [← hT.len]; exact hr'
                clear hr
                have HR := Lib.hid hr'; clear hr'
                have HR2 := Lib.hid hr2; clear hr2
                have qn := fun w => run_convert_bytes_nil (P := Try.prog) w 34 5 Try.underlying34 Try.underlying5 0 0 9 Try.underlying9
                go_wp2_with (first
                  | (go_at_call 12; refine (take_no nb _ _ _ _ _ dv HR.out).mono ?_; rintro e w2 ⟨rfl, rfl⟩)
                  | (go_at_call 13; refine (rtake_no _ _ _ _ _ _ dw HR2.out).mono ?_; rintro e w2 ⟨rfl, rfl⟩)
                  | (go_at_call 14; refine (num_any _ _).mono ?_; rintro e w' ⟨rfl, rfl⟩))
                go_meet
                case rel => exact ⟨2, S, _, M, T, _, N, rfl, rfl, hP1, hT⟩
            by_cases hk2 : kd = 2
            · subst hk2
              by_cases hr : 0 ≤ ai ∧ ai < M.length
              · obtain ⟨hr0, hr1⟩ := hr
                obtain ⟨k, rfl⟩ := Int.eq_ofNat_of_zero_le hr0
                have hkM : k < M.length := by omega
                clear hr0 hr1
                obtain ⟨hkN, hbs, hsp⟩ := hT.at_ hkM
                have HBS := Lib.hid hbs; clear hbs
                have HSP := Lib.hid hsp; clear hsp
                have HT := Lib.hid hT; clear hT
                have hlb := HT.out.2.2 _ (List.getElem_mem hkM)
                by_cases hfull : M.length < 4000
                · have hfullN : N.length < 4000 := by rw [← HT.out.len]; exact hfull
                  go_wp2_with fail
                  refine (double_any nb S v M k M[k] _ hP1.net (List.getElem?_eq_getElem hkM) hfull hlb).mono ?_
                  rintro e w2 ⟨S2, v2, l2, rfl, hN2, hx2, hb2, hs2⟩
                  have hP2 := hP1.impl hN2 hx2
                  have hq2 := (hbk.upd hx2.upd hna).cell 2
                  have HB2 := Lib.hid hb2; clear hb2
                  have HS2 := Lib.hid hs2; clear hs2
                  go_wp2_with (go_at_call 14; refine (num_any _ _).mono ?_; rintro e w' ⟨rfl, rfl⟩)
                  refine (rdouble_any _ T u N k N[k] _ hP2.ref (List.getElem?_eq_getElem hkN) hfullN (by rw [HBS.out]; exact hlb)).mono ?_
                  rintro e w3 ⟨T3, u3, l3, rfl, hN3, hx3, hb3, hs3⟩
                  have hP3 := hP2.refn hN3 hx3
                  have hTw := HT.out.snoc (a := l2) (b := l3) (by rw [HB2.out, hb3, HBS.out]) (by rw [HS2.out, hs3, HSP.out]) hfull (by rw [HB2.out]; exact hlb)
                  clear hb3 hs3
                  go_wp2_with fail
                  go_meet
                  case rel => exact ⟨0, S2, v2, _, T3, u3, _, rfl, rfl, hP3, hTw⟩
                · obtain ⟨Av, cv, rfl, _, dv, _, _⟩ := hP1.net.shape
                  obtain ⟨Aw, cw, rfl, _, dw, _, _⟩ := hP1.ref.shape
                  have hfullN : ¬ N.length < 4000 := by rw [← HT.out.len]; exact hfull
                  go_wp2_with (first
                    | (go_at_call 15; refine (double_full nb _ _ _ _ _ dv (by omega) (by omega) (by omega)).mono ?_; rintro e w2 ⟨rfl, rfl⟩)
                    | (go_at_call 16; refine (rdouble_full _ _ _ _ _ _ dw (by omega) (by omega) (by omega)).mono ?_; rintro e w2 ⟨rfl, rfl⟩)
                    | (go_at_call 14; refine (num_any _ _).mono ?_; rintro e w' ⟨rfl, rfl⟩))
                  go_meet
                  case rel => exact ⟨5, S, _, M, T, _, N, rfl, rfl, hP1, HT.out⟩
              · obtain ⟨Av, cv, rfl, _, dv, _, _⟩ := hP1.net.shape
                obtain ⟨Aw, cw, rfl, _, dw, _, _⟩ := hP1.ref.shape
                have hr' : ai < 0 ∨ (M.length : Int) ≤ ai := by omega
                have hr2 : ai < 0 ∨ (N.length : Int) ≤ ai := by rw [← hT.len]; exact hr'
                clear hr
                have HR := Lib.hid hr'; clear hr'
                have HR2 := Lib.hid hr2; clear hr2
                go_wp2_with (first
                  | (go_at_call 15; refine (double_no nb _ _ _ _ _ dv HR.out).mono ?_; rintro e w2 ⟨rfl, rfl⟩)
                  | (go_at_call 16; refine (rdouble_no _ _ _ _ _ _ dw HR2.out).mono ?_; rintro e w2 ⟨rfl, rfl⟩)
                  | (go_at_call 14; refine (num_any _ _).mono ?_; rintro e w' ⟨rfl, rfl⟩))
                go_meet
                case rel => exact ⟨2, S, _, M, T, _, N, rfl, rfl, hP1, hT⟩
            by_cases hk3 : kd = 3
            · subst hk3
              by_cases hr : 0 ≤ ai ∧ ai < M.length
              · obtain ⟨hr0, hr1⟩ := hr
                obtain ⟨k, rfl⟩ := Int.eq_ofNat_of_zero_le hr0
                have hkM : k < M.length := by omega
                clear hr0 hr1
                obtain ⟨hkN, hbs, hsp⟩ := hT.at_ hkM
                have HBS := Lib.hid hbs; clear hbs
                have HSP := Lib.hid hsp; clear hsp
                have HT := Lib.hid hT; clear hT
                go_wp2_with fail
                refine (spoil_any nb S v M k M[k] aat aby _ hP1.net (List.getElem?_eq_getElem hkM)).mono ?_
                rintro e w2 (⟨s2, rfl, rfl⟩ | ⟨s2, r2, rfl, rfl⟩ | ⟨s2, a, cc, rfl, hcc, rfl, v2, hN2, hx2⟩)
                · have HS2 := Lib.hid s2; clear s2
                  go_wp2_with (go_at_call 14; refine (num_any _ _).mono ?_; rintro e w' ⟨rfl, rfl⟩)
                  refine (rspoil_any _ T u N k N[k] aat aby _ hP1.ref (List.getElem?_eq_getElem hkN)).mono ?_
                  rintro e w3 (⟨s3, rfl, rfl⟩ | ⟨s3, r3, rfl, rfl⟩ | ⟨s3, a3, c3, rfl, hc3, rfl, v3, hN3, hx3⟩)
                  · clear s3
                    go_wp2_with fail
                    go_meet
                    case rel => exact ⟨8, S, v, M, T, u, N, rfl, rfl, hP1, HT.out⟩
                  · rw [HSP.out, HS2.out] at s3; cases s3
                  · rw [HSP.out, HS2.out] at s3; cases s3
                · have HS2 := Lib.hid s2; clear s2
                  have HR2 := Lib.hid r2; clear r2
                  go_wp2_with (go_at_call 14; refine (num_any _ _).mono ?_; rintro e w' ⟨rfl, rfl⟩)
                  refine (rspoil_any _ T u N k N[k] aat aby _ hP1.ref (List.getElem?_eq_getElem hkN)).mono ?_
                  rintro e w3 (⟨s3, rfl, rfl⟩ | ⟨s3, r3, rfl, rfl⟩ | ⟨s3, a3, c3, rfl, hc3, rfl, v3, hN3, hx3⟩)
                  · rw [HSP.out, HS2.out] at s3; cases s3
                  · clear s3 r3
                    go_wp2_with fail
                    go_meet
                    case rel => exact ⟨2, S, v, M, T, u, N, rfl, rfl, hP1, HT.out⟩
                  · have h1 := HR2.out
                    have h2 := (List.getElem?_eq_some_iff.1 hc3).1
                    rw [HBS.out] at h2
                    omega
                · have HS2 := Lib.hid s2; clear s2
                  have HCC := Lib.hid hcc; clear hcc
                  have hP2 := hP1.impl hN2 hx2
                  have hbk2 := hbk.upd hx2.upd hna
                  have hq2 := hbk2.cell 2
                  have hq3 := hbk2.cell 3
                  have hq4 := hbk2.cell 4
                  go_wp2_with (go_at_call 14; refine (num_any _ _).mono ?_; rintro e w' ⟨rfl, rfl⟩)
                  refine (rspoil_any _ T u N k N[k] (a : Nat) aby _ hP2.ref (List.getElem?_eq_getElem hkN)).mono ?_
                  rintro e w3 (⟨s3, rfl, rfl⟩ | ⟨s3, r3, rfl, rfl⟩ | ⟨s3, a3, c3, ha3, hc3, rfl, v3, hN3, hx3⟩)
                  · rw [HSP.out, HS2.out] at s3; cases s3
                  · have h2 := (List.getElem?_eq_some_iff.1 HCC.out).1
                    rw [HBS.out] at r3
                    omega
                  · obtain rfl : a3 = a := by omega
                    have hc : c3 = cc := by
                      have h1 := HCC.out
                      rw [HBS.out, h1] at hc3
                      injection hc3 with e
                      exact e.symm
                    subst hc
                    have hP3 := hP2.refn hN3 hx3
                    have hTw := HT.out.set_ k (a := { M[k] with bs := M[k].bs.set a3 (c3 ^^^ aby), sp := true }) (b := { N[k] with bs := N[k].bs.set a3 (c3 ^^^ aby), sp := true }) (by dsimp only; rw [HBS.out]) rfl (by dsimp only; rw [List.length_set]; exact HT.out.2.2 _ (List.getElem_mem hkM))
                    clear s3 ha3 hc3
                    go_wp2_with fail
                    go_meet
                    case rel => exact ⟨0, S, v2, _, T, v3, _, rfl, rfl, hP3, hTw⟩
              · obtain ⟨Av, cv, rfl, _, dv, _, _⟩ := hP1.net.shape
                obtain ⟨Aw, cw, rfl, _, dw, _, _⟩ := hP1.ref.shape
                have hr' : ai < 0 ∨ (M.length : Int) ≤ ai := by omega
                have hr2 : ai < 0 ∨ (N.length : Int) ≤ ai := by rw [← hT.len]; exact hr'
                clear hr
                have HR := Lib.hid hr'; clear hr'
                have HR2 := Lib.hid hr2; clear hr2
                go_wp2_with (first
                  | (go_at_call 17; refine (spoil_no nb _ _ _ _ _ _ _ dv HR.out).mono ?_; rintro e w2 ⟨rfl, rfl⟩)
                  | (go_at_call 18; refine (rspoil_no _ _ _ _ _ _ _ _ dw HR2.out).mono ?_; rintro e w2 ⟨rfl, rfl⟩)
                  | (go_at_call 14; refine (num_any _ _).mono ?_; rintro e w' ⟨rfl, rfl⟩))
                go_meet
                case rel => exact ⟨2, S, _, M, T, _, N, rfl, rfl, hP1, hT⟩
            go_wp2_with fail
            go_meet
            case rel => exact ⟨0, S, v, M, T, u, N, rfl, rfl, hP1, hT⟩
        case rest =>
          as_aux_lemma =>
            clear hbk hP1 hP hT
            obtain ⟨x, S, v, M, T, u, N, rfl, rfl, hP, hT⟩ := hcut
            obtain ⟨Av, cv, rfl, _, dv, _, _⟩ := hP.net.shape
            obtain ⟨Aw, cw, rfl, _, dw, _, _⟩ := hP.ref.shape
            rw [← hT.len] at dw
            have hM4 := hT.2.1
            have HT := Lib.hid hT; clear hT
            have hlen : ∀ n, Calls Try.prog 19 #[.pointer (some ⟨nb, 0, none⟩)] (wc.drewN n) fun e w' => e = .returned (.int .i64 M.length) ∧ w' = wc.drewN n := fun n => (len_any nb _ _ _ (wc.drewN n) dv).mono fun _ _ h => ⟨h.1, h.2.symm⟩
            go_wp2_with fail
            go_quiet ((go_at_call 19; exact Calls.quiet_of_same (hlen _)))
            clear hlen dv dw
            have hPq := hP.drewN nq
            generalize wc.drewN nq = wd at *
            go_wp2_with fail
            go_loopw [17] (OutRel wd M.length) (fun k _ => 4001 - (intOf k).toNat)
            case atStart => exact ⟨0, rfl, Nat.zero_le _, Below.refl _ _⟩
            case round =>
              obtain ⟨j, rfl, hj, hbj⟩ := hrel
              have hPj := hPq.grows hbj
              have HBJ := Lib.hid hbj; clear hbj
              obtain ⟨Av, cv, e1, _, dv, _, _⟩ := hPj.net.shape
              obtain ⟨Aw, cw, e2, _, dw, _, _⟩ := hPj.ref.shape
              simp only [Value.slice.injEq] at e1 e2
              obtain ⟨rfl, _, rfl⟩ := e1
              obtain ⟨rfl, _, rfl⟩ := e2
              rw [← HT.out.len] at dw
              by_cases hj1 : j < M.length
              · obtain ⟨hkN, hbs, _⟩ := HT.out.at_ hj1
                have HBS := Lib.hid hbs; clear hbs
                have hlb := HT.out.2.2 _ (List.getElem_mem hj1)
                have hnn : 0 < N.length := by omega
                obtain ⟨gN, capN, curN, eN, hbN, hcN1, hcN2, hsN, htN, hgN⟩ := hPj.ref.some_ hnn
                have k0 := row_cell hbN htN (ltRow_get N j N[j] (List.getElem?_eq_getElem hkN)).1
                have hokN := hPj.ref.ok _ (List.getElem_mem hkN)
                have hTN := hPj.ref.slt _ (List.getElem_mem hkN)
                have hTg := hPj.ref.srow gN (by rw [eN]; rfl)
                simp only [Value.slice.injEq] at eN
                obtain ⟨rfl, _, eC⟩ := eN
                subst eC
                have hcv : ∀ w', Below wr.heap.size wr w' → (convert 34 9 (.slice (some ⟨N[j].g, 0, none⟩) N[j].bs.length N[j].cap)).run Try.prog w' = .ok (.string ⟨M[j].bs.toArray⟩) w' := fun w' hb => by
                  obtain ⟨a, b, rest, hbk⟩ := hokN
                  have hok' : LtOk w' N[j] := ⟨a, b, rest, hbk.upd (Upd.of_below hb (fun _ => False)) (fun h => h)⟩
                  have h := lt_conv hok' (by rw [HBS.out]; exact hlb)
                  rwa [show (⟨N[j].bs.toArray⟩ : ByteArray) = ⟨M[j].bs.toArray⟩ from by rw [HBS.out]] at h
                have hj0 : (0 : Int) ≤ (j : Int) := by omega
                have hj2 : (j : Int) < (M.length : Int) := by omega
                go_wp2_with fail
                refine wp_region_held (S := (fun w' => w'.cell? ⟨w1.heap.size, 0, none⟩ = some (.slice (some ⟨gN, 0, none⟩) M.length cw) ∧ w'.cell? ⟨gN, j * 2, none⟩ = some (.slice (some ⟨N[j].g, 0, none⟩) N[j].bs.length N[j].cap) ∧ (convert 34 9 (.slice (some ⟨N[j].g, 0, none⟩) N[j].bs.length N[j].cap)).run Try.prog w' = .ok (.string ⟨M[j].bs.toArray⟩) w')) (by kernel_rfl) ?_
                simp only [List.size_toArray, List.length_cons, List.length_nil, Nat.zero_add, Nat.reduceAdd]
                have hHeld : ((fun w' => w'.cell? ⟨w1.heap.size, 0, none⟩ = some (.slice (some ⟨gN, 0, none⟩) M.length cw) ∧ w'.cell? ⟨gN, j * 2, none⟩ = some (.slice (some ⟨N[j].g, 0, none⟩) N[j].bs.length N[j].cap) ∧ (convert 34 9 (.slice (some ⟨N[j].g, 0, none⟩) N[j].bs.length N[j].cap)).run Try.prog w' = .ok (.string ⟨M[j].bs.toArray⟩) w')) wr.drew := ⟨dw, k0, hcv _ ((Below.refl _ _).drew)⟩
                refine wpAnyH_take (i := 0) (v := ?_) rfl (by kernel_rfl) (by kernel_rfl) (by kernel_rfl) (fun _ _ _ h => h) (Or.inl ⟨by rfl, ?_⟩) (by assumption) ?_
                rotate_left
                · (intro w hSw; (try dsimp only at hSw); go_split_ands; go_simp; try with_reducible rfl)
                try simp only [List.getElem_toArray, List.getElem_cons_succ, List.getElem_cons_zero, Act.put, List.setIfInBounds_toArray, List.set_cons_zero, List.set_cons_succ]
                refine wpAnyH_take (i := 1) (v := ?_) rfl (by kernel_rfl) (by kernel_rfl) (by kernel_rfl) (fun _ _ _ h => h) (Or.inl ⟨by rfl, ?_⟩) (by assumption) ?_
                rotate_left
                · (intro w hSw; (try dsimp only at hSw); go_split_ands; go_simp; try with_reducible rfl)
                try simp only [List.getElem_toArray, List.getElem_cons_succ, List.getElem_cons_zero, Act.put, List.setIfInBounds_toArray, List.set_cons_zero, List.set_cons_succ]
                refine wpAnyH_take (i := 4) (v := ?_) rfl (by kernel_rfl) (by kernel_rfl) (by kernel_rfl) (fun _ _ _ h => h) (Or.inl ⟨by rfl, ?_⟩) (by assumption) ?_
                rotate_left
                · (intro w hSw; (try dsimp only at hSw); go_split_ands; go_simp; try with_reducible rfl)
                try simp only [List.getElem_toArray, List.getElem_cons_succ, List.getElem_cons_zero, Act.put, List.setIfInBounds_toArray, List.set_cons_zero, List.set_cons_succ]
                refine wpAnyH_take (i := 5) (v := ?_) rfl (by kernel_rfl) (by kernel_rfl) (by kernel_rfl) (fun _ _ _ h => h) (Or.inl ⟨by rfl, ?_⟩) (by assumption) ?_
                rotate_left
                · (intro w hSw; (try dsimp only at hSw); go_split_ands; go_simp; try with_reducible rfl)
                try simp only [List.getElem_toArray, List.getElem_cons_succ, List.getElem_cons_zero, Act.put, List.setIfInBounds_toArray, List.set_cons_zero, List.set_cons_succ]
                refine wpAnyH_take (i := 6) (v := ?_) rfl (by kernel_rfl) (by kernel_rfl) (by kernel_rfl) (fun _ _ _ h => h) (Or.inl ⟨by rfl, ?_⟩) (by assumption) ?_
                rotate_left
                · (intro w hSw; (try dsimp only at hSw); go_split_ands; go_simp; try with_reducible rfl)
                try simp only [List.getElem_toArray, List.getElem_cons_succ, List.getElem_cons_zero, Act.put, List.setIfInBounds_toArray, List.set_cons_zero, List.set_cons_succ]
                refine wpAnyH_take (i := 7) (v := ?_) rfl (by kernel_rfl) (by kernel_rfl) (by kernel_rfl) (fun _ _ _ h => h) (Or.inl ⟨by rfl, ?_⟩) (by assumption) ?_
                rotate_left
                · (intro w hSw; (try dsimp only at hSw); go_split_ands; go_simp; try with_reducible rfl)
                try simp only [List.getElem_toArray, List.getElem_cons_succ, List.getElem_cons_zero, Act.put, List.setIfInBounds_toArray, List.set_cons_zero, List.set_cons_succ]
                refine wpAnyH_take (i := 8) (v := ?_) rfl (by kernel_rfl) (by kernel_rfl) (by kernel_rfl) (fun _ _ _ h => h) (Or.inl ⟨by rfl, ?_⟩) (by assumption) ?_
                rotate_left
                · (intro w hSw; (try dsimp only at hSw); go_split_ands; go_simp; try with_reducible rfl)
                try simp only [List.getElem_toArray, List.getElem_cons_succ, List.getElem_cons_zero, Act.put, List.setIfInBounds_toArray, List.set_cons_zero, List.set_cons_succ]
                refine wpAnyH_take (i := 9) (v := ?_) rfl (by kernel_rfl) (by kernel_rfl) (by kernel_rfl) (fun _ _ _ h => h) (Or.inl ⟨by rfl, ?_⟩) (by assumption) ?_
                rotate_left
                · (intro w hSw; (try dsimp only at hSw); go_split_ands; go_simp; try with_reducible rfl)
                try simp only [List.getElem_toArray, List.getElem_cons_succ, List.getElem_cons_zero, Act.put, List.setIfInBounds_toArray, List.set_cons_zero, List.set_cons_succ]
                refine wpAnyH_take (i := 10) (v := ?_) rfl (by kernel_rfl) (by kernel_rfl) (by kernel_rfl) (fun _ _ _ h => h) (Or.inl ⟨by rfl, ?_⟩) (by assumption) ?_
                rotate_left
                · (intro w hSw; (try dsimp only at hSw); go_split_ands; go_simp; try with_reducible rfl)
                try simp only [List.getElem_toArray, List.getElem_cons_succ, List.getElem_cons_zero, Act.put, List.setIfInBounds_toArray, List.set_cons_zero, List.set_cons_succ]
                refine wpAnyH_take (i := 11) (v := ?_) rfl (by kernel_rfl) (by kernel_rfl) (by kernel_rfl) (fun _ _ _ h => h) (Or.inl ⟨by rfl, ?_⟩) (by assumption) ?_
                rotate_left
                · (intro w hSw; (try dsimp only at hSw); go_split_ands; go_simp; try with_reducible rfl)
                try simp only [List.getElem_toArray, List.getElem_cons_succ, List.getElem_cons_zero, Act.put, List.setIfInBounds_toArray, List.set_cons_zero, List.set_cons_succ]
                refine wpAnyH_take (i := 12) (v := ?_) rfl (by kernel_rfl) (by kernel_rfl) (by kernel_rfl) (fun _ _ _ h => h) (Or.inl ⟨by rfl, ?_⟩) (by assumption) ?_
                rotate_left
                · (intro w hSw; (try dsimp only at hSw); go_split_ands; go_simp; try with_reducible rfl)
                try simp only [List.getElem_toArray, List.getElem_cons_succ, List.getElem_cons_zero, Act.put, List.setIfInBounds_toArray, List.set_cons_zero, List.set_cons_succ]
                refine wpAnyH_ready (rs := [2]) (by kernel_rfl) (by simp) ?_
                refine AllReadyH.cons rfl (fun K hK => ?_) AllReadyH.nil
                go_simp
                refine (at_any nb S _ M j M[j] _ (hPj.net.upd ((Upd.refl wr (fun _ => False)).drew) (fun _ _ h => h)) (List.getElem?_eq_getElem hj1) hlb).mono ?_
                rintro e w5 ⟨r, H5, rfl, hb5, hF5, hy5⟩
                have hB5 : Below wr.heap.size wr w5 := ((Below.refl _ _).drew).trans hb5
                have hcr := run_conv_str (P := Try.prog) hF5 hy5 34 9 5 Try.underlying34 Try.underlying5 Try.underlying9
                dsimp only
                refine hK.out _ _ ?_ (fun hHeld => ?_)
                · exact ⟨((bcell hB5).1 _ _ hPj.ref.blk.lt).trans dw, ((bcell hB5).1 _ _ hbN.lt).trans k0, hcv _ hB5⟩
                clear hK K
                refine wpAnyH_mono (S' := fun w' => w' = w5) (fun w' hw' => by subst hw'; exact hHeld) _ _ _ _ ?_
                replace hHeld : (fun w' => w' = w5) w5 := rfl
                try simp only [List.getElem_toArray, List.getElem_cons_succ, List.getElem_cons_zero, Act.put, List.setIfInBounds_toArray, List.set_cons_zero, List.set_cons_succ]
                refine wpAnyH_take (i := 3) (v := ?_) rfl (by kernel_rfl) (by kernel_rfl) (by kernel_rfl) (fun _ _ _ h => h) (Or.inl ⟨by rfl, ?_⟩) (by assumption) ?_
                rotate_left
                · (intro w hSw; (try dsimp only at hSw); go_split_ands; go_simp; try with_reducible rfl)
                try simp only [List.getElem_toArray, List.getElem_cons_succ, List.getElem_cons_zero, Act.put, List.setIfInBounds_toArray, List.set_cons_zero, List.set_cons_succ]
                refine wpAnyH_take (i := 13) (v := ?_) rfl (by kernel_rfl) (by kernel_rfl) (by kernel_rfl) (fun _ _ _ h => h) (Or.inl ⟨by rfl, ?_⟩) (by assumption) ?_
                rotate_left
                · (intro w hSw; (try dsimp only at hSw); go_split_ands; go_simp; try with_reducible rfl)
                try simp only [List.getElem_toArray, List.getElem_cons_succ, List.getElem_cons_zero, Act.put, List.setIfInBounds_toArray, List.set_cons_zero, List.set_cons_succ]
                refine wpAnyH_done (by kernel_rfl) ?_ _
                go_simp
                go_wp2_with fail
                exact ⟨⟨j + 1, by go_num, by omega, HBJ.out.trans (hB5.mono HBJ.out.size)⟩, by simp [intOf]; omega⟩
              · obtain rfl : j = M.length := by omega
                go_wp2_with (go_at_call 20; refine (at_no nb _ _ _ _ _ dv (by first | exact .inl (by omega) | exact .inr (by omega))).mono ?_; rintro e w' ⟨rfl, rfl⟩)
                exact ⟨⟨i + 1, S, _, M, T, _, N, by go_num, by omega, hPj, HT.out⟩, by simp [intOf]; omega⟩
      · obtain rfl : i = acts.length := by omega
        have HBW := Lib.hid hP.below
        clear hlt hi hT hP
        go_wp2_with (go_at_call 8; refine (live_any _).mono ?_; rintro e w8 ⟨rfl, hb8⟩)
        go_ret
        exact ⟨rfl, HBW.out.trans (hb8.mono HBW.out.size)⟩
end Go.Proofs.Ytmanpicmbeeceaa
