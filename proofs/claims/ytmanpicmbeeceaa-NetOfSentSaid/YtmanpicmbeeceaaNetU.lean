/- NetOfSent's walk. -/
import Derived.Test.YtmanpicmbeeceaaNetS
import Derived.Test.YtmanpicmbeeceaaNetT
namespace Go.Proofs.Ytmanpicmbeeceaa
open Go.RowKit
open Kd (Sl)
theorem diffs_cons (a b : UInt8) (x y : List UInt8) : diffs (a :: x) (b :: y) = (if a = b then 0 else 1) + diffs x y := by
  unfold diffs
  rw [List.zip_cons_cons, List.filter_cons]
  by_cases h : a = b <;> simp [h, Nat.add_comm]
theorem diffs_self (x : List UInt8) : diffs x x = 0 := by
  induction x with
  | nil => rfl
  | cons a x ih => rw [diffs_cons, if_pos rfl, ih]
theorem diffs_set (x : List UInt8) (c : UInt8) : ∀ k, diffs (x.set k c) x ≤ 1 := by
  induction x with
  | nil => intro k; simp [diffs]
  | cons a x ih =>
    intro k
    cases k with
    | zero => rw [List.set_cons_zero, diffs_cons, diffs_self]; split <;> omega
    | succ k => rw [List.set_cons_succ, diffs_cons, if_pos rfl]; have := ih k; omega
def LtNear (l : Lt) (x : List UInt8) : Prop := l.bs.length = x.length ∧ (l.sp = false → l.bs = x) ∧ diffs l.bs x ≤ 1 ∧ x.length ≤ 140737488355328
def Nears (M : List Lt) (sent : List (List UInt8)) : Prop := ∀ l ∈ M, ∃ x ∈ sent, LtNear l x
theorem Nears.app {M : List Lt} {A : List (List UInt8)} (h : Nears M A) (B : List (List UInt8)) : Nears M (A ++ B) := fun l hl => by
  obtain ⟨x, hx, hn⟩ := h l hl
  exact ⟨x, List.mem_append_left _ hx, hn⟩
theorem ltNear_ab {l l' : Lt} {x : List UInt8} (h : LtNear l x) (hb : l'.bs = l.bs) (hs : l'.sp = l.sp) : LtNear l' x := by
  unfold LtNear; rw [hb, hs]; exact h
theorem Nears.of_ab {M M' : List Lt} {A L : List (List UInt8)} (h : Nears M A) (e : ab M' = ab M ++ L.map (·, false)) (hL : ∀ b ∈ L, b.length ≤ 140737488355328) : Nears M' (A ++ L) := fun l hl => by
  have hm : (l.bs, l.sp) ∈ ab M' := List.mem_map.2 ⟨l, hl, rfl⟩
  rw [e] at hm
  rcases List.mem_append.1 hm with hm | hm
  · obtain ⟨l0, h0, e0⟩ := List.mem_map.1 hm
    obtain ⟨x, hx, hn⟩ := h l0 h0
    simp only [Prod.mk.injEq] at e0
    exact ⟨x, List.mem_append_left _ hx, ltNear_ab hn e0.1.symm e0.2.symm⟩
  · obtain ⟨b, hb, e0⟩ := List.mem_map.1 hm
    simp only [Prod.mk.injEq] at e0
    exact ⟨b, List.mem_append_right _ hb, by rw [← e0.1], fun _ => e0.1.symm, by rw [← e0.1, diffs_self]; omega, hL b hb⟩
structure SentAt (w : World) (H : PHeap) (nb : Nat) (sv : Value) (sent : List (List UInt8)) (cells : List Value) (S : Nat → Prop) (v : Value) (M : List Lt) (wr : World) : Prop where
  net : NetIs wr 56 58 nb S v M
  len : M.length ≤ 4000
  own : wr.ownsRow 0 34 1 sv sent.length cells
  reps : Reps (Kd.slice Kd.byte) H sent cells
  dis : ∀ q, sv.ownBlock = some q → w.heap.size ≤ q ∧ ¬ S q
  slo : ∀ q, S q → w.heap.size ≤ q
  fits : Fits wr H
  dom : ∀ q, w.heap.size ≤ q → H q = none
  below : Below w.heap.size w wr
theorem SentAt.none_ {w wr : World} {H : PHeap} {nb : Nat} {sv : Value} {sent : List (List UInt8)} {cells : List Value} {S : Nat → Prop} {v : Value} {M : List Lt} (h : SentAt w H nb sv sent cells S v M wr) : ∀ q, S q → H q = none := fun q hq => h.dom q (h.slo q hq)
theorem SentAt.alloc {w wr : World} {H : PHeap} {nb : Nat} {sv : Value} {sent : List (List UInt8)} {cells : List Value} {S : Nat → Prop} {v : Value} {M : List Lt} (h : SentAt w H nb sv sent cells S v M wr) (o : Obj) : SentAt w H nb sv sent cells S v M (wr.alloc o) :=
  ⟨h.net.upd ((Upd.refl wr (fun _ => False)).alloc o) (fun _ _ h => h), h.len, h.own.alloc o, h.reps, h.dis, h.slo, h.fits.alloc o, h.dom, h.below.alloc h.below.size o⟩
theorem SentAt.step {w wr w' : World} {H : PHeap} {nb : Nat} {sv : Value} {sent : List (List UInt8)} {cells : List Value} {S S' : Nat → Prop} {v v' : Value} {M M' : List Lt} (h : SentAt w H nb sv sent cells S v M wr)
    (hN : NetIs w' 56 58 nb S' v' M') (hx : Nx wr S w' S') (hl : M'.length ≤ 4000) : SentAt w H nb sv sent cells S' v' M' w' where
  net := hN
  len := hl
  own := own_upd h.own hx.upd (fun q hq => (h.dis q hq).2)
  reps := h.reps
  dis := fun q hq => ⟨(h.dis q hq).1, fun hs => by
    rcases hx.new q hs with h1 | h1
    · exact (h.dis q hq).2 h1
    · have := own_ltb h.own q hq; omega⟩
  slo := fun q hq => by
    rcases hx.new q hq with h1 | h1
    · exact h.slo q h1
    · have := h.below.size; omega
  fits := (hx.out h.fits h.none_).1
  dom := h.dom
  below := h.below.trans (hx.upd.below h.below.size (fun q hq hS => by have := h.slo q hS; omega))
theorem SentAt.app {w wr w' : World} {H : PHeap} {nb : Nat} {sv : Value} {sent L : List (List UInt8)} {cells news : List Value} {S : Nat → Prop} {v : Value} {M : List Lt} (h : SentAt w H nb sv sent cells S v M wr) {A : Option Addr} {c : Nat}
    (ho : w'.ownsRow 0 34 1 (.slice A (sent.length + L.length) c) (sent.length + L.length) (cells ++ news)) (hg : wr.grownBy w' sv.ownBlock) (hr : Reps (Kd.slice Kd.byte) H L news)
    (hat : (Value.slice A (sent.length + L.length) c).ownBlock = sv.ownBlock ∨ (Value.slice A (sent.length + L.length) c).ownBlock = some wr.heap.size) : SentAt w H nb (.slice A (sent.length + L.length) c) (sent ++ L) (cells ++ news) S v M w' := by
  have hu : Upd wr w' (fun q => sv.ownBlock = some q) := (Upd.refl wr _).grown hg (fun k hk => .inl hk)
  exact {
    net := h.net.upd hu (fun q hq hs => (h.dis q hs).2 hq)
    len := h.len
    own := by rw [List.length_append]; exact ho
    reps := h.reps.append hr
    dis := fun q hq => by
      rcases hat with h1 | h1
      · rw [h1] at hq; exact h.dis q hq
      · rw [h1] at hq
        simp only [Option.some.injEq] at hq
        subst hq
        exact ⟨h.below.size, fun hs => by have := h.net.slo _ hs; omega⟩
    slo := h.slo
    fits := h.fits.upd hu (fun q hq => h.dom q (h.dis q hq).1)
    dom := h.dom
    below := h.below.trans (hu.below h.below.size (fun q hq hs => by have := (h.dis q hs).1; omega)) }
theorem sizes_take (acts : List Act) (k : Nat) : sizes (acts.take k) ≤ sizes acts := by
  have h : sizes acts = sizes (acts.take k) + sizes (acts.drop k) := by
    unfold sizes
    rw [← List.sum_append, ← List.map_append, List.take_append_drop]
  omega
def OutRel (w0 : World) (n : Nat) (kv : Value) (wq : World) : Prop := ∃ j : Nat, kv = .int .i64 (j : Nat) ∧ j ≤ n ∧ Below w0.heap.size w0 wq
def FoundRel (w0 : World) (bs : List UInt8) (sent : List (List UInt8)) (fv kv : Value) (wq : World) : Prop := ∃ k m : Nat, fv = .bool ((sent.take k).any (nearB bs)) ∧ kv = .int .i64 (k : Nat) ∧ k ≤ sent.length ∧ wq = w0.drewN m
def SentRel (w : World) (H : PHeap) (nb : Nat) (acts : List Act) (sv iv : Value) (wr : World) : Prop :=
  ∃ (i : Nat) (S : Nat → Prop) (v : Value) (M : List Lt) (sent : List (List UInt8)) (cells : List Value), iv = .int .i64 (i : Nat) ∧ i ≤ acts.length ∧ SentAt w H nb sv sent cells S v M wr ∧ Nears M sent ∧ sent.length ≤ sizes (acts.take i)
set_option maxRecDepth 100000 in
set_option maxHeartbeats 2000000 in
theorem netOfSent_any {H : PHeap} (v : Value) (acts : List Act) (w : World) (hF : Fits w H) (hv : Sl kAct H v acts) :
    Calls Try.prog 4 #[v] w (TurnsRet w) := by
  obtain ⟨A, c, rfl, hc, hcm⟩ := sl_len hv
  go_enter Try.func4, Try.ntmps4
  go_wp2_with fail
  refine (small_any _ acts w hF hv).mono ?_
  rintro e w' ⟨b, rfl, rfl, hsm⟩
  cases b with
  | false =>
    go_wp2_with (go_at_call 8; refine (live_any _).mono ?_; rintro e w' ⟨rfl, hb⟩)
    go_ret
    exact ⟨rfl, hb⟩
  | true =>
    obtain ⟨hsm1, hsm2⟩ := hsm rfl
    clear hsm
    go_wp2_with fail
    refine (new_any _).mono ?_
    rintro e w1 ⟨rfl, hN, hB⟩
    have hF1 := hF.below hB
    generalize hnb : w.heap.size = nb at *
    have HNB := Lib.hid hnb; clear hnb
    have HB : RowKit.Hid (Below w.heap.size w w1) := Lib.hid (by rw [HNB.out]; exact hB)
    go_wp2_with fail
    go_loopw [4, 5] (SentRel w H nb acts) (fun _ k _ => acts.length - (intOf k).toNat)
    case atStart =>
      have hA : SentAt w H nb (.slice none 0 0) [] [] (· = nb) (.slice none 0 0) [] w1 := {
        net := hN
        len := by simp
        own := ⟨by simp, .inl ⟨rfl, rfl⟩⟩
        reps := .nil
        dis := fun q hq => by cases hq
        slo := fun q hq => by have hq' : q = nb := hq; subst hq'; exact Nat.le_of_eq HNB.out
        fits := hF1
        dom := fun q hq => hF.none_ hq
        below := HB.out }
      exact ⟨0, _, _, [], [], [], rfl, Nat.zero_le _, hA, (show Nears [] [] from fun l hl => by simp at hl), Nat.zero_le _⟩
    case round =>
      obtain ⟨i, S, v, M, sent, cells, rfl, hi, hA, hnear, hsz⟩ := hrel
      have HSZ := Lib.hid hsz; clear hsz
      by_cases hlt : i < acts.length
      · obtain ⟨ad, vL, rfl, hc0, hc1, hL, hc2, hc3, hc4, _, _, _⟩ := act_at hv (List.getElem?_eq_getElem hlt)
        obtain ⟨B, d, rfl, hd1, hd2⟩ := sl_len hL
        have q0 := hc0 wr hA.fits
        have q1 := hc1 wr hA.fits
        have q2 := hc2 wr hA.fits
        have q3 := hc3 wr hA.fits
        have q4 := hc4 wr hA.fits
        have hst : sizes (acts.take (i + 1)) = sizes (acts.take i) + acts[i].2.1.length := by
          unfold sizes
          rw [List.take_succ_eq_append_getElem hlt, List.map_append, List.sum_append]; simp
        have HST := Lib.hid hst; clear hst
        rcases hact : acts[i] with ⟨kd, L, ai, aat, aby⟩
        rw [hact] at q0 q1 q2 q3 q4 hL HST
        clear hact
        have hA1 := hA.alloc (.cells #[.int .i64 kd, .slice B L.length d, .int .i64 ai, .int .i64 aat, .int .u8 aby.toNat] 33)
        have hlen1 : ¬ (i + 1 ≤ 0) := by omega
        by_cases hk0 : kd = 0
        · subst hk0
          have hLb : ∀ b ∈ L, b.length ≤ 140737488355328 := fun b hb => by
            obtain ⟨q, hq⟩ := List.getElem?_of_mem hb
            obtain ⟨A', cv', inner, hveq, _, _, hr, hi'⟩ := hL
            obtain ⟨_, _, _, h, _⟩ := reps_bys hi' q b hq
            exact h
          obtain ⟨A', cv', inner, hveq, _, _, hr, hri⟩ := id hL
          simp only [Value.slice.injEq] at hveq
          obtain ⟨rfl, _, rfl⟩ := hveq
          obtain ⟨i0, hi0, hz0, hz1, hz2⟩ := info_parts Try.infoBytes
          have hbk := Blk.new wr 33 #[.int .i64 0, .slice B L.length d, .int .i64 ai, .int .i64 aat, .int .u8 aby.toNat]
          have hLs : sent.length + L.length ≤ 20000 := by
            have h1 := HSZ.out
            have h2 := HST.out
            have h3 := sizes_take acts (i + 1)
            dsimp only at h2
            omega
          have HNE := Lib.hid hnear; clear hnear
          go_wp2_with fail
          refine (send_any nb S v M _ L _ hA1.fits hA1.none_ hA1.net hL hA1.len hLb).mono ?_
          rintro e w2 ⟨S2, v2, M2, rfl, hN2, hab2, hx2⟩
          have hM2 : M2.length ≤ 4000 := by
            have e := congrArg List.length hab2
            rw [ab_length, List.length_append, ab_length, List.length_map, List.length_take] at e
            have := hA.len
            omega
          have hA2 := hA1.step hN2 hx2 hM2
          have hn2 : Nears M2 (sent ++ L) := fun l hl => by
            obtain ⟨x, hx, hn⟩ := HNE.out.of_ab hab2 (fun b hb => hLb b (List.mem_of_mem_take hb)) l hl
            refine ⟨x, ?_, hn⟩
            rcases List.mem_append.1 hx with h | h
            · exact List.mem_append_left _ h
            · exact List.mem_append_right _ (List.mem_of_mem_take h)
          have HN2 := Lib.hid hn2; clear hn2
          clear hab2
          have hq1 := (hbk.upd hx2.upd (fun hs => by have := hA.net.slo _ hs; omega)).cell 1
          have HM2 := Lib.hid hM2; clear hM2
          go_wp2_with (first
          | (at_builtin; refine RowKit.Hid.out ?_))
          refine Lib.hid ?_
          refine wpList_append_h rfl (.tmp 36) (.tmp 38) 31 rfl 34 i0 _ 1 24 Try.underlying31 hi0 hz0 hz1 hz2 rfl (by omega) (by omega) u4 sent.length cells H _ _ _ inner rfl rfl hA2.own hA2.fits hr (by rw [hri.length]; rfl) hri.one (by omega) ?_
          intro B3 c3 w3 hown3 hg3 hat3
          go_wp2_with fail
          have hA3 := hA2.app hown3 hg3 hri hat3
          exact ⟨⟨i + 1, S2, v2, M2, sent ++ L, cells ++ inner, by go_num, by omega, hA3, HN2.out, by have := HSZ.out; have := HST.out; rw [List.length_append]; omega⟩, by simp [intOf]; omega⟩
        by_cases hk1 : kd = 1
        · subst hk1
          by_cases hr : 0 ≤ ai ∧ ai < M.length
          · obtain ⟨hr0, hr1⟩ := hr
            obtain ⟨k, rfl⟩ := Int.eq_ofNat_of_zero_le hr0
            have hkM : k < M.length := by omega
            clear hr0 hr1
            go_wp2_with fail
            refine (take_any nb S v M k M[k] _ hA1.net (List.getElem?_eq_getElem hkM)).mono ?_
            rintro e w2 ⟨v2, rfl, hN2, hx2, _⟩
            have hl2 : (M.eraseIdx k).length ≤ 4000 := by have := hA.len; rw [List.length_eraseIdx]; split <;> omega
            have hA2 := hA1.step hN2 hx2 hl2
            clear hl2
            go_wp2_with fail
            exact ⟨⟨i + 1, S, v2, M.eraseIdx k, sent, cells, by go_num, by omega, hA2, fun l hl => hnear l (List.mem_of_mem_eraseIdx hl), by have := HSZ.out; have := HST.out; omega⟩, by simp [intOf]; omega⟩
          · obtain ⟨Av, cv, rfl, _, dv, _, _⟩ := hA1.net.shape
            have hr' : ai < 0 ∨ (M.length : Int) ≤ ai := by omega
            clear hr
            have HR := Lib.hid hr'; clear hr'
            go_wp2_with fail
            refine (take_no nb _ _ _ _ _ dv HR.out).mono ?_
            rintro e w2 ⟨rfl, rfl⟩
            go_wp2_with fail
            exact ⟨⟨i + 1, S, _, M, sent, cells, by go_num, by omega, hA1, hnear, by have := HSZ.out; have := HST.out; omega⟩, by simp [intOf]; omega⟩
        by_cases hk2 : kd = 2
        · subst hk2
          by_cases hr : 0 ≤ ai ∧ ai < M.length
          · obtain ⟨hr0, hr1⟩ := hr
            obtain ⟨k, rfl⟩ := Int.eq_ofNat_of_zero_le hr0
            have hkM : k < M.length := by omega
            clear hr0 hr1
            have hlm : M[k] ∈ M := List.getElem_mem hkM
            obtain ⟨x, hx, hnx⟩ := hnear _ hlm
            by_cases hfull : M.length < 4000
            · go_wp2_with fail
              refine (double_any nb S v M k M[k] _ hA1.net (List.getElem?_eq_getElem hkM) hfull (by rw [hnx.1]; exact hnx.2.2.2)).mono ?_
              rintro e w2 ⟨S2, v2, l2, rfl, hN2, hx2, hb2, hs2⟩
              have hl2 : (M ++ [l2]).length ≤ 4000 := by rw [List.length_append]; simp; omega
              have hA2 := hA1.step hN2 hx2 hl2
              have hn2 : Nears (M ++ [l2]) sent := fun l hl => by
                rcases List.mem_append.1 hl with h | h
                · exact hnear l h
                · rw [List.mem_singleton.1 h]; exact ⟨x, hx, ltNear_ab hnx hb2 hs2⟩
              clear hl2 hb2 hs2 hnx
              go_wp2_with fail
              exact ⟨⟨i + 1, S2, v2, M ++ [l2], sent, cells, by go_num, by omega, hA2, hn2, by have := HSZ.out; have := HST.out; omega⟩, by simp [intOf]; omega⟩
            · obtain ⟨Av, cv, rfl, _, dv, _, _⟩ := hA1.net.shape
              clear hnx
              go_wp2_with fail
              refine (double_full nb _ _ _ _ _ dv (by omega) (by omega) (by omega)).mono ?_
              rintro e w2 ⟨rfl, rfl⟩
              go_wp2_with fail
              exact ⟨⟨i + 1, S, _, M, sent, cells, by go_num, by omega, hA1, hnear, by have := HSZ.out; have := HST.out; omega⟩, by simp [intOf]; omega⟩
          · obtain ⟨Av, cv, rfl, _, dv, _, _⟩ := hA1.net.shape
            have hr' : ai < 0 ∨ (M.length : Int) ≤ ai := by omega
            clear hr
            have HR := Lib.hid hr'; clear hr'
            go_wp2_with fail
            refine (double_no nb _ _ _ _ _ dv HR.out).mono ?_
            rintro e w2 ⟨rfl, rfl⟩
            go_wp2_with fail
            exact ⟨⟨i + 1, S, _, M, sent, cells, by go_num, by omega, hA1, hnear, by have := HSZ.out; have := HST.out; omega⟩, by simp [intOf]; omega⟩
        by_cases hk3 : kd = 3
        · subst hk3
          by_cases hr : 0 ≤ ai ∧ ai < M.length
          · obtain ⟨hr0, hr1⟩ := hr
            obtain ⟨k, rfl⟩ := Int.eq_ofNat_of_zero_le hr0
            have hkM : k < M.length := by omega
            clear hr0 hr1
            have hlm : M[k] ∈ M := List.getElem_mem hkM
            obtain ⟨x, hx, hnx⟩ := hnear _ hlm
            have HNX := Lib.hid hnx; clear hnx
            go_wp2_with fail
            refine (spoil_any nb S v M k M[k] aat aby _ hA1.net (List.getElem?_eq_getElem hkM)).mono ?_
            rintro e w2 (⟨_, rfl, rfl⟩ | ⟨_, _, rfl, rfl⟩ | ⟨hsp, a, cc, rfl, hcc, rfl, v2, hN2, hx2⟩)
            · go_wp2_with fail
              exact ⟨⟨i + 1, S, _, M, sent, cells, by go_num, by omega, hA1, hnear, by have := HSZ.out; have := HST.out; omega⟩, by simp [intOf]; omega⟩
            · go_wp2_with fail
              exact ⟨⟨i + 1, S, _, M, sent, cells, by go_num, by omega, hA1, hnear, by have := HSZ.out; have := HST.out; omega⟩, by simp [intOf]; omega⟩
            · have hl2 : (M.set k { M[k] with bs := M[k].bs.set a (cc ^^^ aby), sp := true }).length ≤ 4000 := by rw [List.length_set]; exact hA.len
              have hA2 := hA1.step hN2 hx2 hl2
              have hn2 : Nears (M.set k { M[k] with bs := M[k].bs.set a (cc ^^^ aby), sp := true }) sent := fun l hl => by
                rcases List.mem_or_eq_of_mem_set hl with h | h
                · exact hnear l h
                · subst h
                  obtain ⟨h1, h2, _, h4⟩ := HNX.out
                  refine ⟨x, hx, by simp [h1], fun h => by simp at h, ?_, h4⟩
                  rw [h2 hsp]; exact diffs_set x _ a
              clear hl2 hsp hcc
              go_wp2_with fail
              exact ⟨⟨i + 1, S, v2, _, sent, cells, by go_num, by omega, hA2, hn2, by have := HSZ.out; have := HST.out; omega⟩, by simp [intOf]; omega⟩
          · obtain ⟨Av, cv, rfl, _, dv, _, _⟩ := hA1.net.shape
            have hr' : ai < 0 ∨ (M.length : Int) ≤ ai := by omega
            clear hr
            have HR := Lib.hid hr'; clear hr'
            go_wp2_with fail
            refine (spoil_no nb _ _ _ _ _ _ _ dv HR.out).mono ?_
            rintro e w2 ⟨rfl, rfl⟩
            go_wp2_with fail
            exact ⟨⟨i + 1, S, _, M, sent, cells, by go_num, by omega, hA1, hnear, by have := HSZ.out; have := HST.out; omega⟩, by simp [intOf]; omega⟩
        go_wp2_with fail
        exact ⟨⟨i + 1, S, v, M, sent, cells, by go_num, by omega, hA1, hnear, by have := HSZ.out; have := HST.out; omega⟩, by simp [intOf]; omega⟩
      · obtain rfl : i = acts.length := by omega
        clear hlt hi
        go_wp2_with fail
        generalize wr = w4 at *
        obtain ⟨A5, c5, rfl, _, _⟩ := own_shape hA.own
        have hsl : sent.length ≤ 20000 := by have h1 := HSZ.out; have h2 := sizes_take acts acts.length; omega
        go_loopw [7] (OutRel w4 M.length) (fun k _ => 4001 - (intOf k).toNat)
        case atStart => exact ⟨0, rfl, Nat.zero_le _, Below.refl _ _⟩
        case round =>
          obtain ⟨j, rfl, hj, hbj⟩ := hrel
          have hu4 : Upd w4 wr (fun _ => False) := Upd.of_below hbj _
          have hN4 := hA.net.upd hu4 (fun _ _ h => h)
          have hF4 := hA.fits.upd hu4 (fun _ h => h.elim)
          have ho4 := own_below hA.own hbj
          obtain ⟨Av, cv, rfl, _, dv, _, _⟩ := hN4.shape
          by_cases hjc : j < M.length ∧ j ≤ 3600
          · obtain ⟨hj1, hj2⟩ := hjc
            obtain ⟨x, hx, hnx⟩ := hnear _ (List.getElem_mem hj1)
            have HNX := Lib.hid hnx; clear hnx
            go_wp2_with (go_at_call 19; refine (len_any nb _ _ _ _ dv).mono ?_; rintro e w' ⟨rfl, rfl⟩)
            refine (at_any nb S _ M j M[j] _ hN4 (List.getElem?_eq_getElem hj1) (by rw [HNX.out.1]; exact HNX.out.2.2.2)).mono ?_
            rintro e w5 ⟨r, H5, rfl, hb5, hF5, hy5⟩
            have ho5 := own_below ho4 hb5
            have hF5' := hF4.below hb5
            have HBJ := Lib.hid hbj; clear hbj
            have HB5 := Lib.hid hb5; clear hb5
            go_wp2_with fail
            go_loopw [9, 10] (FoundRel w5 M[j].bs sent) (fun _ k _ => sent.length - (intOf k).toNat)
            case atStart => exact ⟨0, 0, by simp, rfl, Nat.zero_le _, rfl⟩
            case round =>
              obtain ⟨k, m, rfl, rfl, hk, hwm⟩ := hrel
              by_cases hk1 : k < sent.length
              · have how : wr.ownsRow 0 34 1 (.slice A5 sent.length c5) sent.length cells := by rw [hwm]; exact own_upd ho5 ((Upd.refl w5 (fun _ => False)).drewN m) (fun _ _ h => h)
                have hFw5 : Fits wr H5 := by rw [hwm]; exact hF5.drewN m
                have hFw : Fits wr H := by rw [hwm]; exact hF5'.drewN m
                have HWM := Lib.hid hwm; clear hwm
                obtain ⟨A1, c1, hck, _, hby⟩ := reps_bys hA.reps k _ (List.getElem?_eq_getElem hk1)
                obtain ⟨gB, rfl⟩ : ∃ g, A5 = some ⟨g, 0, none⟩ := by
                  rcases how.2 with ⟨_, h0⟩ | ⟨g, cap, cur, h, _⟩
                  · omega
                  · simp only [Value.slice.injEq] at h; exact ⟨g, h.1⟩
                have hcell := own_cell how hck
                have hsn : (sent.take (k + 1)).any (nearB M[j].bs) = ((sent.take k).any (nearB M[j].bs) || nearB M[j].bs sent[k]) := by
                  rw [List.take_succ_eq_append_getElem hk1, List.any_append]; simp
                have HSN := Lib.hid hsn; clear hsn
                rcases hb0 : (sent.take k).any (nearB M[j].bs) with _ | _
                · rw [hb0] at HSN
                  go_wp2_with fail
                  refine (near_any _ _ _ _ _ hFw5 hy5 hFw hby).mono ?_
                  rintro e w6 ⟨rfl, m6, hw6⟩
                  have HW6 := Lib.hid hw6; clear hw6
                  go_wp2_with fail
                  refine ⟨⟨k + 1, m + m6, ?_, by go_num, by omega, ?_⟩, ?_⟩
                  · rw [HSN.out]; simp
                  · rw [HW6.out, HWM.out]; exact drewN_two _ _ _
                  · simp [intOf]; omega
                · rw [hb0] at HSN
                  go_wp2_with fail
                  refine ⟨⟨k + 1, m, ?_, by go_num, by omega, HWM.out⟩, ?_⟩
                  · rw [HSN.out]; simp
                  · simp [intOf]; omega
              · obtain rfl : k = sent.length := by omega
                have hany : (sent.take sent.length).any (nearB M[j].bs) = true := by
                  rw [List.take_length, List.any_eq_true]
                  obtain ⟨h1, _, h3, _⟩ := HNX.out
                  exact ⟨x, hx, by unfold nearB; simp [h1, h3]⟩
                rw [hany]
                have HWM := Lib.hid hwm; clear hwm
                go_wp2_with fail
                refine ⟨⟨j + 1, by go_num, by omega, ?_⟩, by simp [intOf]; omega⟩
                rw [HWM.out]
                exact HBJ.out.trans (((Upd.of_below HB5.out (fun _ => False)).drewN m).below HBJ.out.size (fun _ _ h => h))
          · have hcase : ¬ (j : Int) < M.length ∨ ((j : Int) < M.length ∧ ¬ (j : Int) ≤ 3600) := by omega
            clear hjc
            have HB := Lib.hid (hA.below.trans (hbj.mono hA.below.size)); clear hbj
            rcases hcase with h | ⟨h, h'⟩
            · go_wp2_with (first
                | (go_at_call 19; refine (len_any nb _ _ _ _ dv).mono ?_; rintro e w' ⟨rfl, rfl⟩)
                | (go_at_call 8; refine (live_any _).mono ?_; rintro e w8 ⟨rfl, hb8⟩))
              go_ret
              exact ⟨rfl, HB.out.trans (hb8.mono HB.out.size)⟩
            · go_wp2_with (first
                | (go_at_call 19; refine (len_any nb _ _ _ _ dv).mono ?_; rintro e w' ⟨rfl, rfl⟩)
                | (go_at_call 8; refine (live_any _).mono ?_; rintro e w8 ⟨rfl, hb8⟩))
              go_ret
              exact ⟨rfl, HB.out.trans (hb8.mono HB.out.size)⟩
end Go.Proofs.Ytmanpicmbeeceaa
