/- NetTurns' walk. -/
import Derived.Test.YtmanpicmbeeceaaNetL
import Derived.Deep.QuietTactic
import Derived.BigQuiet
namespace Go.Proofs.Ytmanpicmbeeceaa
open Go.RowKit
open Kd (Sl)

def SumRel (len : Nat) (n k : Value) : Prop := ∃ (i : Nat) (x : Int), k = .int .i64 (i : Nat) ∧ n = .int .i64 x ∧ i ≤ len ∧ i ≤ 61 ∧ 0 ≤ x ∧ x ≤ i * 140737488355328
def TurnRel (w : World) (H : PHeap) (nb : Nat) (WL : List (List UInt8)) (B : Option Addr) (cB : Nat) (cells : List Value) (kv : Value) (wr : World) : Prop :=
  ∃ (k : Nat) (S : Nat → Prop) (v : Value) (M : List Lt), kv = .int .i64 (k : Nat) ∧ k ≤ WL.length ∧ NetIs wr 56 58 nb S v M ∧ ab M = (WL.drop k).map (·, false) ∧
    wr.ownsRow 0 34 1 (.slice B WL.length cB) WL.length cells ∧ (∀ q, (Value.slice B WL.length cB).ownBlock = some q → ¬ S q) ∧ (∀ q, S q → w.heap.size ≤ q) ∧ Fits wr H ∧ (∀ q, S q → H q = none) ∧ Below w.heap.size w wr
theorem reps_bys {H : PHeap} {bss : List (List UInt8)} {inner : List Value} (h : Reps (Kd.slice Kd.byte) H bss inner) (k : Nat) (x : List UInt8) (hk : bss[k]? = some x) : ∃ A1 c1, inner[k]? = some (.slice A1 x.length c1) ∧ x.length ≤ 140737488355328 ∧ Bys H (.slice A1 x.length c1) x := by
  obtain ⟨u, ⟨ub, hu1, hu⟩, hcell⟩ := reps_get1 rfl h hk
  simp only [List.cons.injEq, and_true] at hu1
  subst hu1
  obtain ⟨A1, c1, rfl, h1, _⟩ := sl_len hu
  have := sl_bound hu
  exact ⟨A1, c1, hcell, by have e : x.length * Kd.byte.by_ = x.length := Nat.mul_one _; omega, hu⟩
theorem ab_tail {M : List Lt} {L : List (List UInt8)} {k : Nat} (h : ab M = (L.drop k).map (·, false)) : ab (M.eraseIdx 0) = (L.drop (k + 1)).map (·, false) := by
  have e : ab (M.eraseIdx 0) = (ab M).tail := by cases M <;> rfl
  rw [e, h, ← List.map_tail, List.tail_drop]
theorem ab_at {M : List Lt} {L : List (List UInt8 × Bool)} (h : ab M = L) {i : Nat} {p : List UInt8 × Bool} (hi : L[i]? = some p) : ∃ l, M[i]? = some l ∧ l.bs = p.1 ∧ l.sp = p.2 := by
  subst h
  simp only [ab, List.getElem?_map, Option.map_eq_some_iff] at hi
  obtain ⟨l, h1, h2⟩ := hi
  exact ⟨l, h1, by rw [← h2], by rw [← h2]⟩
theorem wpList_push {P : Program} {ops : Array Oper} {rest : List Oper} {o : Oper} {a : Act} {Q : Exit → Act → World → Prop} {w1 : World} {cs : Array Value} {e : TypeId} (hgd : o.guard = none) (s x : Operand) (t : TypeId)
    (ho : o.op = .call { callee := .builtin .append, args := #[s, x], argTypes := #[t, t] })
    (i : TypeInfo) (z : Value) (size bytes : Nat) (ht : P.underlying t = some (.slice e)) (hi : P.info? e = some i) (hz : i.zero = some z)
    (hsize : i.size = size) (hby : i.bytes = bytes) (hzs : z.cells.size = size) (hsz : 0 < size) (hb1 : 1 ≤ bytes)
    (v : Value) (n : Nat) (xs : List Value) (c : Nat) (hs : a.eval s = v) (hx : a.eval x = .slice (some ⟨w1.heap.size, 0, none⟩) 1 c) (hcs : cs.size = size)
    (hown : w1.ownsRow 0 e size v n xs) (h1 : ∀ u ∈ cs.toList, u.oneCell' = true) (hb : (n + 1) * bytes ≤ 140737488355328)
    (h : ∀ g cap w', w'.ownsRow 0 e size (.slice (some ⟨g, 0, none⟩) (n + 1) cap) (n + 1) (xs ++ cs.toList) → (w1.alloc (.cells cs e)).grownBy w' v.ownBlock → (v.ownBlock = some g ∨ g = w1.heap.size + 1) → wpList P ops Q rest (a.put o.dst (.slice (some ⟨g, 0, none⟩) (n + 1) cap)) w') :
    wpList P ops Q (o :: rest) a (w1.alloc (.cells cs e)) := by
  obtain ⟨g, cap, w', hr, h2, h3, h4⟩ := run_push (P := P) w1 cs t o.type e i z size bytes ht hi hz hsize hby hzs hsz v n xs c hcs h1 hown hb hb1
  refine wpList_plain hgd fun _ hK => ?_
  unfold Oper.wp execOp
  simp only [ho, resolve, invoke, builtin, Sem.run_bind, Sem.run_pure, Result.andThen_ok, List.map_toArray, List.map_cons, List.map_nil, hs, hx, hr]
  exact hK _ _ (h g cap w' h2 h3 h4)
def TurnsRet (w : World) (e : Ending) (w' : World) : Prop := e = .returned (.bool true) ∧ Below w.heap.size w w'
set_option maxRecDepth 100000 in
set_option maxHeartbeats 2000000 in
theorem netTurns_any {H : PHeap} (v : Value) (bss : List (List UInt8)) (i : Int) (w : World) (hF : Fits w H) (hv : Sl (Kd.slice Kd.byte) H v bss) :
    Calls Try.prog 6 #[v, .int .i64 i] w (TurnsRet w) := by
  obtain ⟨A, c, rfl, hc, hcm⟩ := sl_len hv
  have hbs : ∀ k x, bss[k]? = some x → ∃ ad A1 c1, A = some ad ∧ x.length ≤ c1 ∧ x.length ≤ 140737488355328 ∧ HCell H (ad.add k) (.slice A1 x.length c1) ∧ Bys H (.slice A1 x.length c1) x := by
    intro k x hx
    obtain ⟨ad, u, rfl, ⟨ub, hu1, hu⟩, hcell⟩ := sl_get1 rfl hv hx
    simp only [List.cons.injEq, and_true] at hu1
    subst hu1
    obtain ⟨A1, c1, rfl, h1, _⟩ := sl_len hu
    have := sl_bound hu
    exact ⟨ad, A1, c1, rfl, h1, by have e : x.length * Kd.byte.by_ = x.length := Nat.mul_one _; omega, hcell, hu⟩
  go_enter Try.func6, Try.ntmps6
  go_wp2_with fail
  go_loop [5, 6] (SumRel bss.length) (fun _ k => 61 - (intOf k).toNat)
  case atStart => exact ⟨0, 0, rfl, rfl, Nat.zero_le _, by omega, by omega, by omega⟩
  case round =>
    obtain ⟨k, x, rfl, rfl, h1, h2, h3, h4⟩ := hrel
    by_cases hlt : k < bss.length ∧ k ≤ 60
    · obtain ⟨hl1, hl2⟩ := hlt
      obtain ⟨ad, A1, c1, rfl, hx1, hx2, hcell, _⟩ := hbs k _ (List.getElem?_eq_getElem hl1)
      have hcw := hcell w hF
      generalize bss[k].length = m at *
      go_wp2_with fail
      refine ⟨⟨k + 1, x + m, by go_num, by go_num, by omega, by omega, by omega, by omega⟩, by simp [intOf]; omega⟩
    · by_cases hsmall : bss.length ≤ 60 ∧ x ≤ 20000
      · obtain ⟨hs1, hs2⟩ := hsmall
        have hk : k = bss.length := by omega
        subst hk
        clear hlt
        have hlim : bss.length ≤ 60 := by omega
        obtain ⟨A', cv', inner, hveq, _, _, hr, hi⟩ := hv
        simp only [Value.slice.injEq] at hveq
        obtain ⟨rfl, _, rfl⟩ := hveq
        obtain ⟨i0, hi0, hz0, hz1, hz2⟩ := info_parts Try.infoBytes
        go_wp2_with fail
        refine (new_any _).mono ?_
        rintro e w1 ⟨rfl, hN, hB⟩
        have hF1 := hF.below hB
        generalize hnb : w.heap.size = nb at *
        have HNB := Lib.hid hnb; clear hnb
        have HB : RowKit.Hid (Below w.heap.size w w1) := Lib.hid (by rw [HNB.out]; exact hB)
        have hnH : ∀ q, q = nb → H q = none := fun q hq => hF.none_ (by have := HNB.out; omega)
        go_wp2_with fail
        refine (send_any nb (· = nb) _ [] _ bss _ hF1 hnH hN ⟨_, _, inner, rfl, by omega, by assumption, hr, hi⟩ (by simp) (fun b hb => by obtain ⟨q, hq⟩ := List.getElem?_of_mem hb; obtain ⟨_, _, _, _, _, h, _⟩ := hbs q b hq; exact h)).mono ?_
        rintro e w2 ⟨S2, v2, M2, rfl, hN2, hab2, hx2⟩
        obtain ⟨hF2, hS2⟩ := hx2.out hF1 hnH
        have hmin : min bss.length (4000 - ([] : List Lt).length) = bss.length := by simp; omega
        rw [hmin]
        have hab2' : ab M2 = bss.map (·, false) := by rw [hab2, List.take_of_length_le (by simp; omega)]; rfl
        clear hab2 hmin hN
        by_cases hI : 0 ≤ i ∧ i < bss.length
        · obtain ⟨hI0, hI1⟩ := hI
          obtain ⟨i, rfl⟩ := Int.eq_ofNat_of_zero_le hI0
          have hI2 : i < bss.length := by omega
          obtain ⟨l, hl0, hlb, hls⟩ := ab_at hab2' (i := i) (p := (bss[i], false)) (by simp [List.getElem?_eq_getElem hI2])
          obtain ⟨adi, Ai, ci, rfl, hi1, hi2, hci, hbi⟩ := hbs i _ (List.getElem?_eq_getElem hI2)
          go_wp2_with (first
          | (at_builtin; refine wpList_append_h rfl (.tmp 50) (.tmp 51) 31 rfl 34 i0 _ 1 24 Try.underlying31 hi0 hz0 hz1 hz2 rfl (by omega) (by omega) (.slice (some ⟨w2.heap.size, 0, none⟩) 0 0) 0 [] H _ _ _ inner rfl rfl (own_empty w2 _ _) (hF2.alloc _) hr (by rw [hi.length]; rfl) hi.one (by omega) ?_; intro B cB w3 hwant hg hat))
          have hU3 : Upd w2 w3 (fun _ => False) := ((Upd.refl w2 (fun _ => False)).alloc _).grown hg (fun k hk => .inr (by simp only [Value.ownBlock, Option.some.injEq] at hk; omega))
          have hN3 := hN2.upd hU3 (fun _ _ h => h)
          rw [Nat.zero_add] at hwant hat
          rw [List.nil_append] at hwant
          have hoB : ∀ k, (Value.slice B bss.length cB).ownBlock = some k → w2.heap.size ≤ k := fun k hk => by
            rcases hat with h | h
            · rw [hk] at h; simp only [Value.ownBlock, Option.some.injEq] at h; omega
            · rw [hk] at h; simp only [World.size_alloc, Option.some.injEq] at h; omega
          have hF3 := hF2.upd hU3 (fun _ h => h.elim)
          refine (double_any nb S2 v2 M2 i l w3 hN3 hl0 (by have := congrArg List.length hab2'; simp [ab] at this; omega) (by rw [hlb]; exact hi2)).mono ?_
          rintro e w4 ⟨S4, v4, l4, rfl, hN4, hx4, hlb4, hls4⟩
          have hcw := hci w4 (hx4.out hF3 hS2).1
          go_wp2_with (first
            | (go_at_call 14; refine (num_any _ _).mono ?_; rintro e w' ⟨rfl, rfl⟩)
            | (at_builtin; refine RowKit.Hid.out ?_))
          refine Lib.hid ?_
          refine wpList_push (cs := #[.slice Ai bss[i].length ci]) (e := 34) rfl (.tmp 66) (.tmp 71) 31 rfl i0 _ 1 24 Try.underlying31 hi0 hz0 hz1 hz2 rfl (by omega) (by omega) (.slice B bss.length cB) bss.length inner _ rfl rfl rfl (own_upd hwant hx4.upd (fun k hk hS => by have := hoB k hk; have := hN2.slo k hS; omega)) (fun u hu => by rcases List.mem_singleton.1 hu with rfl; rfl) (by omega) ?_
          intro g5 cap5 w5 hown5 hg5 hat5
          have hu5 : Upd w4 w5 (fun q => (Value.slice B bss.length cB).ownBlock = some q) := ((Upd.refl w4 _).alloc _).grown hg5 (fun k hk => .inl hk)
          have hSn4 : ∀ q, S4 q → S2 q ∨ w3.heap.size ≤ q := hx4.new
          have hlo3 : w2.heap.size ≤ w3.heap.size := hU3.size
          have hN5 := hN4.upd hu5 (fun k hk hq => by
            have h1 := hoB k hq
            have h2 := own_ltb hwant k hq
            rcases hSn4 k hk with h | h
            · have := hN2.slo k h; omega
            · omega)
          have hF5 : Fits w5 H := ((hx4.out hF3 hS2).1).upd hu5 (fun k hq => hF1.none_ (by have := hoB k hq; have := hx2.upd.size; omega))
          have hB2 : Below w.heap.size w w3 := (HB.out.trans (hx2.upd.below HB.out.size (fun k hk e => by have := HNB.out; omega))).trans (hU3.below (by have := hx2.upd.size; have := HB.out.size; omega) (fun _ _ h => h))
          have hS2w : ∀ q, S2 q → w.heap.size ≤ q := fun q hq => by rcases hx2.new q hq with h | h; (subst h; exact Nat.le_of_eq HNB.out); (exact Nat.le_trans HB.out.size h)
          have hw23 : w.heap.size ≤ w2.heap.size := by have := hx2.upd.size; have := HB.out.size; omega
          have hwS : ∀ q, (Value.slice (some ⟨g5, 0, none⟩) (bss.length + 1) cap5).ownBlock = some q → ¬ S4 q := fun q hq h => by
            simp only [Value.ownBlock, Option.some.injEq] at hq
            subst hq
            rcases hat5 with h5 | h5
            · have h1 := hoB _ h5
              have h2 := own_ltb hwant _ h5
              rcases hSn4 _ h with h | h
              · have := hN2.slo _ h; omega
              · omega
            · have := hN4.slo _ h; omega
          have hSw : ∀ q, S4 q → w.heap.size ≤ q := fun q hq => by
            rcases hSn4 q hq with h | h
            · exact hS2w q h
            · omega
          have hB4 : Below w.heap.size w w5 := (hB2.trans (hx4.upd.below (by omega) (fun k hk e => by have := hS2w k e; omega))).trans (hu5.below (by have := hx4.upd.size; omega) (fun k hk e => by have := hoB k e; omega))
          have hS4 := (hx4.out hF3 hS2).2
          have hab4 : ab (M2 ++ [l4]) = (bss ++ [bss[i]]).map (·, false) := by
            have e : ab (M2 ++ [l4]) = ab M2 ++ [(l4.bs, l4.sp)] := by simp [ab]
            rw [e, hab2', hlb4, hls4, hlb, hls]; simp
          have hreps : ∀ (k : Nat) (x : List UInt8), (bss ++ [bss[i]])[k]? = some x → ∃ A1 c1, (inner ++ (#[Value.slice Ai bss[i].length ci] : Array Value).toList)[k]? = some (Value.slice A1 x.length c1) ∧ x.length ≤ 140737488355328 ∧ Bys H (Value.slice A1 x.length c1) x := fun k x hk => by
            have hil : inner.length = bss.length := by rw [hi.length]; exact Nat.mul_one _
            by_cases hkl : k < bss.length
            · rw [List.getElem?_append_left hkl] at hk
              obtain ⟨A1, c1, h1, h2, h3⟩ := reps_bys hi k x hk
              exact ⟨A1, c1, by rw [List.getElem?_append_left (by omega)]; exact h1, h2, h3⟩
            · have hk1 := (List.getElem?_eq_some_iff.1 hk).1
              rw [List.length_append] at hk1
              obtain rfl : k = bss.length := by simp at hk1; omega
              rw [List.getElem?_append_right (Nat.le_refl _), Nat.sub_self] at hk
              simp only [List.getElem?_cons_zero, Option.some.injEq] at hk
              subst hk
              exact ⟨Ai, ci, by rw [List.getElem?_append_right (by omega), hil, Nat.sub_self]; rfl, hi2, hbi⟩
          have hWl : bss.length + 1 = (bss ++ [bss[i]]).length := by simp
          have hlim2 : (bss ++ [bss[i]]).length ≤ 61 := by simp; omega
          clear hg5 hat5 hwant hoB hat hg hl0 hbi hB2 hu5 hN4 hlb4 hls4 hx4 hN3 hN2 hlb hls hx2 hab2' hbs hr hcw hU3
          rw [hWl] at hown5 hwS ⊢
          generalize inner ++ (#[Value.slice Ai bss[i].length ci] : Array Value).toList = cells at *
          generalize bss ++ [bss[i]] = WL at *
          generalize M2 ++ [l4] = M4 at *
          go_wp2_with fail
          generalize hB5 : (some ⟨g5, 0, none⟩ : Option Addr) = B at *
          have hN4 := hN5
          have hwant := hown5
          have hF4 := hF5
          generalize cap5 = cB at *
          go_loopw [9] (TurnRel w H nb WL B cB cells) (fun k _ => WL.length - (intOf k).toNat)
          case atStart => exact ⟨0, S4, v4, M4, rfl, Nat.zero_le _, hN4, hab4, hwant, hwS, hSw, hF4, hS4, hB4⟩
          case round =>
            obtain ⟨k, S, v, M, rfl, hk, hNr, hab, hown, hoS, hSr, hFr, hHr, hBr⟩ := hrel
            by_cases hlt : k < WL.length
            · obtain ⟨l, hl0, hlb, hls⟩ := ab_at hab (i := 0) (p := (WL[k], false)) (by simp [List.getElem?_eq_getElem hlt])
              obtain ⟨A1, c1, hc1, hbnd, hby⟩ := hreps k _ (List.getElem?_eq_getElem hlt)
              have HAB := Lib.hid hab; clear hab
              have HLB := Lib.hid hlb; clear hlb
              obtain ⟨gB, rfl⟩ : ∃ g, B = some ⟨g, 0, none⟩ := by
                rcases hown.2 with ⟨_, h0⟩ | ⟨g, cap, cur, h, _⟩
                · omega
                · simp only [Value.slice.injEq] at h; exact ⟨g, h.1⟩
              have HR := Lib.hid hreps; clear hreps
              have HOS := Lib.hid hoS; clear hoS
              go_wp2_with fail
              refine (take_any nb S v M 0 l wr hNr hl0).mono ?_
              rintro e w6 ⟨v6, rfl, hN6, hx6, hlt6⟩
              have hF6 := (hx6.out hFr hHr).1
              have hown6 := own_upd hown hx6.upd HOS.out
              have hcell := own_cell hown6 hc1
              have hconv1 : ∀ n, (convert 34 9 (.slice (some ⟨l.g, 0, none⟩) l.bs.length l.cap)).run Try.prog (w6.drewN n) = .ok (.string ⟨WL[k].toArray⟩) (w6.drewN n) := fun n => by
                have h := lt_conv (w := w6.drewN n) hlt6 (by rw [HLB.out]; exact hbnd)
                rwa [show (⟨l.bs.toArray⟩ : ByteArray) = ⟨WL[k].toArray⟩ from by rw [HLB.out]] at h
              have hconv2 := fun n => run_conv_str (P := Try.prog) (hF6.drewN n) hby 34 9 5 Try.underlying34 Try.underlying5 Try.underlying9
              have HX6 := Lib.hid hx6; clear hx6
              obtain ⟨A6, c6, rfl, _, d6, _, _⟩ := hN6.shape
              have hlen6 : ((M.eraseIdx 0).length : Int) = (WL.length : Int) - k - 1 := by
                have e := congrArg List.length HAB.out
                rw [ab_length, List.length_map, List.length_drop] at e
                have h0 : 0 < M.length := (List.getElem?_eq_some_iff.1 hl0).1
                rw [List.length_eraseIdx, if_pos h0]; omega
              have hlen6c : ∀ n, Calls Try.prog 19 #[.pointer (some ⟨nb, 0, none⟩)] (w6.drewN n) fun e w' => e = .returned (.int .i64 ((WL.length : Int) - k - 1)) ∧ w' = w6.drewN n := fun n => (len_any nb _ _ _ (w6.drewN n) d6).mono fun _ _ h => ⟨by rw [h.1, hlen6], h.2.symm⟩
              clear hlen6
              have hwr1 : IntKind.i64.wrap ((WL.length : Int) - k) = (WL.length : Int) - k := IntWalk.i64_in _ (by omega)
              have hwr2 : IntKind.i64.wrap ((WL.length : Int) - k - 1) = (WL.length : Int) - k - 1 := IntWalk.i64_in _ (by omega)
              have hk0 : (0 : Int) ≤ (k : Int) := by omega
              have hk1 : (k : Int) < (WL.length : Int) := by omega
              go_wp2_with fail
              go_quiet ((first
                | (go_at_call 14; exact Calls.quiet_of_same ((num_any _ _).mono fun _ _ h => ⟨h.1, h.2.symm⟩))
                | (go_at_call 19; exact Calls.quiet_of_same (hlen6c _))))
              go_wp2_with fail
              refine ⟨⟨k + 1, S, _, M.eraseIdx 0, by go_num, by omega, hN6.upd ((Upd.refl w6 (fun _ => False)).drewN _) (fun _ _ h => h), ?_, own_upd hown6 ((Upd.refl w6 (fun _ => False)).drewN _) (fun _ _ h => h), HOS.out, hSr, hF6.drewN _, hHr, ?_⟩, by simp [intOf]; omega⟩
              · exact ab_tail HAB.out
              · exact hBr.trans ((HX6.out.upd.drewN _).below hBr.size (fun q hq hS => by have := hSr q hS; omega))
            · obtain rfl : k = WL.length := by omega
              obtain rfl : M = [] := by
                have e := congrArg List.length hab
                rw [ab_length, List.length_map, List.length_drop, Nat.sub_self] at e
                exact List.eq_nil_of_length_eq_zero e
              clear hk hlt
              obtain ⟨A7, c7, rfl, _, d7, _, _⟩ := hNr.shape
              have hz : ([] : List Lt).length = 0 := rfl
              rw [hz] at d7
              go_wp2_with (first
                | (go_at_call 12; refine (take_no nb _ _ _ _ _ d7 (.inr (by omega))).mono ?_; rintro e w' ⟨rfl, rfl⟩)
                | (go_at_call 14; refine (num_any _ _).mono ?_; rintro e w' ⟨rfl, rfl⟩)
                | (go_at_call 8; refine (live_any _).mono ?_; rintro e w8 ⟨rfl, hb8⟩))
              go_ret
              exact ⟨rfl, hBr.trans (hb8.mono hBr.size)⟩
        · have hI' : i < 0 ∨ (0 ≤ i ∧ ¬ i < bss.length) := by omega
          clear hI
          rcases hI' with hI0 | ⟨hI0, hI1⟩
          · skip
            go_wp2_with (first
            | (at_builtin; refine wpList_append_h rfl (.tmp 50) (.tmp 51) 31 rfl 34 i0 _ 1 24 Try.underlying31 hi0 hz0 hz1 hz2 rfl (by omega) (by omega) (.slice (some ⟨w2.heap.size, 0, none⟩) 0 0) 0 [] H _ _ _ inner rfl rfl (own_empty w2 _ _) (hF2.alloc _) hr (by rw [hi.length]; rfl) hi.one (by omega) ?_; intro B cB w3 hwant hg hat))
            have hU3 : Upd w2 w3 (fun _ => False) := ((Upd.refl w2 (fun _ => False)).alloc _).grown hg (fun k hk => .inr (by simp only [Value.ownBlock, Option.some.injEq] at hk; omega))
            have hN3 := hN2.upd hU3 (fun _ _ h => h)
            rw [Nat.zero_add] at hwant hat
            rw [List.nil_append] at hwant
            have hoB : ∀ k, (Value.slice B bss.length cB).ownBlock = some k → w2.heap.size ≤ k := fun k hk => by
              rcases hat with h | h
              · rw [hk] at h; simp only [Value.ownBlock, Option.some.injEq] at h; omega
              · rw [hk] at h; simp only [World.size_alloc, Option.some.injEq] at h; omega
            have hF3 := hF2.upd hU3 (fun _ h => h.elim)
            have hwS : ∀ q, (Value.slice B bss.length cB).ownBlock = some q → ¬ S2 q := fun q hq h => by have := hoB q hq; have := hN2.slo q h; omega
            have hSw : ∀ q, S2 q → w.heap.size ≤ q := fun q hq => by rcases hx2.new q hq with h | h; (subst h; exact Nat.le_of_eq HNB.out); (exact Nat.le_trans HB.out.size h)
            have hB4 : Below w.heap.size w w3 := (HB.out.trans (hx2.upd.below HB.out.size (fun k hk e => by have := HNB.out; omega))).trans (hU3.below (by have := hx2.upd.size; have := HB.out.size; omega) (fun _ _ h => h))
            have hlim2 : bss.length ≤ 61 := by omega
            have hreps := reps_bys hi
            have hab4 := hab2'
            have hN4 := hN3
            have hF4 := hF3
            have HX2 := Lib.hid hx2; clear hx2
            generalize inner = cells at *
            generalize bss = WL at *
            generalize S2 = S4 at *
            generalize v2 = v4 at *
            generalize M2 = M4 at *
            have hS4 := hS2
            go_loopw [9] (TurnRel w H nb WL B cB cells) (fun k _ => WL.length - (intOf k).toNat)
            case atStart => exact ⟨0, S4, v4, M4, rfl, Nat.zero_le _, hN4, hab4, hwant, hwS, hSw, hF4, hS4, hB4⟩
            case round =>
              obtain ⟨k, S, v, M, rfl, hk, hNr, hab, hown, hoS, hSr, hFr, hHr, hBr⟩ := hrel
              by_cases hlt : k < WL.length
              · obtain ⟨l, hl0, hlb, hls⟩ := ab_at hab (i := 0) (p := (WL[k], false)) (by simp [List.getElem?_eq_getElem hlt])
                obtain ⟨A1, c1, hc1, hbnd, hby⟩ := hreps k _ (List.getElem?_eq_getElem hlt)
                have HAB := Lib.hid hab; clear hab
                have HLB := Lib.hid hlb; clear hlb
                obtain ⟨gB, rfl⟩ : ∃ g, B = some ⟨g, 0, none⟩ := by
                  rcases hown.2 with ⟨_, h0⟩ | ⟨g, cap, cur, h, _⟩
                  · omega
                  · simp only [Value.slice.injEq] at h; exact ⟨g, h.1⟩
                have HR := Lib.hid hreps; clear hreps
                have HOS := Lib.hid hoS; clear hoS
                go_wp2_with fail
                refine (take_any nb S v M 0 l wr hNr hl0).mono ?_
                rintro e w6 ⟨v6, rfl, hN6, hx6, hlt6⟩
                have hF6 := (hx6.out hFr hHr).1
                have hown6 := own_upd hown hx6.upd HOS.out
                have hcell := own_cell hown6 hc1
                have hconv1 : ∀ n, (convert 34 9 (.slice (some ⟨l.g, 0, none⟩) l.bs.length l.cap)).run Try.prog (w6.drewN n) = .ok (.string ⟨WL[k].toArray⟩) (w6.drewN n) := fun n => by
                  have h := lt_conv (w := w6.drewN n) hlt6 (by rw [HLB.out]; exact hbnd)
                  rwa [show (⟨l.bs.toArray⟩ : ByteArray) = ⟨WL[k].toArray⟩ from by rw [HLB.out]] at h
                have hconv2 := fun n => run_conv_str (P := Try.prog) (hF6.drewN n) hby 34 9 5 Try.underlying34 Try.underlying5 Try.underlying9
                have HX6 := Lib.hid hx6; clear hx6
                obtain ⟨A6, c6, rfl, _, d6, _, _⟩ := hN6.shape
                have hlen6 : ((M.eraseIdx 0).length : Int) = (WL.length : Int) - k - 1 := by
                  have e := congrArg List.length HAB.out
                  rw [ab_length, List.length_map, List.length_drop] at e
                  have h0 : 0 < M.length := (List.getElem?_eq_some_iff.1 hl0).1
                  rw [List.length_eraseIdx, if_pos h0]; omega
                have hlen6c : ∀ n, Calls Try.prog 19 #[.pointer (some ⟨nb, 0, none⟩)] (w6.drewN n) fun e w' => e = .returned (.int .i64 ((WL.length : Int) - k - 1)) ∧ w' = w6.drewN n := fun n => (len_any nb _ _ _ (w6.drewN n) d6).mono fun _ _ h => ⟨by rw [h.1, hlen6], h.2.symm⟩
                clear hlen6
                have hwr1 : IntKind.i64.wrap ((WL.length : Int) - k) = (WL.length : Int) - k := IntWalk.i64_in _ (by omega)
                have hwr2 : IntKind.i64.wrap ((WL.length : Int) - k - 1) = (WL.length : Int) - k - 1 := IntWalk.i64_in _ (by omega)
                have hk0 : (0 : Int) ≤ (k : Int) := by omega
                have hk1 : (k : Int) < (WL.length : Int) := by omega
                go_wp2_with fail
                go_quiet ((first
                  | (go_at_call 14; exact Calls.quiet_of_same ((num_any _ _).mono fun _ _ h => ⟨h.1, h.2.symm⟩))
                  | (go_at_call 19; exact Calls.quiet_of_same (hlen6c _))))
                go_wp2_with fail
                refine ⟨⟨k + 1, S, _, M.eraseIdx 0, by go_num, by omega, hN6.upd ((Upd.refl w6 (fun _ => False)).drewN _) (fun _ _ h => h), ?_, own_upd hown6 ((Upd.refl w6 (fun _ => False)).drewN _) (fun _ _ h => h), HOS.out, hSr, hF6.drewN _, hHr, ?_⟩, by simp [intOf]; omega⟩
                · exact ab_tail HAB.out
                · exact hBr.trans ((HX6.out.upd.drewN _).below hBr.size (fun q hq hS => by have := hSr q hS; omega))
              · obtain rfl : k = WL.length := by omega
                obtain rfl : M = [] := by
                  have e := congrArg List.length hab
                  rw [ab_length, List.length_map, List.length_drop, Nat.sub_self] at e
                  exact List.eq_nil_of_length_eq_zero e
                clear hk hlt
                obtain ⟨A7, c7, rfl, _, d7, _, _⟩ := hNr.shape
                have hz : ([] : List Lt).length = 0 := rfl
                rw [hz] at d7
                go_wp2_with (first
                  | (go_at_call 12; refine (take_no nb _ _ _ _ _ d7 (.inr (by omega))).mono ?_; rintro e w' ⟨rfl, rfl⟩)
                  | (go_at_call 14; refine (num_any _ _).mono ?_; rintro e w' ⟨rfl, rfl⟩)
                  | (go_at_call 8; refine (live_any _).mono ?_; rintro e w8 ⟨rfl, hb8⟩))
                go_ret
                exact ⟨rfl, hBr.trans (hb8.mono hBr.size)⟩
          · skip
            go_wp2_with (first
            | (at_builtin; refine wpList_append_h rfl (.tmp 50) (.tmp 51) 31 rfl 34 i0 _ 1 24 Try.underlying31 hi0 hz0 hz1 hz2 rfl (by omega) (by omega) (.slice (some ⟨w2.heap.size, 0, none⟩) 0 0) 0 [] H _ _ _ inner rfl rfl (own_empty w2 _ _) (hF2.alloc _) hr (by rw [hi.length]; rfl) hi.one (by omega) ?_; intro B cB w3 hwant hg hat))
            have hU3 : Upd w2 w3 (fun _ => False) := ((Upd.refl w2 (fun _ => False)).alloc _).grown hg (fun k hk => .inr (by simp only [Value.ownBlock, Option.some.injEq] at hk; omega))
            have hN3 := hN2.upd hU3 (fun _ _ h => h)
            rw [Nat.zero_add] at hwant hat
            rw [List.nil_append] at hwant
            have hoB : ∀ k, (Value.slice B bss.length cB).ownBlock = some k → w2.heap.size ≤ k := fun k hk => by
              rcases hat with h | h
              · rw [hk] at h; simp only [Value.ownBlock, Option.some.injEq] at h; omega
              · rw [hk] at h; simp only [World.size_alloc, Option.some.injEq] at h; omega
            have hF3 := hF2.upd hU3 (fun _ h => h.elim)
            have hwS : ∀ q, (Value.slice B bss.length cB).ownBlock = some q → ¬ S2 q := fun q hq h => by have := hoB q hq; have := hN2.slo q h; omega
            have hSw : ∀ q, S2 q → w.heap.size ≤ q := fun q hq => by rcases hx2.new q hq with h | h; (subst h; exact Nat.le_of_eq HNB.out); (exact Nat.le_trans HB.out.size h)
            have hB4 : Below w.heap.size w w3 := (HB.out.trans (hx2.upd.below HB.out.size (fun k hk e => by have := HNB.out; omega))).trans (hU3.below (by have := hx2.upd.size; have := HB.out.size; omega) (fun _ _ h => h))
            have hlim2 : bss.length ≤ 61 := by omega
            have hreps := reps_bys hi
            have hab4 := hab2'
            have hN4 := hN3
            have hF4 := hF3
            have HX2 := Lib.hid hx2; clear hx2
            generalize inner = cells at *
            generalize bss = WL at *
            generalize S2 = S4 at *
            generalize v2 = v4 at *
            generalize M2 = M4 at *
            have hS4 := hS2
            go_loopw [9] (TurnRel w H nb WL B cB cells) (fun k _ => WL.length - (intOf k).toNat)
            case atStart => exact ⟨0, S4, v4, M4, rfl, Nat.zero_le _, hN4, hab4, hwant, hwS, hSw, hF4, hS4, hB4⟩
            case round =>
              obtain ⟨k, S, v, M, rfl, hk, hNr, hab, hown, hoS, hSr, hFr, hHr, hBr⟩ := hrel
              by_cases hlt : k < WL.length
              · obtain ⟨l, hl0, hlb, hls⟩ := ab_at hab (i := 0) (p := (WL[k], false)) (by simp [List.getElem?_eq_getElem hlt])
                obtain ⟨A1, c1, hc1, hbnd, hby⟩ := hreps k _ (List.getElem?_eq_getElem hlt)
                have HAB := Lib.hid hab; clear hab
                have HLB := Lib.hid hlb; clear hlb
                obtain ⟨gB, rfl⟩ : ∃ g, B = some ⟨g, 0, none⟩ := by
                  rcases hown.2 with ⟨_, h0⟩ | ⟨g, cap, cur, h, _⟩
                  · omega
                  · simp only [Value.slice.injEq] at h; exact ⟨g, h.1⟩
                have HR := Lib.hid hreps; clear hreps
                have HOS := Lib.hid hoS; clear hoS
                go_wp2_with fail
                refine (take_any nb S v M 0 l wr hNr hl0).mono ?_
                rintro e w6 ⟨v6, rfl, hN6, hx6, hlt6⟩
                have hF6 := (hx6.out hFr hHr).1
                have hown6 := own_upd hown hx6.upd HOS.out
                have hcell := own_cell hown6 hc1
                have hconv1 : ∀ n, (convert 34 9 (.slice (some ⟨l.g, 0, none⟩) l.bs.length l.cap)).run Try.prog (w6.drewN n) = .ok (.string ⟨WL[k].toArray⟩) (w6.drewN n) := fun n => by
                  have h := lt_conv (w := w6.drewN n) hlt6 (by rw [HLB.out]; exact hbnd)
                  rwa [show (⟨l.bs.toArray⟩ : ByteArray) = ⟨WL[k].toArray⟩ from by rw [HLB.out]] at h
                have hconv2 := fun n => run_conv_str (P := Try.prog) (hF6.drewN n) hby 34 9 5 Try.underlying34 Try.underlying5 Try.underlying9
                have HX6 := Lib.hid hx6; clear hx6
                obtain ⟨A6, c6, rfl, _, d6, _, _⟩ := hN6.shape
                have hlen6 : ((M.eraseIdx 0).length : Int) = (WL.length : Int) - k - 1 := by
                  have e := congrArg List.length HAB.out
                  rw [ab_length, List.length_map, List.length_drop] at e
                  have h0 : 0 < M.length := (List.getElem?_eq_some_iff.1 hl0).1
                  rw [List.length_eraseIdx, if_pos h0]; omega
                have hlen6c : ∀ n, Calls Try.prog 19 #[.pointer (some ⟨nb, 0, none⟩)] (w6.drewN n) fun e w' => e = .returned (.int .i64 ((WL.length : Int) - k - 1)) ∧ w' = w6.drewN n := fun n => (len_any nb _ _ _ (w6.drewN n) d6).mono fun _ _ h => ⟨by rw [h.1, hlen6], h.2.symm⟩
                clear hlen6
                have hwr1 : IntKind.i64.wrap ((WL.length : Int) - k) = (WL.length : Int) - k := IntWalk.i64_in _ (by omega)
                have hwr2 : IntKind.i64.wrap ((WL.length : Int) - k - 1) = (WL.length : Int) - k - 1 := IntWalk.i64_in _ (by omega)
                have hk0 : (0 : Int) ≤ (k : Int) := by omega
                have hk1 : (k : Int) < (WL.length : Int) := by omega
                go_wp2_with fail
                go_quiet ((first
                  | (go_at_call 14; exact Calls.quiet_of_same ((num_any _ _).mono fun _ _ h => ⟨h.1, h.2.symm⟩))
                  | (go_at_call 19; exact Calls.quiet_of_same (hlen6c _))))
                go_wp2_with fail
                refine ⟨⟨k + 1, S, _, M.eraseIdx 0, by go_num, by omega, hN6.upd ((Upd.refl w6 (fun _ => False)).drewN _) (fun _ _ h => h), ?_, own_upd hown6 ((Upd.refl w6 (fun _ => False)).drewN _) (fun _ _ h => h), HOS.out, hSr, hF6.drewN _, hHr, ?_⟩, by simp [intOf]; omega⟩
                · exact ab_tail HAB.out
                · exact hBr.trans ((HX6.out.upd.drewN _).below hBr.size (fun q hq hS => by have := hSr q hS; omega))
              · obtain rfl : k = WL.length := by omega
                obtain rfl : M = [] := by
                  have e := congrArg List.length hab
                  rw [ab_length, List.length_map, List.length_drop, Nat.sub_self] at e
                  exact List.eq_nil_of_length_eq_zero e
                clear hk hlt
                obtain ⟨A7, c7, rfl, _, d7, _, _⟩ := hNr.shape
                have hz : ([] : List Lt).length = 0 := rfl
                rw [hz] at d7
                go_wp2_with (first
                  | (go_at_call 12; refine (take_no nb _ _ _ _ _ d7 (.inr (by omega))).mono ?_; rintro e w' ⟨rfl, rfl⟩)
                  | (go_at_call 14; refine (num_any _ _).mono ?_; rintro e w' ⟨rfl, rfl⟩)
                  | (go_at_call 8; refine (live_any _).mono ?_; rintro e w8 ⟨rfl, hb8⟩))
                go_ret
                exact ⟨rfl, hBr.trans (hb8.mono hBr.size)⟩
      · have hcase : (60 : Int) < bss.length ∨ (¬ (60 : Int) < bss.length ∧ 20000 < x) := by omega
        clear hsmall
        by_cases hk : k < bss.length
        · have hk2 : ¬ (k : Int) ≤ 60 := by omega
          clear hlt
          rcases hcase with h | ⟨_, h⟩
          · go_wp2_with (go_at_call 8; refine (live_any _).mono ?_; rintro e w' ⟨rfl, hb⟩)
            go_ret
            exact ⟨rfl, hb⟩
          · omega
        · have hk2 : ¬ (k : Int) < bss.length := by omega
          clear hlt
          rcases hcase with h | ⟨h0, h⟩
          · go_wp2_with (go_at_call 8; refine (live_any _).mono ?_; rintro e w' ⟨rfl, hb⟩)
            go_ret
            exact ⟨rfl, hb⟩
          · go_wp2_with (go_at_call 8; refine (live_any _).mono ?_; rintro e w' ⟨rfl, hb⟩)
            go_ret
            exact ⟨rfl, hb⟩
end Go.Proofs.Ytmanpicmbeeceaa
