/- NetNil's walk. -/
import Derived.Test.YtmanpicmbeeceaaNetL
namespace Go.Proofs.Ytmanpicmbeeceaa
open Go.RowKit
open Kd (Sl)

def NilRel (nb : Nat) (bs : List UInt8) (w0 : World) (k : Value) (wr : World) : Prop :=
  ∃ (n : Nat) (S : Nat → Prop) (v : Value) (M : List Lt), k = .int .i64 (n : Nat) ∧ 1 ≤ n ∧ n ≤ 4000 ∧ NetIs wr 56 58 nb S v M ∧ M.length = n ∧ (∀ l ∈ M, l.bs = bs) ∧ Nx w0 (· = nb) wr S
theorem one_lit (w : World) (S : Nat → Prop) (hS : ∀ k, S k → k < w.heap.size) (b : Value) (bs : List UInt8) (H : PHeap) (hF : Fits w H) (hn : ∀ k, S k → H k = none) (hb : Bys H b bs) (t : TypeId) :
    Sl (Kd.slice Kd.byte) (HX (w.alloc (.cells #[b] t)) S) (.slice (some ⟨w.heap.size, 0, none⟩) 1 1) [bs] := by
  refine sl_hx (heap_alloc_new w (.cells #[b] t)) (fun h => by have := hS _ h; omega) rfl (Nat.le_refl _) ⟨by unfold maxLen; omega, by show 1 * 24 ≤ _; omega⟩ ?_
  exact .cons (c := [_]) ⟨_, rfl, hb.mono (hx_le (hF.alloc _) hn)⟩ .nil
set_option maxHeartbeats 400000 in
theorem send_nil (A : Option Addr) (n c : Nat) (w : World) : Calls Try.prog 10 #[.pointer none, .slice A n c] w fun e w' => e = .returned (.int .i64 0) ∧ w = w' := by
  go_enter Try.func10, Try.ntmps10
  go_wp2
  go_ret
  exact ⟨rfl, rfl⟩
set_option maxRecDepth 100000 in
set_option maxHeartbeats 1000000 in
theorem netNil_any {H : PHeap} (i : Int) (v : Value) (bs : List UInt8) (w : World) (hF : Fits w H) (hv : Bys H v bs) :
    Calls Try.prog 5 #[.int .i64 i, v] w fun e w' => e = .returned (.bool true) ∧ Below w.heap.size w w' := by
  have hlim := sl_bound hv
  obtain ⟨A, c, rfl, hc, hcm⟩ := sl_len hv
  by_cases hl : bs.length ≤ 100
  · have hl2 : ¬ ((100 : Int) < bs.length) := by omega
    go_enter Try.func5, Try.ntmps5
    go_wp2_with (first
      | (go_at_call 12; refine (take_nil _ _).mono ?_; rintro e w' ⟨rfl, rfl⟩)
      | (go_at_call 14; refine (num_any _ _).mono ?_; rintro e w' ⟨rfl, rfl⟩)
      | (go_at_call 15; refine (double_nil _ _).mono ?_; rintro e w' ⟨rfl, rfl⟩)
      | (go_at_call 17; refine (spoil_nil _ _ 1 _).mono ?_; rintro e w' ⟨rfl, rfl⟩)
      | (go_at_call 19; refine (len_nil _).mono ?_; rintro e w' ⟨rfl, rfl⟩)
      | (go_at_call 20; refine (at_nil _ _).mono ?_; rintro e w' ⟨rfl, rfl⟩)
      | (go_at_call 10; refine (send_nil _ _ _ _).mono ?_; rintro e w' ⟨rfl, rfl⟩))
    refine (new_any _).mono ?_
    rintro e w1 ⟨rfl, hN, hB⟩
    have hF1 : Fits w1 H := (hF.alloc _).below hB
    simp only [World.size_alloc] at hN hB ⊢
    have hB0 : Below w.heap.size w w1 := ((Below.refl _ _).alloc (Nat.le_refl _) _).trans (hB.mono (by omega))
    have hl1 := hN.blk.lt
    have hnH : H (w.heap.size + 1) = none := hF.none_ (by omega)
    have HNB : Hid (w.heap.size ≤ w.heap.size + 1) := Nat.le_succ _
    generalize hnb : w.heap.size + 1 = nb at *
    clear hnb hB
    go_wp2_with fail
    have hs1 := one_lit w1 (· = nb) (fun k hk => by omega) _ bs H hF1 (fun k hk => by subst hk; exact hnH) hv 34
    have hu1 := (Upd.refl w1 (fun _ => False)).alloc (.cells #[.slice A bs.length c] 34)
    refine (send_any nb (· = nb) _ [] _ [bs] _ (hx_fits _ _) (hx_out _ _) (hN.upd hu1 (fun _ _ h => h)) hs1 (by simp) (by simp; omega)).mono ?_
    rintro e w2 ⟨S2, v2, M2, rfl, hN2, hab, hx2⟩
    have hx2' : Nx w1 (· = nb) w2 S2 := Nx.trans ⟨hu1.mono (fun _ _ h => h.elim), fun k hk => .inl hk⟩ hx2
    have hm2 : M2.length = 1 ∧ ∀ l ∈ M2, l.bs = bs := by
      have e := congrArg List.length hab
      simp only [ab_length, List.length_append, List.length_map, List.length_take, List.length_cons, List.length_nil] at e
      refine ⟨by omega, fun l hl => ?_⟩
      have : (l.bs, l.sp) ∈ ab M2 := List.mem_map.2 ⟨l, hl, rfl⟩
      rw [hab] at this
      simp [ab] at this
      exact this.1
    clear hx2 hN hs1 hab hu1
    have HM2 := Lib.hid hm2; clear hm2
    go_wp2_with fail
    go_loopw [9] (NilRel nb bs w1) (fun k _ => 4000 - (intOf k).toNat)
    case atStart => exact ⟨1, S2, v2, M2, rfl, by omega, by omega, hN2, HM2.out.1, HM2.out.2, hx2'⟩
    case round =>
      obtain ⟨n, S, v, M, rfl, h1, h4, hNr, hml, hmb, hxr⟩ := hrel
      obtain ⟨l, hl0⟩ : ∃ l, M[0]? = some l := ⟨M[0], List.getElem?_eq_getElem (by omega)⟩
      have hlb := hmb l (List.mem_of_getElem? hl0)
      have HML := Lib.hid hml
      by_cases hlt : n < 4000
      · clear hml
        go_wp2_with fail
        refine (double_any nb S v M 0 l wr hNr hl0 (by have := HML.out; omega) (by rw [hlb]; omega)).mono ?_
        rintro e w3 ⟨S3, v3, l3, rfl, hN3, hx3, hb3, _⟩
        have HB3 := Lib.hid (hb3.trans hlb); clear hb3
        have HLB := Lib.hid hlb; clear hlb
        go_wp2_with fail
        refine (num_any _ _).mono ?_
        rintro e w' ⟨rfl, rfl⟩
        go_wp2_with fail
        refine ⟨⟨n + 1, S3, v3, M ++ [l3], by go_num, by omega, by omega, hN3, by rw [List.length_append, HML.out]; rfl, fun x hx => ?_, hxr.trans hx3⟩, by simp [intOf]; omega⟩
        rcases List.mem_append.1 hx with hx | hx
        · exact hmb x hx
        · rw [List.mem_singleton.1 hx]; exact HB3.out
      · obtain rfl : n = 4000 := by omega
        clear hlt h1 h4
        obtain ⟨Av, cv, rfl, _, dv, _, _⟩ := hNr.shape
        rw [hml] at dv
        clear hml
        have hFr : Fits wr H := hF1.upd hxr.upd (fun k hk => by subst hk; exact hnH)
        have hlr := hNr.blk.lt
        have hS : ∀ k, S k → H k = none := fun k hk => by
          rcases hxr.new k hk with h | h
          · subst h; exact hnH
          · exact hF1.none_ h
        go_wp2_with fail
        have hs2 := one_lit wr S hNr.slo _ bs H hFr hS hv 34
        have hu2 := (Upd.refl wr (fun _ => False)).alloc (.cells #[.slice A bs.length c] 34)
        refine (send_any nb S _ M _ [bs] _ (hx_fits _ _) (hx_out _ _) (hNr.upd hu2 (fun _ _ h => h)) hs2 (by rw [HML.out]; exact Nat.le_refl _) (by simp; omega)).mono ?_
        rintro e w4 ⟨S4, v4, M4, rfl, hN4, hab4, hx4⟩
        have hx4' : Nx w1 (· = nb) w4 S4 := hxr.trans (Nx.trans ⟨hu2.mono (fun _ _ h => h.elim), fun k hk => .inl hk⟩ hx4)
        have hm4 : M4.length = 4000 := by
          have e := congrArg List.length hab4
          simp only [ab_length, List.length_append, List.length_map, List.length_take, List.length_cons, List.length_nil, HML.out] at e
          omega
        have hz : min [bs].length (4000 - M.length) = 0 := by rw [HML.out]; rfl
        rw [hz]
        obtain ⟨A4, c4, rfl, _, d4, _, _⟩ := hN4.shape
        rw [hm4] at d4
        have HB4 := Lib.hid (hB0.trans (hx4'.upd.below (B := w.heap.size) (Nat.le_trans hB0.size (Nat.le_refl _)) (fun k hk e => by have := HNB.out; omega)))
        clear hz hab4 hx4 hx4' hs2 hu2 hm4 hxr hmb dv hFr
        go_wp2_with (first
          | (go_at_call 15; refine (double_full nb _ _ _ _ _ d4 (by omega) (by omega) (by omega)).mono ?_; rintro e w' ⟨rfl, rfl⟩)
          | (go_at_call 14; refine (num_any _ _).mono ?_; rintro e w' ⟨rfl, rfl⟩)
          | (go_at_call 19; refine (len_any nb _ _ _ _ d4).mono ?_; rintro e w' ⟨rfl, rfl⟩)
          | (go_at_call 8; refine (live_any _).mono ?_; rintro e w5 ⟨rfl, hb5⟩))
        go_ret
        exact ⟨rfl, HB4.out.trans (hb5.mono HB4.out.size)⟩
  · have hl2 : ((100 : Int) < bs.length) := by omega
    go_enter Try.func5, Try.ntmps5
    go_wp2_with (go_at_call 8; refine (live_any _).mono ?_; rintro e w' ⟨rfl, hb⟩)
    go_ret
    exact ⟨rfl, hb⟩
end Go.Proofs.Ytmanpicmbeeceaa
