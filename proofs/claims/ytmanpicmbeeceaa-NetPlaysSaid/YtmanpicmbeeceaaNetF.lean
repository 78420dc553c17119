/- Spoil. -/
import Derived.Test.YtmanpicmbeeceaaNetC
import Derived.Laws.BitsAllLaws
import Derived.Laws.BitsLemmas
namespace Go.Proofs.Ytmanpicmbeeceaa
open Go.RowKit
open Kd (Sl)

theorem u8_xor (a b : UInt8) : bits .xor .u8 (a.toNat : Int) (b.toNat : Int) = ((a ^^^ b).toNat : Int) := by
  have ha := a.toNat_lt
  have hb := b.toNat_lt
  show IntKind.u8.wrap ((BitVec.ofInt 8 (a.toNat : Int) ^^^ BitVec.ofInt 8 (b.toNat : Int)).toNat : Int) = _
  rw [BitVec.toNat_xor, BitVec.ofInt_natCast, BitVec.ofInt_natCast, BitVec.toNat_ofNat, BitVec.toNat_ofNat, UInt8.toNat_xor, Nat.mod_eq_of_lt ha, Nat.mod_eq_of_lt hb]
  have hx : a.toNat ^^^ b.toNat < 2 ^ 8 := Nat.xor_lt_two_pow ha hb
  simp only [IntKind.wrap_u8]
  omega
set_option maxHeartbeats 400000 in
theorem spoil_nil (i a : Int) (b : UInt8) (w : World) : Calls Try.prog 17 #[.pointer none, .int .i64 i, .int .i64 a, .int .u8 b.toNat] w fun e w' => e = .returned (.int .i64 7) ∧ w = w' := by
  go_enter Try.func17, Try.ntmps17
  go_wp2_with (go_at_call 23; refine (there_nil _ _).mono ?_; rintro e w' ⟨rfl, rfl⟩)
  go_ret
  exact ⟨rfl, rfl⟩
set_option maxHeartbeats 400000 in
theorem spoil_no (nb : Nat) (A : Option Addr) (n c : Nat) (i a : Int) (b : UInt8) (w : World) (hc : w.cell? ⟨nb, 0, none⟩ = some (.slice A n c)) (h1 : i < 0 ∨ n ≤ i) :
    Calls Try.prog 17 #[.pointer (some ⟨nb, 0, none⟩), .int .i64 i, .int .i64 a, .int .u8 b.toNat] w fun e w' => e = .returned (.int .i64 2) ∧ w = w' := by
  have H1 := Lib.hid h1; clear h1
  go_enter Try.func17, Try.ntmps17
  go_wp2_with (go_at_call 23; refine (there_no _ _ _ _ _ _ hc H1.out).mono ?_; rintro e w' ⟨rfl, rfl⟩)
  go_ret
  exact ⟨rfl, rfl⟩
/-- a letter is written in place. -/
theorem net_set {w : World} {tn te nb g cap i a : Nat} {S : Nat → Prop} {M : List Lt} {l : Lt} {cur : Array Value} {c : UInt8} (h3 : te ≠ 5) (h2 : tn ≠ 5) (h1 : tn ≠ te)
    (hN : NetIs w tn te nb S (.slice (some ⟨g, 0, none⟩) M.length cap) M) (hb : Blk w g te cur) (hs : cur.size = cap * 2) (ht : cur.toList.take (M.length * 2) = ltRow M) (hcap : M.length ≤ cap) (hcm : cap ≤ maxLen)
    (hl : M[i]? = some l) (ha : a < l.bs.length) :
    NetIs ((w.setCell ⟨l.g, a, none⟩ (.int .u8 c.toNat)).setCell ⟨g, i * 2 + 1, none⟩ (.bool true)) tn te nb S (.slice (some ⟨g, 0, none⟩) M.length cap) (M.set i { l with bs := l.bs.set a c, sp := true }) ∧
    Nx w S ((w.setCell ⟨l.g, a, none⟩ (.int .u8 c.toNat)).setCell ⟨g, i * 2 + 1, none⟩ (.bool true)) S := by
  have hi : i < M.length := (List.getElem?_eq_some_iff.1 hl).1
  have hlm : l ∈ M := List.mem_of_getElem? hl
  obtain ⟨b1, b2, rest, hbl⟩ := hN.ok l hlm
  have hlg : l.g ≠ g := hbl.ne_ hb (Ne.symm h3)
  have hnl : nb ≠ l.g := hN.blk.ne_ hbl h2
  have hng : nb ≠ g := hN.blk.ne_ hb h1
  have hU : Upd w ((w.setCell ⟨l.g, a, none⟩ (.int .u8 c.toNat)).setCell ⟨g, i * 2 + 1, none⟩ (.bool true)) S := ((Upd.refl w S).setCell (p := ⟨l.g, a, none⟩) (.inl (hN.slt l hlm)) _).setCell (p := ⟨g, i * 2 + 1, none⟩) (.inl (hN.srow g rfl)) _
  have hfar : ∀ k, k ≠ l.g → k ≠ g → ((w.setCell ⟨l.g, a, none⟩ (.int .u8 c.toNat)).setCell ⟨g, i * 2 + 1, none⟩ (.bool true)).heap[k]? = w.heap[k]? := fun k hk1 hk2 =>
    (Below.heap_setCell _ _ _ _ hk2).trans (Below.heap_setCell _ _ _ _ hk1)
  have hgs : ∀ j l', M[j]? = some l' → j ≠ i → l'.g ≠ l.g := by
    intro j l' hj hne e
    have hn := List.pairwise_iff_getElem.1 hN.nodup
    obtain ⟨hjl, hje⟩ := List.getElem?_eq_some_iff.1 hj
    obtain ⟨_, hie⟩ := List.getElem?_eq_some_iff.1 hl
    rcases Nat.lt_or_gt_of_ne hne with h | h
    · exact hn j i (by simpa using hjl) (by simpa using hi) h (by simp [hje, hie, e])
    · exact hn i j (by simpa using hi) (by simpa using hjl) h (by simp [hje, hie, e])
  have hrow : ltRow (M.set i { l with bs := l.bs.set a c, sp := true }) = (ltRow M).set (i * 2 + 1) (.bool true) := by
    have e1 : M = M.take i ++ l :: M.drop (i + 1) := by
      conv => lhs; rw [← List.take_append_drop i M]
      congr 1
      rw [List.drop_eq_getElem?_toList_append, hl]; rfl
    have hti : (M.take i).length = i := by rw [List.length_take]; omega
    have e2 : M.set i { l with bs := l.bs.set a c, sp := true } = M.take i ++ { l with bs := l.bs.set a c, sp := true } :: M.drop (i + 1) := by
      conv => lhs; rw [e1]
      rw [List.set_append_right _ _ (by omega), hti, Nat.sub_self]
      rfl
    have e3 : (ltRow (M.take i)).length = i * 2 := by rw [ltRow_length, hti]
    rw [e2, ltRow_append]
    conv => rhs; rw [e1, ltRow_append]
    rw [List.set_append_right _ _ (by omega), e3, show i * 2 + 1 - i * 2 = 1 from by omega]
    simp [ltRow, Lt.cells]
  refine ⟨⟨?_, ⟨?_, .inr ⟨g, cap, cur.setIfInBounds (i * 2 + 1) (.bool true), ?_⟩⟩, ?_, ?_, hN.snb, hN.srow, ?_, ?_⟩, ⟨hU, fun k hk => .inl hk⟩⟩
  · exact (hfar nb hnl hng).trans hN.blk
  · rw [ltRow_length]
  · rw [List.length_set]
    refine ⟨rfl, Nat.zero_le _, (hb.far (Ne.symm hlg) _).set_ _ _, hcap, hcm, by simpa using hs, ?_⟩
    rw [hrow, ← ht, Array.toList_setIfInBounds, List.take_set]
  · intro l' hl'
    obtain ⟨j, hj⟩ := List.getElem?_of_mem hl'
    rw [List.getElem?_set] at hj
    split at hj
    · rename_i hij
      subst hij
      simp only [Option.some.injEq] at hj
      subst hj
      refine ⟨by simpa using b1, b2, rest, ?_⟩
      have := (hbl.set_ a (.int .u8 c.toNat)).far (p := ⟨g, i * 2 + 1, none⟩) hlg (.bool true)
      have e : (byts l.bs ++ rest).toArray.setIfInBounds a (.int .u8 c.toNat) = (byts (l.bs.set a c) ++ rest).toArray := by
        rw [List.setIfInBounds_toArray, List.set_append_left _ _ (by rw [byts_length]; exact ha)]
        simp [byts, byt, List.map_set]
      rw [e] at this
      exact this
    · rename_i hij
      obtain ⟨d1, d2, r, hbk⟩ := hN.ok l' (List.mem_of_getElem? hj)
      exact ⟨d1, d2, r, (hfar _ (hgs j l' hj (Ne.symm hij)) (hbk.ne_ hb (Ne.symm h3))).trans hbk⟩
  · have : (M.set i { l with bs := l.bs.set a c, sp := true }).map (·.g) = M.map (·.g) := by
      apply List.ext_getElem?
      intro j
      simp only [List.getElem?_map, List.getElem?_set]
      by_cases hij : i = j
      · subst hij; have := (List.getElem?_eq_some_iff.1 hl).2; simp [hi, this]
      · simp [hij]
    rw [this]; exact hN.nodup
  · intro l' hl'
    rcases List.mem_or_eq_of_mem_set hl' with h | h
    · exact hN.slt l' h
    · subst h; exact hN.slt l hlm
  · exact fun k hk => Nat.lt_of_lt_of_le (hN.slo k hk) hU.size
def SpoilRet (w : World) (nb : Nat) (S : Nat → Prop) (M : List Lt) (i : Nat) (l : Lt) (a : Int) (b : UInt8) (e : Ending) (w' : World) : Prop :=
  (l.sp = true ∧ e = .returned (.int .i64 8) ∧ w = w') ∨ (l.sp = false ∧ (a < 0 ∨ l.bs.length ≤ a) ∧ e = .returned (.int .i64 2) ∧ w = w') ∨
  (l.sp = false ∧ ∃ k c, a = (k : Nat) ∧ l.bs[k]? = some c ∧ e = .returned (.int .i64 0) ∧ ∃ v', NetIs w' 56 58 nb S v' (M.set i { l with bs := l.bs.set k (c ^^^ b), sp := true }) ∧ Nx w S w' S)
set_option maxHeartbeats 400000 in
theorem spoil_any (nb : Nat) (S : Nat → Prop) (v : Value) (M : List Lt) (i : Nat) (l : Lt) (a : Int) (b : UInt8) (w : World) (hN : NetIs w 56 58 nb S v M) (hl : M[i]? = some l) :
    Calls Try.prog 17 #[.pointer (some ⟨nb, 0, none⟩), .int .i64 i, .int .i64 a, .int .u8 b.toNat] w (SpoilRet w nb S M i l a b) := by
  have hi : i < M.length := (List.getElem?_eq_some_iff.1 hl).1
  obtain ⟨g, cap, cur, rfl, hb, hc1, hc2, hs, ht, hg⟩ := hN.some_ (by omega)
  obtain ⟨c0, f0, l0⟩ := hN.blk.c1
  obtain ⟨k0, k1⟩ := ltRow_get M i l hl
  replace k0 := row_cell hb ht k0
  replace k1 := row_cell hb ht k1
  have f1 := hb.frozen (i * 2 + 1)
  have hlm : l ∈ M := List.mem_of_getElem? hl
  have hi0 : (0 : Int) ≤ (i : Int) := by omega
  have hi1 : (i : Int) < (M.length : Int) := by omega
  rcases hsp : l.sp with _ | _
  · rw [hsp] at k1
    have HSP := Lib.hid hsp; clear hsp
    by_cases ha : 0 ≤ a ∧ a < l.bs.length
    · obtain ⟨a0, a1⟩ := ha
      obtain ⟨k, rfl⟩ := Int.eq_ofNat_of_zero_le a0
      have ka : k < l.bs.length := by omega
      obtain ⟨b1, b2, rest, hbl⟩ := hN.ok l hlm
      have hlg : l.g ≠ g := hbl.ne_ hb (by decide)
      have q0 : w.cell? ⟨l.g, k, none⟩ = some (.int .u8 l.bs[k].toNat) := by
        rw [hbl.cell]
        have : k < (byts l.bs).length := by rw [byts_length]; exact ka
        simp [List.getElem?_append_left this, byts_get (List.getElem?_eq_getElem ka)]
      have q1 := hbl.frozen k
      have hx := u8_xor l.bs[k] b
      have HP := Lib.hid (net_set (c := l.bs[k] ^^^ b) (by decide) (by decide) (by decide) hN hb hs ht hc1 (by unfold maxLen; omega) hl ka)
      generalize hq : l.bs[k] ^^^ b = q at *
      have HQ := Lib.hid hq; clear hq
      clear hbl hs ht b1 b2 hb hc1 hlm
      generalize hpp : l.bs[k].toNat = pp at *
      go_enter Try.func17, Try.ntmps17
      go_wp2_with (first
        | (go_at_call 23; refine (there_ok _ _ _ _ _ _ c0 hi0 hi1).mono ?_; rintro e w' ⟨rfl, rfl⟩))
      go_ret
      exact .inr (.inr ⟨HSP.out, k, l.bs[k], rfl, List.getElem?_eq_getElem ka, rfl, _, by rw [HQ.out]; exact HP.out.1, HP.out.2⟩)
    · rcases Int.lt_or_le a 0 with h0 | h0
      · clear ha
        go_enter Try.func17, Try.ntmps17
        go_wp2_with (first
          | (go_at_call 23; refine (there_ok _ _ _ _ _ _ c0 hi0 hi1).mono ?_; rintro e w' ⟨rfl, rfl⟩))
        go_ret
        exact .inr (.inl ⟨HSP.out, .inl h0, rfl, rfl⟩)
      · have h2 : (l.bs.length : Int) ≤ a := by omega
        clear ha
        go_enter Try.func17, Try.ntmps17
        go_wp2_with (first
          | (go_at_call 23; refine (there_ok _ _ _ _ _ _ c0 hi0 hi1).mono ?_; rintro e w' ⟨rfl, rfl⟩))
        go_ret
        exact .inr (.inl ⟨HSP.out, .inr h2, rfl, rfl⟩)
  · rw [hsp] at k1
    have HSP := Lib.hid hsp; clear hsp
    go_enter Try.func17, Try.ntmps17
    go_wp2_with (first
      | (go_at_call 23; refine (there_ok _ _ _ _ _ _ c0 hi0 hi1).mono ?_; rintro e w' ⟨rfl, rfl⟩))
    go_ret
    exact .inl ⟨HSP.out, rfl, rfl⟩
end Go.Proofs.Ytmanpicmbeeceaa
