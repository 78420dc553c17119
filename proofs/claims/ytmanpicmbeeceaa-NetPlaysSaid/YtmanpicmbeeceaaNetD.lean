/- Take, Double, Spoil, At. -/
import Derived.Test.YtmanpicmbeeceaaNetE
namespace Go.Proofs.Ytmanpicmbeeceaa
open Go.RowKit
open Kd (Sl)

set_option maxHeartbeats 400000 in
theorem take_nil (i : Int) (w : World) : Calls Try.prog 12 #[.pointer none, .int .i64 i] w fun e w' => e = .returned (.tuple #[.slice none 0 0, .int .i64 7]) ∧ w = w' := by
  go_enter Try.func12, Try.ntmps12
  go_wp2_with (go_at_call 23; refine (there_nil _ _).mono ?_; rintro e w' ⟨rfl, rfl⟩)
  go_ret2
  exact ⟨rfl, rfl⟩
set_option maxHeartbeats 400000 in
theorem take_no (nb : Nat) (A : Option Addr) (n c : Nat) (i : Int) (w : World) (hc : w.cell? ⟨nb, 0, none⟩ = some (.slice A n c)) (h1 : i < 0 ∨ n ≤ i) :
    Calls Try.prog 12 #[.pointer (some ⟨nb, 0, none⟩), .int .i64 i] w fun e w' => e = .returned (.tuple #[.slice none 0 0, .int .i64 2]) ∧ w = w' := by
  have H1 := Lib.hid h1; clear h1
  go_enter Try.func12, Try.ntmps12
  go_wp2_with (go_at_call 23; refine (there_no _ _ _ _ _ _ hc H1.out).mono ?_; rintro e w' ⟨rfl, rfl⟩)
  go_ret2
  exact ⟨rfl, rfl⟩
def TakeRet (w : World) (nb : Nat) (S : Nat → Prop) (M : List Lt) (i : Nat) (l : Lt) (e : Ending) (w' : World) : Prop :=
  ∃ v', e = .returned (.tuple #[.slice (some ⟨l.g, 0, none⟩) l.bs.length l.cap, .int .i64 0]) ∧ NetIs w' 56 58 nb S v' (M.eraseIdx i) ∧ Nx w S w' S ∧ LtOk w' l
set_option maxHeartbeats 400000 in
theorem take_any (nb : Nat) (S : Nat → Prop) (v : Value) (M : List Lt) (i : Nat) (l : Lt) (w : World) (hN : NetIs w 56 58 nb S v M) (hl : M[i]? = some l) :
    Calls Try.prog 12 #[.pointer (some ⟨nb, 0, none⟩), .int .i64 i] w (TakeRet w nb S M i l) := by
  have hi : i < M.length := (List.getElem?_eq_some_iff.1 hl).1
  obtain ⟨g, cap, cur, rfl, hb, hc1, hc2, hs, ht, hg⟩ := hN.some_ (by omega)
  obtain ⟨c0, f0, l0⟩ := hN.blk.c1
  have k0 := row_cell hb ht (ltRow_get M i l hl).1
  have hlm : l ∈ M := List.mem_of_getElem? hl
  have hi0 : (0 : Int) ≤ (i : Int) := by omega
  have hi1 : (i : Int) < (M.length : Int) := by omega
  have hne : nb ≠ g := hN.blk.ne_ hb (by decide)
  go_enter Try.func12, Try.ntmps12
  go_wp2_with (first
    | (go_at_call 23; refine (there_ok _ _ _ _ _ _ c0 hi0 hi1).mono ?_; rintro e w' ⟨rfl, rfl⟩)
    | (go_at_call 24; refine (delete_any g _ _ i cur _ hi hc1 hc2 hb hs (by rw [ht]; exact ltRow_one M)).mono ?_; rintro e w1 ⟨rfl, hu, cur', hb', hs', ht'⟩; obtain ⟨c1, f1, l1⟩ := (hN.blk.upd hu hne).c1))
  go_ret2
  have hT : cur'.toList.take ((M.length - 1) * 2) = ltRow (M.eraseIdx i) := by
    rw [ht', List.eraseIdx_eq_take_drop_succ, ltRow_append, ltRow_take, ltRow_drop, ← ht, List.take_take, Nat.min_eq_left (by omega)]
  obtain ⟨a, b, c⟩ := net_del (by decide) (by decide) (by decide) hN hi hu hb' hs' hc1 (by unfold maxLen; omega) hT
  exact ⟨_, rfl, a, b, c l hlm⟩

/-! ### Double -/
set_option maxHeartbeats 400000 in
theorem double_nil (i : Int) (w : World) : Calls Try.prog 15 #[.pointer none, .int .i64 i] w fun e w' => e = .returned (.int .i64 7) ∧ w = w' := by
  go_enter Try.func15, Try.ntmps15
  go_wp2_with (go_at_call 23; refine (there_nil _ _).mono ?_; rintro e w' ⟨rfl, rfl⟩)
  go_ret
  exact ⟨rfl, rfl⟩
set_option maxHeartbeats 400000 in
theorem double_no (nb : Nat) (A : Option Addr) (n c : Nat) (i : Int) (w : World) (hc : w.cell? ⟨nb, 0, none⟩ = some (.slice A n c)) (h1 : i < 0 ∨ n ≤ i) :
    Calls Try.prog 15 #[.pointer (some ⟨nb, 0, none⟩), .int .i64 i] w fun e w' => e = .returned (.int .i64 2) ∧ w = w' := by
  have H1 := Lib.hid h1; clear h1
  go_enter Try.func15, Try.ntmps15
  go_wp2_with (go_at_call 23; refine (there_no _ _ _ _ _ _ hc H1.out).mono ?_; rintro e w' ⟨rfl, rfl⟩)
  go_ret
  exact ⟨rfl, rfl⟩
set_option maxRecDepth 100000 in
set_option maxHeartbeats 400000 in
theorem double_full (nb : Nat) (A : Option Addr) (n c : Nat) (i : Int) (w : World) (hc : w.cell? ⟨nb, 0, none⟩ = some (.slice A n c)) (h0 : 0 ≤ i) (h1 : i < n) (hf : 4000 ≤ n) :
    Calls Try.prog 15 #[.pointer (some ⟨nb, 0, none⟩), .int .i64 i] w fun e w' => e = .returned (.int .i64 5) ∧ w = w' := by
  go_enter Try.func15, Try.ntmps15
  go_wp2_with (go_at_call 23; refine (there_ok _ _ _ _ _ _ hc h0 h1).mono ?_; rintro e w' ⟨rfl, rfl⟩)
  go_ret
  exact ⟨rfl, rfl⟩
def DoubleRet (w : World) (nb : Nat) (S : Nat → Prop) (M : List Lt) (l : Lt) (e : Ending) (w' : World) : Prop :=
  ∃ S' v' l', e = .returned (.int .i64 0) ∧ NetIs w' 56 58 nb S' v' (M ++ [l']) ∧ Nx w S w' S' ∧ l'.bs = l.bs ∧ l'.sp = l.sp
set_option maxRecDepth 100000 in
set_option maxHeartbeats 4000000 in
theorem double_any (nb : Nat) (S : Nat → Prop) (v : Value) (M : List Lt) (i : Nat) (l : Lt) (w : World) (hN : NetIs w 56 58 nb S v M) (hl : M[i]? = some l) (hM : M.length < 4000) (hbs : l.bs.length ≤ 140737488355328) :
    Calls Try.prog 15 #[.pointer (some ⟨nb, 0, none⟩), .int .i64 i] w (DoubleRet w nb S M l) := by
  have hi : i < M.length := (List.getElem?_eq_some_iff.1 hl).1
  obtain ⟨g, cap, cur, rfl, hb, hc1, hc2, hs, ht, hg⟩ := hN.some_ (by omega)
  obtain ⟨c0, f0, l0⟩ := hN.blk.c1
  obtain ⟨k0, k1⟩ := ltRow_get M i l hl
  replace k0 := row_cell hb ht k0
  replace k1 := row_cell hb ht k1
  have hlm : l ∈ M := List.mem_of_getElem? hl
  obtain ⟨H, hF, hy⟩ := lt_bys (hN.ok l hlm) hbs
  have hi0 : (0 : Int) ≤ (i : Int) := by omega
  have hi1 : (i : Int) < (M.length : Int) := by omega
  have hne : nb ≠ g := hN.blk.ne_ hb (by decide)
  have hrn : (Value.slice (some ⟨g, 0, none⟩) M.length cap).ownBlock ≠ some nb := own_ne hN.row hN.blk (by decide)
  obtain ⟨i0, hi0', hz0, hz1, hz2⟩ := info_parts Try.infoLetter
  go_enter Try.func15, Try.ntmps15
  go_wp2_with (go_at_call 23; refine (there_ok _ _ _ _ _ _ c0 hi0 hi1).mono ?_; rintro e w' ⟨rfl, rfl⟩)
  have hF2 := hF.alloc (.cells #[.slice (some ⟨l.g, 0, none⟩) l.bs.length l.cap, .bool l.sp] 58)
  obtain ⟨e0, e1, _, _, m0⟩ := (Blk.new w 58 #[.slice (some ⟨l.g, 0, none⟩) l.bs.length l.cap, .bool l.sp]).c2
  obtain ⟨a0, a1⟩ := keepA ⟨c0, f0⟩ (.cells #[.slice (some ⟨l.g, 0, none⟩) l.bs.length l.cap, .bool l.sp] 58)
  have HB := (Below.refl w.heap.size w).alloc (Nat.le_refl _) (.cells #[.slice (some ⟨l.g, 0, none⟩) l.bs.length l.cap, .bool l.sp] 58)
  generalize w.alloc (.cells #[.slice (some ⟨l.g, 0, none⟩) l.bs.length l.cap, .bool l.sp] 58) = W at *
  have hN2 := hN.upd (Upd.of_below HB (fun _ => False)) (fun _ _ h => h)
  have l2 := World.block_lt_of_cell? _ _ a0
  have HNX : Nx w S W S := ⟨Upd.of_below HB S, fun k h => .inl h⟩
  generalize w.heap.size = m at *
  go_region_law
    (first
      | (go_simp; go_at_call 22; refine (like_any _ _ _ _ (by simp [hF2, go_sem]) hy hbs).mono ?_; rintro e w1 ⟨g1, rfl, hg1, hbl, hbel⟩; obtain ⟨c1, f1⟩ := keep1 hbel (by simpa using l2) ⟨a0, a1⟩; have l1 := World.block_lt_of_cell? _ _ c1)
      | (refine step_push (by rfl) (.tmp 30) (.tmp 36) 54 (by rfl) i0 _ 2 32 Try.underlying54 hi0' hz0 hz1 hz2 rfl (by omega) (by omega) (.slice (some ⟨g, 0, none⟩) M.length cap) M.length (ltRow M) _ (by rfl) (by rfl) (by rfl) ?_ ?_ ?_ ?_
         · exact own_below (w := W.drew) hN2.row hbel
         · simp [Value.oneCell']
         · omega
         intro gg cap2 w2 hown2 hgrow hat
         obtain ⟨c2, f2⟩ := keepG hgrow (Ne.symm hrn) (keepA ⟨c1, f1⟩ _)))
  all_goals
    have hbB : Below W.heap.size W w1 := ⟨hbel.os, hbel.tape, hbel.output, hbel.size, hbel.block⟩
    have hbl' : Blk w1 g1 5 (byts l.bs ++ []).toArray := by rw [List.append_nil]; exact hbl
    have HP := Lib.hid (net_push (sp := l.sp) (bs := l.bs) (n := l.bs.length) (cap := l.bs.length) (by decide) (by decide) (by decide) hN2 (hbB.alloc hbB.size _) (hbl'.alloc _) hg1 rfl (Nat.le_refl _) (by unfold maxLen; omega) hgrow hown2 (by simpa using hat))
    clear hbl hbl' hat hown2 hgrow hbel
    go_wp2
    go_ret
    exact ⟨_, _, _, rfl, HP.out.1, HNX.trans HP.out.2, rfl, rfl⟩
end Go.Proofs.Ytmanpicmbeeceaa
