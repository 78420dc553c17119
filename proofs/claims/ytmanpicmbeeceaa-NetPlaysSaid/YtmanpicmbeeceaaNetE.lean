/- Clone of bytes; At; Spoil. -/
import Derived.Test.YtmanpicmbeeceaaNetC
namespace Go.Proofs.Ytmanpicmbeeceaa
open Go.RowKit
open Kd (Sl)

def CloneRet (w : World) (H : PHeap) (bs : List UInt8) (e : Ending) (w' : World) : Prop := ∃ r H', e = .returned r ∧ Grow w H w' H' ∧ Bys H' r bs
set_option maxHeartbeats 400000 in
theorem clone_any {H : PHeap} (v : Value) (bs : List UInt8) (w : World) (hF : Fits w H) (hv : Bys H v bs) (hm : bs.length ≤ 140737488355328) :
    Calls Try.prog 25 #[v] w (CloneRet w H bs) := by
  obtain ⟨A, c, inner, rfl, _, _, hr, hi⟩ := hv
  obtain rfl := byts_of_reps hi
  obtain ⟨i0, hi0, hz0, hz1, hz2⟩ := info_parts Try.info5
  rcases A with _ | ad
  · have h0 : bs = [] := by
      by_cases h : 0 < bs.length
      · obtain ⟨ad, e, _⟩ := hr (by simpa [byts_length] using h); cases e
      · exact List.eq_nil_of_length_eq_zero (by omega)
    subst h0
    have hq := @Lib.run_eql_slice_nil Try.prog
    go_enter Try.func25, Try.ntmps25
    go_wp2
    go_ret
    exact ⟨_, H, rfl, Grow.refl hF, none, 0, [], rfl, Nat.le_refl _, ⟨by unfold maxLen; omega, by simp⟩, HReads.nil_, .nil⟩
  · have hq := @Lib.run_eql_slice_nil Try.prog
    go_enter Try.func25, Try.ntmps25
    go_wp2_with (at_builtin; refine wpList_append_h rfl (.tmp 5) (.tmp 6) 34 rfl 5 i0 _ 1 1 Try.underlying34 hi0 hz0 hz1 hz2 rfl (by omega) (by omega) (.slice (some ⟨w.heap.size, 0, none⟩) 0 0) 0 [] H _ _ _ (byts bs) rfl rfl (own_empty w _ _) (hF.alloc _) hr (by simp [byts_length]) (byts_one bs) (by omega) ?_; intro A' c' w' hown hg hat)
    go_ret
    simp only [Nat.zero_add, List.nil_append] at hown hat
    have hb : Below w.heap.size w w' := ((Below.refl _ _).alloc (Nat.le_refl _) _).grown hg (by simp) (fun k hk => by simp only [Value.ownBlock, Option.some.injEq] at hk; omega)
    obtain ⟨H2, g1, _, g3⟩ := own_freeze (d := Kd.byte) (xs := bs) (Grow.of_below hF hb) (v := .slice A' bs.length c') hown (reps_byts bs) (by show _ * 1 ≤ _; omega) (fun k hk => by
      have hk2 : w.heap.size ≤ k := by
        rcases hat with h | h
        · rw [hk] at h; simp only [Value.ownBlock, Option.some.injEq] at h; omega
        · rw [hk] at h; simp only [Option.some.injEq, World.size_alloc] at h; omega
      exact ⟨hk2, hF.none_ hk2⟩)
    exact ⟨_, H2, ret_slice (by omega), g1, g3⟩

/-! ### At -/
set_option maxHeartbeats 400000 in
theorem at_nil (i : Int) (w : World) : Calls Try.prog 20 #[.pointer none, .int .i64 i] w fun e w' => e = .returned (.slice none 0 0) ∧ w = w' := by
  go_enter Try.func20, Try.ntmps20
  go_wp2_with (go_at_call 23; refine (there_nil _ _).mono ?_; rintro e w' ⟨rfl, rfl⟩)
  go_ret
  exact ⟨rfl, rfl⟩
set_option maxHeartbeats 400000 in
theorem at_no (nb : Nat) (A : Option Addr) (n c : Nat) (i : Int) (w : World) (hc : w.cell? ⟨nb, 0, none⟩ = some (.slice A n c)) (h1 : i < 0 ∨ n ≤ i) :
    Calls Try.prog 20 #[.pointer (some ⟨nb, 0, none⟩), .int .i64 i] w fun e w' => e = .returned (.slice none 0 0) ∧ w = w' := by
  have H1 := Lib.hid h1; clear h1
  go_enter Try.func20, Try.ntmps20
  go_wp2_with (go_at_call 23; refine (there_no _ _ _ _ _ _ hc H1.out).mono ?_; rintro e w' ⟨rfl, rfl⟩)
  go_ret
  exact ⟨rfl, rfl⟩
/-- the letter's bytes, read where they lie. -/
theorem lt_bys {w : World} {l : Lt} (h : LtOk w l) (hbs : l.bs.length ≤ 140737488355328) : ∃ H, Fits w H ∧ Bys H (.slice (some ⟨l.g, 0, none⟩) l.bs.length l.cap) l.bs := by
  obtain ⟨h1, h2, rest, hb⟩ := h
  refine ⟨fun k => if k = l.g then w.heap[k]? else none, fun k o hk => ?_, _, _, byts l.bs, rfl, h1, ⟨h2, by show _ * 1 ≤ _; omega⟩, fun _ => ⟨_, rfl, fun j u hu w2 hw2 => ?_⟩, reps_byts _⟩
  · dsimp only at hk
    split at hk
    · exact hk
    · cases hk
  · have hb2 : Blk w2 l.g 5 (byts l.bs ++ rest).toArray := hw2 _ _ ((if_pos rfl).trans hb)
    rw [add_plain, hb2.cell]
    have := (List.getElem?_eq_some_iff.1 hu).1
    simp [List.getElem?_append_left this, hu]
/-- the letter's bytes, read where they lie, beside all that is known. -/
theorem lt_bys2 {w : World} {H : PHeap} {l : Lt} (hF : Fits w H) (h : LtOk w l) (hn : H l.g = none) (hbs : l.bs.length ≤ 140737488355328) : ∃ o, Fits w (H.put l.g o) ∧ H.le (H.put l.g o) ∧ Bys (H.put l.g o) (.slice (some ⟨l.g, 0, none⟩) l.bs.length l.cap) l.bs := by
  obtain ⟨h1, h2, rest, hb⟩ := h
  refine ⟨_, hF.put hb, PHeap.le_put _ hn, _, _, byts l.bs, rfl, h1, ⟨h2, by show _ * 1 ≤ _; omega⟩, fun _ => ⟨_, rfl, fun j u hu => ?_⟩, reps_byts _⟩
  rw [add_plain]
  refine HCell.of_blk (PHeap.put_self _ _ _) (j := j) ?_
  have := (List.getElem?_eq_some_iff.1 hu).1
  simp [List.getElem?_append_left this, hu]
def AtRet (w : World) (bs : List UInt8) (e : Ending) (w' : World) : Prop := ∃ r H', e = .returned r ∧ Below w.heap.size w w' ∧ Fits w' H' ∧ Bys H' r bs
set_option maxHeartbeats 400000 in
theorem at_any (nb : Nat) (S : Nat → Prop) (v : Value) (M : List Lt) (i : Nat) (l : Lt) (w : World) (hN : NetIs w 56 58 nb S v M) (hl : M[i]? = some l) (hbs : l.bs.length ≤ 140737488355328) :
    Calls Try.prog 20 #[.pointer (some ⟨nb, 0, none⟩), .int .i64 i] w (AtRet w l.bs) := by
  have hi : i < M.length := (List.getElem?_eq_some_iff.1 hl).1
  obtain ⟨g, cap, cur, rfl, hb, hc1, hc2, hs, ht, hg⟩ := hN.some_ (by omega)
  obtain ⟨c0, f0, l0⟩ := hN.blk.c1
  have k0 := row_cell hb ht (ltRow_get M i l hl).1
  obtain ⟨o, hF, _, hy⟩ := lt_bys2 (H := fun _ => none) (fun _ _ h => by cases h) (hN.ok l (List.mem_of_getElem? hl)) rfl hbs
  have hi0 : (0 : Int) ≤ (i : Int) := by omega
  have hi1 : (i : Int) < (M.length : Int) := by omega
  go_enter Try.func20, Try.ntmps20
  go_wp2_with (first
    | (go_at_call 23; refine (there_ok _ _ _ _ _ _ c0 hi0 hi1).mono ?_; rintro e w' ⟨rfl, rfl⟩)
    | (go_at_call 25; refine (clone_any _ _ _ hF hy hbs).mono ?_; rintro e w1 ⟨r, H', rfl, hG, hy1⟩; have hGb := hG.below; have hGf := hG.fits; clear hG))
  go_ret
  exact ⟨_, _, rfl, hGb, hGf, hy1⟩
end Go.Proofs.Ytmanpicmbeeceaa
