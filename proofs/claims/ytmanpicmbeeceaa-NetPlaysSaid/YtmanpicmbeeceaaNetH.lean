/- The reference's Take, Double, Spoil. -/
import Derived.Test.YtmanpicmbeeceaaNetF
import Derived.Test.YtmanpicmbeeceaaNetG
namespace Go.Proofs.Ytmanpicmbeeceaa
open Go.RowKit
open Kd (Sl)

/-- a row put in the place of the old one. -/
theorem net_newrow {w w2 : World} {tn te nb n' c' : Nat} {S : Nat → Prop} {v : Value} {M M' : List Lt} {A' : Option Addr} (h2 : tn ≠ 5)
    (hN : NetIs w tn te nb S v M) (hb : Below w.heap.size w w2) (hn : n' = M'.length) (hown : w2.ownsRow 0 te 2 (.slice A' n' c') n' (ltRow M')) (hnew : ∀ k, (Value.slice A' n' c').ownBlock = some k → w.heap.size ≤ k)
    (hsub : ∀ l ∈ M', l ∈ M) (hnd : (M'.map (·.g)).Nodup) :
    NetIs (w2.setCell ⟨nb, 0, none⟩ (.slice A' n' c')) tn te nb (fun k => S k ∨ (Value.slice A' n' c').ownBlock = some k) (.slice A' n' c') M' ∧
    Nx w S (w2.setCell ⟨nb, 0, none⟩ (.slice A' n' c')) (fun k => S k ∨ (Value.slice A' n' c').ownBlock = some k) ∧ (∀ l ∈ M, LtOk (w2.setCell ⟨nb, 0, none⟩ (.slice A' n' c')) l) := by
  subst hn
  have hN2 := hN.upd (Upd.of_below hb (fun _ => False)) (fun _ _ h => h)
  have hU : Upd w (w2.setCell ⟨nb, 0, none⟩ (.slice A' M'.length c')) S := (Upd.of_below hb S).setCell (.inl hN.snb) _
  have hok : ∀ l ∈ M, LtOk (w2.setCell ⟨nb, 0, none⟩ (.slice A' M'.length c')) l := fun l hl => by
    obtain ⟨a1, a2, r, hbk⟩ := hN2.ok l hl
    exact ⟨a1, a2, r, hbk.far (hbk.ne_ hN2.blk (Ne.symm h2)) _⟩
  have hsz : (w2.setCell ⟨nb, 0, none⟩ (.slice A' M'.length c')).heap.size = w2.heap.size := by simp [World.setCell]
  refine ⟨⟨?_, ?_, fun l hl => hok l (hsub l hl), hnd, .inl hN.snb, fun k hk => .inr hk, fun l hl => .inl (hN.slt l (hsub l hl)), ?_⟩, ⟨hU, ?_⟩, hok⟩
  · simpa using hN2.blk.set_ 0 (.slice A' M'.length c')
  · exact own_upd (S := (· = nb)) hown ((Upd.refl w2 (· = nb)).setCell (p := ⟨nb, 0, none⟩) (.inl rfl) _) (fun k hk e => by have := hnew k hk; have := hN.blk.lt; omega)
  · intro k hk
    rw [hsz]
    rcases hk with hk | hk
    · have := hN.slo k hk; have := hb.size; omega
    · exact own_ltb hown k hk
  · intro k hk
    rcases hk with hk | hk
    · exact .inl hk
    · exact .inr (hnew k hk)
/-- the net's row, read where it lies. -/
theorem row_h {w : World} {te g n : Nat} {cur : Array Value} {M : List Lt} (hb : Blk w g te cur) (ht : cur.toList.take (n * 2) = ltRow M) :
    ∃ H : PHeap, Fits w H ∧ HReads H (some ⟨g, 0, none⟩) (ltRow M) := by
  refine ⟨fun k => if k = g then w.heap[k]? else none, fun k o hk => ?_, fun _ => ⟨_, rfl, fun j u hu w2 hw2 => ?_⟩⟩
  · dsimp only at hk
    split at hk
    · exact hk
    · cases hk
  · have hb2 : Blk w2 g te cur := hw2 _ _ ((if_pos rfl).trans hb)
    rw [add_plain]
    exact row_cell hb2 ht hu
set_option maxRecDepth 100000 in
set_option maxHeartbeats 400000 in
theorem rtake_no (nb : Nat) (A : Option Addr) (n c : Nat) (i : Int) (w : World) (hc : w.cell? ⟨nb, 0, none⟩ = some (.slice A n c)) (h1 : i < 0 ∨ n ≤ i) :
    Calls Try.prog 13 #[.pointer (some ⟨nb, 0, none⟩), .int .i64 i] w fun e w' => e = .returned (.tuple #[.slice none 0 0, .int .i64 2]) ∧ w = w' := by
  rcases Int.lt_or_le i 0 with h0 | h0
  · clear h1
    go_enter Try.func13, Try.ntmps13
    go_wp2
    go_ret2
    exact ⟨rfl, rfl⟩
  · have h2 : (n : Int) ≤ i := by omega
    clear h1
    go_enter Try.func13, Try.ntmps13
    go_wp2
    go_ret2
    exact ⟨rfl, rfl⟩
def RTakeRet (w : World) (nb : Nat) (S : Nat → Prop) (M : List Lt) (i : Nat) (l : Lt) (e : Ending) (w' : World) : Prop :=
  ∃ S' v', e = .returned (.tuple #[.slice (some ⟨l.g, 0, none⟩) l.bs.length l.cap, .int .i64 0]) ∧ NetIs w' 30 50 nb S' v' (M.eraseIdx i) ∧ Nx w S w' S' ∧ LtOk w' l
set_option maxRecDepth 100000 in
set_option maxHeartbeats 1000000 in
theorem rtake_any (nb : Nat) (S : Nat → Prop) (v : Value) (M : List Lt) (i : Nat) (l : Lt) (w : World) (hN : NetIs w 30 50 nb S v M) (hl : M[i]? = some l) (hM : M.length ≤ 4000) :
    Calls Try.prog 13 #[.pointer (some ⟨nb, 0, none⟩), .int .i64 i] w (RTakeRet w nb S M i l) := by
  have hi : i < M.length := (List.getElem?_eq_some_iff.1 hl).1
  obtain ⟨g, cap, cur, rfl, hb, hc1, hc2, hs, ht, hg⟩ := hN.some_ (by omega)
  obtain ⟨c0, f0, l0⟩ := hN.blk.c1
  have k0 := row_cell hb ht (ltRow_get M i l hl).1
  have hlm : l ∈ M := List.mem_of_getElem? hl
  obtain ⟨H, hF, hr⟩ := row_h hb ht
  have hi0 : (0 : Int) ≤ (i : Int) := by omega
  have hi1 : (i : Int) < (M.length : Int) := by omega
  have hi2 : i + 1 ≤ M.length := hi
  have hic : i ≤ cap := by omega
  have hp1 : (i : Int) + 1 ≤ (M.length : Int) := by omega
  have hw1 : IntKind.i64.wrap ((i : Int) + 1) = (i : Int) + 1 := IntWalk.i64_in _ (by omega)
  have hp0 : (0 : Int) ≤ (i : Int) + 1 := by omega
  have hp2 : ((i : Int) + 1).toNat = i + 1 := by omega
  obtain ⟨i0, hj0, hz0, hz1, hz2⟩ := info_parts Try.infoOne
  have hr1 : HReads H (some ⟨g, 0, none⟩) (ltRow (M.take i)) := by rw [ltRow_take]; exact hr.take _
  have hr2 : HReads H (if cap = i + 1 then some ⟨g, 0, none⟩ else some ⟨g, (i + 1) * 2, none⟩) (ltRow (M.drop (i + 1))) := by
    by_cases h : cap = i + 1
    · have : M.drop (i + 1) = [] := List.drop_of_length_le (by omega)
      rw [this]; exact HReads.nil_
    · rw [if_neg h, ltRow_drop]
      have := hr.drop ((i + 1) * 2)
      rwa [Option.map_some, add_plain] at this
  have hb3 : Below w.heap.size w (w.alloc (.cells #[] 50)) := (Below.refl _ _).alloc (Nat.le_refl _) _
  have H2 := Lib.hid hr2; clear hr2
  go_enter Try.func13, Try.ntmps13
  go_wp2_with fail
  refine wp_region_last_held (S := (fun w' => w'.cell? ⟨nb, 0, none⟩ = some (.slice (some ⟨g, 0, none⟩) M.length cap) ∧ w'.frozen? ⟨nb, 0, none⟩ = false)) (l := [_, _, _, _, _, _, _, _, _, _, _, _, _, _, _, _, _, _, _]) (o := _) (by kernel_rfl) (by kernel_rfl) ?_
  simp only [List.size_toArray, List.length_cons, List.length_nil, Nat.zero_add, Nat.reduceAdd]
  have hHeld : ((fun w' => w'.cell? ⟨nb, 0, none⟩ = some (.slice (some ⟨g, 0, none⟩) M.length cap) ∧ w'.frozen? ⟨nb, 0, none⟩ = false)) w.drew := ⟨c0, f0⟩
  refine wpAnyH_take (i := 0) (v := ?_) rfl (by kernel_rfl) (by kernel_rfl) (by kernel_rfl) (fun _ _ _ h => h) (Or.inl ⟨by rfl, ?_⟩) (by assumption) ?_
  rotate_left
  · (intro w hSw; (try dsimp only at hSw); go_split_ands; go_simp; try with_reducible rfl)
  try simp only [List.getElem_toArray, List.getElem_cons_succ, List.getElem_cons_zero, Act.put, List.setIfInBounds_toArray, List.set_cons_zero, List.set_cons_succ]
  refine wpAnyH_take (i := 2) (v := ?_) rfl (by kernel_rfl) (by kernel_rfl) (by kernel_rfl) (fun _ _ _ h => h) (Or.inl ⟨by rfl, ?_⟩) (by assumption) ?_
  rotate_left
  · (intro w hSw; (try dsimp only at hSw); go_split_ands; go_simp; try with_reducible rfl)
  try simp only [List.getElem_toArray, List.getElem_cons_succ, List.getElem_cons_zero, Act.put, List.setIfInBounds_toArray, List.set_cons_zero, List.set_cons_succ]
  refine wpAnyH_take (i := 3) (v := ?_) rfl (by kernel_rfl) (by kernel_rfl) (by kernel_rfl) (fun _ _ _ h => h) (Or.inl ⟨by rfl, ?_⟩) (by assumption) ?_
  rotate_left
  · (intro w hSw; (try dsimp only at hSw); go_split_ands; go_simp; try with_reducible rfl)
  try simp only [List.getElem_toArray, List.getElem_cons_succ, List.getElem_cons_zero, Act.put, List.setIfInBounds_toArray, List.set_cons_zero, List.set_cons_succ]
  refine wpAnyH_take (i := 4) (v := ?_) rfl (by kernel_rfl) (by kernel_rfl) (by kernel_rfl) (fun _ _ _ h => h) (Or.inl ⟨by rfl, ?_⟩) (by assumption) ?_
  rotate_left
  · (intro w hSw; (try dsimp only at hSw); go_split_ands; go_simp; try with_reducible rfl)
  try simp only [List.getElem_toArray, List.getElem_cons_succ, List.getElem_cons_zero, Act.put, List.setIfInBounds_toArray, List.set_cons_zero, List.set_cons_succ]
  refine wpAnyH_take (i := 5) (v := ?_) rfl (by kernel_rfl) (by kernel_rfl) (by kernel_rfl) (fun _ _ _ h => h) (Or.inl ⟨by rfl, ?_⟩) (by assumption) ?_
  rotate_left
  · (intro w hSw; (try dsimp only at hSw); go_split_ands; go_simp; try with_reducible rfl)
  try simp only [List.getElem_toArray, List.getElem_cons_succ, List.getElem_cons_zero, Act.put, List.setIfInBounds_toArray, List.set_cons_zero, List.set_cons_succ]
  refine wpAnyH_take (i := 6) (v := ?_) rfl (by kernel_rfl) (by kernel_rfl) (by kernel_rfl) (fun _ _ _ h => h) (Or.inl ⟨by rfl, ?_⟩) (by assumption) ?_
  rotate_left
  · (intro w hSw; (try dsimp only at hSw); go_split_ands; go_simp; try with_reducible rfl)
  try simp only [List.getElem_toArray, List.getElem_cons_succ, List.getElem_cons_zero, Act.put, List.setIfInBounds_toArray, List.set_cons_zero, List.set_cons_succ]
  refine wpAnyH_take (i := 7) (v := ?_) rfl (by kernel_rfl) (by kernel_rfl) (by kernel_rfl) (fun _ _ _ h => h) (Or.inl ⟨by rfl, ?_⟩) (by assumption) ?_
  rotate_left
  · (intro w hSw; (try dsimp only at hSw); go_split_ands; go_simp; try with_reducible rfl)
  try simp only [List.getElem_toArray, List.getElem_cons_succ, List.getElem_cons_zero, Act.put, List.setIfInBounds_toArray, List.set_cons_zero, List.set_cons_succ]
  refine wpAnyH_take (i := 9) (v := ?_) rfl (by kernel_rfl) (by kernel_rfl) (by kernel_rfl) (fun _ _ _ h => h) (Or.inl ⟨by rfl, ?_⟩) (by assumption) ?_
  rotate_left
  · (intro w hSw; (try dsimp only at hSw); go_split_ands; go_simp; try with_reducible rfl)
  try simp only [List.getElem_toArray, List.getElem_cons_succ, List.getElem_cons_zero, Act.put, List.setIfInBounds_toArray, List.set_cons_zero, List.set_cons_succ]
  refine wpAnyH_take (i := 10) (v := ?_) rfl (by kernel_rfl) (by kernel_rfl) (by kernel_rfl) (fun _ _ _ h => h) (Or.inl ⟨by rfl, ?_⟩) (by assumption) ?_
  rotate_left
  · (intro w hSw; (try dsimp only at hSw); go_split_ands; go_simp; try with_reducible rfl)
  try simp only [List.getElem_toArray, List.getElem_cons_succ, List.getElem_cons_zero, Act.put, List.setIfInBounds_toArray, List.set_cons_zero, List.set_cons_succ]
  refine wpAnyH_take (i := 11) (v := ?_) rfl (by kernel_rfl) (by kernel_rfl) (by kernel_rfl) (fun _ _ _ h => h) (Or.inl ⟨by rfl, ?_⟩) (by assumption) ?_
  rotate_left
  · (intro w hSw; (try dsimp only at hSw); go_split_ands; go_simp; try with_reducible rfl)
  try simp only [List.getElem_toArray, List.getElem_cons_succ, List.getElem_cons_zero, Act.put, List.setIfInBounds_toArray, List.set_cons_zero, List.set_cons_succ]
  refine wpAnyH_take (i := 12) (v := ?_) rfl (by kernel_rfl) (by kernel_rfl) (by kernel_rfl) (fun _ _ _ h => h) (Or.inl ⟨by rfl, ?_⟩) (by assumption) ?_
  rotate_left
  · (intro w hSw; (try dsimp only at hSw); go_split_ands; go_simp; try with_reducible rfl)
  try simp only [List.getElem_toArray, List.getElem_cons_succ, List.getElem_cons_zero, Act.put, List.setIfInBounds_toArray, List.set_cons_zero, List.set_cons_succ]
  refine wpAnyH_take (i := 13) (v := ?_) rfl (by kernel_rfl) (by kernel_rfl) (by kernel_rfl) (fun _ _ _ h => h) (Or.inl ⟨by rfl, ?_⟩) (by assumption) ?_
  rotate_left
  · (intro w hSw; (try dsimp only at hSw); go_split_ands; go_simp; try with_reducible rfl)
  try simp only [List.getElem_toArray, List.getElem_cons_succ, List.getElem_cons_zero, Act.put, List.setIfInBounds_toArray, List.set_cons_zero, List.set_cons_succ]
  refine wpAnyH_take (i := 14) (v := ?_) rfl (by kernel_rfl) (by kernel_rfl) (by kernel_rfl) (fun _ _ _ h => h) (Or.inl ⟨by rfl, ?_⟩) (by assumption) ?_
  rotate_left
  · (intro w hSw; (try dsimp only at hSw); go_split_ands; go_simp; try with_reducible rfl)
  try simp only [List.getElem_toArray, List.getElem_cons_succ, List.getElem_cons_zero, Act.put, List.setIfInBounds_toArray, List.set_cons_zero, List.set_cons_succ]
  refine wpAnyH_take (i := 15) (v := ?_) rfl (by kernel_rfl) (by kernel_rfl) (by kernel_rfl) (fun _ _ _ h => h) (Or.inl ⟨by rfl, ?_⟩) (by assumption) ?_
  rotate_left
  · (intro w hSw; (try dsimp only at hSw); go_split_ands; go_simp; try with_reducible rfl)
  try simp only [List.getElem_toArray, List.getElem_cons_succ, List.getElem_cons_zero, Act.put, List.setIfInBounds_toArray, List.set_cons_zero, List.set_cons_succ]
  refine wpAnyH_ready (rs := [1]) (by kernel_rfl) (by simp) ?_
  refine AllReadyH.cons rfl (fun K hK => ?_) AllReadyH.nil
  go_simp
  refine hK.out _ _ ?_ (fun hHeld => ?_)
  · exact keepA hHeld _
  clear hK K
  try simp only [List.getElem_toArray, List.getElem_cons_succ, List.getElem_cons_zero, Act.put, List.setIfInBounds_toArray, List.set_cons_zero, List.set_cons_succ]
  refine wpAnyH_ready (rs := [8]) (by kernel_rfl) (by simp) ?_
  refine AllReadyH.cons rfl (fun K hK => ?_) AllReadyH.nil
  refine step_append_h (by rfl) (.tmp 27) (.tmp 33) 28 (by rfl) 50 i0 _ 2 32 Try.underlying28 hj0 hz0 hz1 hz2 rfl (by omega) (by omega) (.slice (some ⟨w.heap.size, 0, none⟩) 0 0) 0 [] H _ i _ (ltRow (M.take i)) (by rfl) (by rfl) (own_empty w.drew _ _) (Fits.alloc (w := w.drew) hF _) hr1 (by rw [ltRow_length, List.length_take]; omega) (ltRow_one _) (by omega) ?_
  intro A2 c2 w2 hown2 hg2 hat2
  simp only [Nat.zero_add, List.nil_append] at hown2 hat2 ⊢
  have hb4 : Below w.heap.size w w2 := hb3.grown ⟨hg2.os, hg2.tape, hg2.output, hg2.size, hg2.block⟩ (by simp) (fun q hq => by simp only [Value.ownBlock, Option.some.injEq] at hq; omega)
  have hF2 := hF.below hb4
  have hn2 : ∀ k, (Value.slice A2 i c2).ownBlock = some k → w.heap.size ≤ k := by
    intro k hk
    rcases hat2 with h | h <;> rw [hk] at h <;> simp only [Value.ownBlock, Option.some.injEq] at h <;> first | omega | (have := h; simp at this; omega)
  refine hK.out _ _ ?_ (fun hHeld => ?_)
  · exact keepG hg2 (by simp [Value.ownBlock]; omega) hHeld
  clear hK K
  try simp only [List.getElem_toArray, List.getElem_cons_succ, List.getElem_cons_zero, Act.put, List.setIfInBounds_toArray, List.set_cons_zero, List.set_cons_succ]
  refine wpAnyH_ready (rs := [16]) (by kernel_rfl) (by simp) ?_
  refine AllReadyH.cons rfl (fun K hK => ?_) AllReadyH.nil
  refine step_append_h (by rfl) (.tmp 34) (.tmp 41) 28 (by rfl) 50 i0 _ 2 32 Try.underlying28 hj0 hz0 hz1 hz2 rfl (by omega) (by omega) (.slice A2 i c2) i (ltRow (M.take i)) H _ (M.length - (i + 1)) _ (ltRow (M.drop (i + 1))) (by rfl) (by rfl) hown2 hF2 H2.out (by rw [ltRow_length, List.length_drop]) (ltRow_one _) (by omega) ?_
  intro A3 c3 w3 hown3 hg3 hat3
  have hb5 : Below w.heap.size w w3 := hb4.grown hg3 hb4.size hn2
  have hn3 : ∀ k, (Value.slice A3 (i + (M.length - (i + 1))) c3).ownBlock = some k → w.heap.size ≤ k := by
    intro k hk
    rcases hat3 with h | h
    · rw [hk] at h; exact hn2 k h.symm
    · rw [hk] at h; simp only [Option.some.injEq] at h; have := hb4.size; omega
  refine hK.out _ _ ?_ (fun hHeld => ?_)
  · exact keepG hg3 (fun e => by have := hn2 nb e.symm; omega) hHeld
  clear hK K
  try simp only [List.getElem_toArray, List.getElem_cons_succ, List.getElem_cons_zero, Act.put, List.setIfInBounds_toArray, List.set_cons_zero, List.set_cons_succ]
  refine wpAnyH_take (i := 17) (v := ?_) rfl (by kernel_rfl) (by kernel_rfl) (by kernel_rfl) (fun _ _ _ h => h) (Or.inl ⟨by rfl, ?_⟩) (by assumption) ?_
  rotate_left
  · (intro w hSw; (try dsimp only at hSw); go_split_ands; go_simp; try with_reducible rfl)
  try simp only [List.getElem_toArray, List.getElem_cons_succ, List.getElem_cons_zero, Act.put, List.setIfInBounds_toArray, List.set_cons_zero, List.set_cons_succ]
  refine wpAnyH_take (i := 18) (v := ?_) rfl (by kernel_rfl) (by kernel_rfl) (by kernel_rfl) (fun _ _ _ h => h) (Or.inl ⟨by rfl, ?_⟩) (by assumption) ?_
  rotate_left
  · (intro w hSw; (try dsimp only at hSw); go_split_ands; go_simp; try with_reducible rfl)
  try simp only [List.getElem_toArray, List.getElem_cons_succ, List.getElem_cons_zero, Act.put, List.setIfInBounds_toArray, List.set_cons_zero, List.set_cons_succ]
  refine wpAnyH_done (by kernel_rfl) ?_ _
  refine lastPost_wp ?_
  obtain ⟨d0, e0⟩ := hHeld
  have HP := Lib.hid (net_newrow (M' := M.eraseIdx i) (by decide) hN hb5 (by rw [List.length_eraseIdx_of_lt hi]; omega) (by rw [List.eraseIdx_eq_take_drop_succ, ltRow_append]; exact hown3) hn3 (fun l hl => List.mem_of_mem_eraseIdx hl) (hN.nodup.sublist ((List.eraseIdx_sublist M i).map _)))
  clear hown3 hown2 hat3 hat2 hg2 hg3 hn2 hn3 hb3 hb4 hb5
  go_wp2
  all_goals
    go_ret2
    exact ⟨_, _, rfl, HP.out.1, HP.out.2.1, HP.out.2.2 l hlm⟩

/-! ### Double -/
set_option maxRecDepth 100000 in
set_option maxHeartbeats 400000 in
theorem rdouble_no (nb : Nat) (A : Option Addr) (n c : Nat) (i : Int) (w : World) (hc : w.cell? ⟨nb, 0, none⟩ = some (.slice A n c)) (h1 : i < 0 ∨ n ≤ i) :
    Calls Try.prog 16 #[.pointer (some ⟨nb, 0, none⟩), .int .i64 i] w fun e w' => e = .returned (.int .i64 2) ∧ w = w' := by
  rcases Int.lt_or_le i 0 with h0 | h0
  · clear h1
    go_enter Try.func16, Try.ntmps16
    go_wp2
    go_ret
    exact ⟨rfl, rfl⟩
  · have h2 : (n : Int) ≤ i := by omega
    clear h1
    go_enter Try.func16, Try.ntmps16
    go_wp2
    go_ret
    exact ⟨rfl, rfl⟩
set_option maxRecDepth 100000 in
set_option maxHeartbeats 400000 in
theorem rdouble_full (nb : Nat) (A : Option Addr) (n c : Nat) (i : Int) (w : World) (hc : w.cell? ⟨nb, 0, none⟩ = some (.slice A n c)) (h0 : 0 ≤ i) (h1 : i < n) (hf : 4000 ≤ n) :
    Calls Try.prog 16 #[.pointer (some ⟨nb, 0, none⟩), .int .i64 i] w fun e w' => e = .returned (.int .i64 5) ∧ w = w' := by
  go_enter Try.func16, Try.ntmps16
  go_wp2
  go_ret
  exact ⟨rfl, rfl⟩
def RDoubleRet (w : World) (nb : Nat) (S : Nat → Prop) (M : List Lt) (l : Lt) (e : Ending) (w' : World) : Prop :=
  ∃ S' v' l', e = .returned (.int .i64 0) ∧ NetIs w' 30 50 nb S' v' (M ++ [l']) ∧ Nx w S w' S' ∧ l'.bs = l.bs ∧ l'.sp = l.sp
set_option maxRecDepth 100000 in
set_option maxHeartbeats 1000000 in
theorem rdouble_any (nb : Nat) (S : Nat → Prop) (v : Value) (M : List Lt) (i : Nat) (l : Lt) (w : World) (hN : NetIs w 30 50 nb S v M) (hl : M[i]? = some l) (hM : M.length < 4000) (hbs : l.bs.length ≤ 140737488355328) :
    Calls Try.prog 16 #[.pointer (some ⟨nb, 0, none⟩), .int .i64 i] w (RDoubleRet w nb S M l) := by
  have hi : i < M.length := (List.getElem?_eq_some_iff.1 hl).1
  obtain ⟨g, cap, cur, rfl, hb, hc1, hc2, hs, ht, hg⟩ := hN.some_ (by omega)
  obtain ⟨c0, f0, l0⟩ := hN.blk.c1
  obtain ⟨k0, k1⟩ := ltRow_get M i l hl
  replace k0 := row_cell hb ht k0
  replace k1 := row_cell hb ht k1
  have hlm : l ∈ M := List.mem_of_getElem? hl
  obtain ⟨H, hF, A1, cc, inner, hy, _, _, hr, hin⟩ := lt_bys (hN.ok l hlm) hbs
  obtain rfl := byts_of_reps hin
  simp only [Value.slice.injEq] at hy
  obtain ⟨rfl, _, rfl⟩ := hy
  have hi0 : (0 : Int) ≤ (i : Int) := by omega
  have hi1 : (i : Int) < (M.length : Int) := by omega
  have hm1 : (M.length : Int) < 4000 := by omega
  have hne : nb ≠ g := hN.blk.ne_ hb (by decide)
  have hgl := hb.lt
  obtain ⟨i0, hj0, hz0, hz1, hz2⟩ := info_parts Try.infoOne
  obtain ⟨i1, hi1', hy0, hy1, hy2⟩ := info_parts Try.info5
  have HB0 : Below w.heap.size w (w.alloc (.cells #[] 5)) := (Below.refl _ _).alloc (Nat.le_refl _) _
  go_enter Try.func16, Try.ntmps16
  go_wp2_with fail
  refine wp_region_last_held (S := (fun w' => w'.cell? ⟨nb, 0, none⟩ = some (.slice (some ⟨g, 0, none⟩) M.length cap) ∧ w'.frozen? ⟨nb, 0, none⟩ = false ∧ w'.cell? ⟨g, i * 2, none⟩ = some (.slice (some ⟨l.g, 0, none⟩) l.bs.length l.cap) ∧ w'.cell? ⟨g, i * 2 + 1, none⟩ = some (.bool l.sp))) (l := [_, _, _, _, _, _, _, _, _, _, _, _, _, _, _, _, _, _, _, _, _, _, _, _, _, _, _, _]) (o := _) (by kernel_rfl) (by kernel_rfl) ?_
  simp only [List.size_toArray, List.length_cons, List.length_nil, Nat.zero_add, Nat.reduceAdd]
  have hHeld : ((fun w' => w'.cell? ⟨nb, 0, none⟩ = some (.slice (some ⟨g, 0, none⟩) M.length cap) ∧ w'.frozen? ⟨nb, 0, none⟩ = false ∧ w'.cell? ⟨g, i * 2, none⟩ = some (.slice (some ⟨l.g, 0, none⟩) l.bs.length l.cap) ∧ w'.cell? ⟨g, i * 2 + 1, none⟩ = some (.bool l.sp))) w.drew := ⟨c0, f0, k0, k1⟩
  refine wpAnyH_take (i := 0) (v := ?_) rfl (by kernel_rfl) (by kernel_rfl) (by kernel_rfl) (fun _ _ _ h => h) (Or.inl ⟨by rfl, ?_⟩) (by assumption) ?_
  rotate_left
  · (intro w hSw; (try dsimp only at hSw); go_split_ands; go_simp; try with_reducible rfl)
  try simp only [List.getElem_toArray, List.getElem_cons_succ, List.getElem_cons_zero, Act.put, List.setIfInBounds_toArray, List.set_cons_zero, List.set_cons_succ]
  refine wpAnyH_take (i := 1) (v := ?_) rfl (by kernel_rfl) (by kernel_rfl) (by kernel_rfl) (fun _ _ _ h => h) (Or.inl ⟨by rfl, ?_⟩) (by assumption) ?_
  rotate_left
  · (intro w hSw; (try dsimp only at hSw); go_split_ands; go_simp; try with_reducible rfl)
  try simp only [List.getElem_toArray, List.getElem_cons_succ, List.getElem_cons_zero, Act.put, List.setIfInBounds_toArray, List.set_cons_zero, List.set_cons_succ]
  refine wpAnyH_take (i := 2) (v := ?_) rfl (by kernel_rfl) (by kernel_rfl) (by kernel_rfl) (fun _ _ _ h => h) (Or.inl ⟨by rfl, ?_⟩) (by assumption) ?_
  rotate_left
  · (intro w hSw; (try dsimp only at hSw); go_split_ands; go_simp; try with_reducible rfl)
  try simp only [List.getElem_toArray, List.getElem_cons_succ, List.getElem_cons_zero, Act.put, List.setIfInBounds_toArray, List.set_cons_zero, List.set_cons_succ]
  refine wpAnyH_take (i := 3) (v := ?_) rfl (by kernel_rfl) (by kernel_rfl) (by kernel_rfl) (fun _ _ _ h => h) (Or.inl ⟨by rfl, ?_⟩) (by assumption) ?_
  rotate_left
  · (intro w hSw; (try dsimp only at hSw); go_split_ands; go_simp; try with_reducible rfl)
  try simp only [List.getElem_toArray, List.getElem_cons_succ, List.getElem_cons_zero, Act.put, List.setIfInBounds_toArray, List.set_cons_zero, List.set_cons_succ]
  refine wpAnyH_take (i := 4) (v := ?_) rfl (by kernel_rfl) (by kernel_rfl) (by kernel_rfl) (fun _ _ _ h => h) (Or.inl ⟨by rfl, ?_⟩) (by assumption) ?_
  rotate_left
  · (intro w hSw; (try dsimp only at hSw); go_split_ands; go_simp; try with_reducible rfl)
  try simp only [List.getElem_toArray, List.getElem_cons_succ, List.getElem_cons_zero, Act.put, List.setIfInBounds_toArray, List.set_cons_zero, List.set_cons_succ]
  refine wpAnyH_take (i := 6) (v := ?_) rfl (by kernel_rfl) (by kernel_rfl) (by kernel_rfl) (fun _ _ _ h => h) (Or.inl ⟨by rfl, ?_⟩) (by assumption) ?_
  rotate_left
  · (intro w hSw; (try dsimp only at hSw); go_split_ands; go_simp; try with_reducible rfl)
  try simp only [List.getElem_toArray, List.getElem_cons_succ, List.getElem_cons_zero, Act.put, List.setIfInBounds_toArray, List.set_cons_zero, List.set_cons_succ]
  refine wpAnyH_take (i := 7) (v := ?_) rfl (by kernel_rfl) (by kernel_rfl) (by kernel_rfl) (fun _ _ _ h => h) (Or.inl ⟨by rfl, ?_⟩) (by assumption) ?_
  rotate_left
  · (intro w hSw; (try dsimp only at hSw); go_split_ands; go_simp; try with_reducible rfl)
  try simp only [List.getElem_toArray, List.getElem_cons_succ, List.getElem_cons_zero, Act.put, List.setIfInBounds_toArray, List.set_cons_zero, List.set_cons_succ]
  refine wpAnyH_take (i := 8) (v := ?_) rfl (by kernel_rfl) (by kernel_rfl) (by kernel_rfl) (fun _ _ _ h => h) (Or.inl ⟨by rfl, ?_⟩) (by assumption) ?_
  rotate_left
  · (intro w hSw; (try dsimp only at hSw); go_split_ands; go_simp; try with_reducible rfl)
  try simp only [List.getElem_toArray, List.getElem_cons_succ, List.getElem_cons_zero, Act.put, List.setIfInBounds_toArray, List.set_cons_zero, List.set_cons_succ]
  refine wpAnyH_take (i := 9) (v := ?_) rfl (by kernel_rfl) (by kernel_rfl) (by kernel_rfl) (fun _ _ _ h => h) (Or.inl ⟨by rfl, ?_⟩) (by assumption) ?_
  rotate_left
  · (intro w hSw; (try dsimp only at hSw); go_split_ands; go_simp; try with_reducible rfl)
  try simp only [List.getElem_toArray, List.getElem_cons_succ, List.getElem_cons_zero, Act.put, List.setIfInBounds_toArray, List.set_cons_zero, List.set_cons_succ]
  refine wpAnyH_take (i := 10) (v := ?_) rfl (by kernel_rfl) (by kernel_rfl) (by kernel_rfl) (fun _ _ _ h => h) (Or.inl ⟨by rfl, ?_⟩) (by assumption) ?_
  rotate_left
  · (intro w hSw; (try dsimp only at hSw); go_split_ands; go_simp; try with_reducible rfl)
  try simp only [List.getElem_toArray, List.getElem_cons_succ, List.getElem_cons_zero, Act.put, List.setIfInBounds_toArray, List.set_cons_zero, List.set_cons_succ]
  refine wpAnyH_take (i := 11) (v := ?_) rfl (by kernel_rfl) (by kernel_rfl) (by kernel_rfl) (fun _ _ _ h => h) (Or.inl ⟨by rfl, ?_⟩) (by assumption) ?_
  rotate_left
  · (intro w hSw; (try dsimp only at hSw); go_split_ands; go_simp; try with_reducible rfl)
  try simp only [List.getElem_toArray, List.getElem_cons_succ, List.getElem_cons_zero, Act.put, List.setIfInBounds_toArray, List.set_cons_zero, List.set_cons_succ]
  refine wpAnyH_take (i := 12) (v := ?_) rfl (by kernel_rfl) (by kernel_rfl) (by kernel_rfl) (fun _ _ _ h => h) (Or.inl ⟨by rfl, ?_⟩) (by assumption) ?_
  rotate_left
  · (intro w hSw; (try dsimp only at hSw); go_split_ands; go_simp; try with_reducible rfl)
  try simp only [List.getElem_toArray, List.getElem_cons_succ, List.getElem_cons_zero, Act.put, List.setIfInBounds_toArray, List.set_cons_zero, List.set_cons_succ]
  refine wpAnyH_take (i := 13) (v := ?_) rfl (by kernel_rfl) (by kernel_rfl) (by kernel_rfl) (fun _ _ _ h => h) (Or.inl ⟨by rfl, ?_⟩) (by assumption) ?_
  rotate_left
  · (intro w hSw; (try dsimp only at hSw); go_split_ands; go_simp; try with_reducible rfl)
  try simp only [List.getElem_toArray, List.getElem_cons_succ, List.getElem_cons_zero, Act.put, List.setIfInBounds_toArray, List.set_cons_zero, List.set_cons_succ]
  refine wpAnyH_take (i := 15) (v := ?_) rfl (by kernel_rfl) (by kernel_rfl) (by kernel_rfl) (fun _ _ _ h => h) (Or.inl ⟨by rfl, ?_⟩) (by assumption) ?_
  rotate_left
  · (intro w hSw; (try dsimp only at hSw); go_split_ands; go_simp; try with_reducible rfl)
  try simp only [List.getElem_toArray, List.getElem_cons_succ, List.getElem_cons_zero, Act.put, List.setIfInBounds_toArray, List.set_cons_zero, List.set_cons_succ]
  refine wpAnyH_take (i := 16) (v := ?_) rfl (by kernel_rfl) (by kernel_rfl) (by kernel_rfl) (fun _ _ _ h => h) (Or.inl ⟨by rfl, ?_⟩) (by assumption) ?_
  rotate_left
  · (intro w hSw; (try dsimp only at hSw); go_split_ands; go_simp; try with_reducible rfl)
  try simp only [List.getElem_toArray, List.getElem_cons_succ, List.getElem_cons_zero, Act.put, List.setIfInBounds_toArray, List.set_cons_zero, List.set_cons_succ]
  refine wpAnyH_take (i := 17) (v := ?_) rfl (by kernel_rfl) (by kernel_rfl) (by kernel_rfl) (fun _ _ _ h => h) (Or.inl ⟨by rfl, ?_⟩) (by assumption) ?_
  rotate_left
  · (intro w hSw; (try dsimp only at hSw); go_split_ands; go_simp; try with_reducible rfl)
  try simp only [List.getElem_toArray, List.getElem_cons_succ, List.getElem_cons_zero, Act.put, List.setIfInBounds_toArray, List.set_cons_zero, List.set_cons_succ]
  refine wpAnyH_take (i := 18) (v := ?_) rfl (by kernel_rfl) (by kernel_rfl) (by kernel_rfl) (fun _ _ _ h => h) (Or.inl ⟨by rfl, ?_⟩) (by assumption) ?_
  rotate_left
  · (intro w hSw; (try dsimp only at hSw); go_split_ands; go_simp; try with_reducible rfl)
  try simp only [List.getElem_toArray, List.getElem_cons_succ, List.getElem_cons_zero, Act.put, List.setIfInBounds_toArray, List.set_cons_zero, List.set_cons_succ]
  refine wpAnyH_take (i := 19) (v := ?_) rfl (by kernel_rfl) (by kernel_rfl) (by kernel_rfl) (fun _ _ _ h => h) (Or.inl ⟨by rfl, ?_⟩) (by assumption) ?_
  rotate_left
  · (intro w hSw; (try dsimp only at hSw); go_split_ands; go_simp; try with_reducible rfl)
  try simp only [List.getElem_toArray, List.getElem_cons_succ, List.getElem_cons_zero, Act.put, List.setIfInBounds_toArray, List.set_cons_zero, List.set_cons_succ]
  refine wpAnyH_take (i := 20) (v := ?_) rfl (by kernel_rfl) (by kernel_rfl) (by kernel_rfl) (fun _ _ _ h => h) (Or.inl ⟨by rfl, ?_⟩) (by assumption) ?_
  rotate_left
  · (intro w hSw; (try dsimp only at hSw); go_split_ands; go_simp; try with_reducible rfl)
  try simp only [List.getElem_toArray, List.getElem_cons_succ, List.getElem_cons_zero, Act.put, List.setIfInBounds_toArray, List.set_cons_zero, List.set_cons_succ]
  refine wpAnyH_take (i := 21) (v := ?_) rfl (by kernel_rfl) (by kernel_rfl) (by kernel_rfl) (fun _ _ _ h => h) (Or.inl ⟨by rfl, ?_⟩) (by assumption) ?_
  rotate_left
  · (intro w hSw; (try dsimp only at hSw); go_split_ands; go_simp; try with_reducible rfl)
  try simp only [List.getElem_toArray, List.getElem_cons_succ, List.getElem_cons_zero, Act.put, List.setIfInBounds_toArray, List.set_cons_zero, List.set_cons_succ]
  refine wpAnyH_take (i := 22) (v := ?_) rfl (by kernel_rfl) (by kernel_rfl) (by kernel_rfl) (fun _ _ _ h => h) (Or.inl ⟨by rfl, ?_⟩) (by assumption) ?_
  rotate_left
  · (intro w hSw; (try dsimp only at hSw); go_split_ands; go_simp; try with_reducible rfl)
  try simp only [List.getElem_toArray, List.getElem_cons_succ, List.getElem_cons_zero, Act.put, List.setIfInBounds_toArray, List.set_cons_zero, List.set_cons_succ]
  refine wpAnyH_ready (rs := [5]) (by kernel_rfl) (by simp) ?_
  refine AllReadyH.cons rfl (fun K hK => ?_) AllReadyH.nil
  go_simp
  refine hK.out _ _ ?_ (fun hHeld => ?_)
  · exact ⟨(keepA ⟨hHeld.1, hHeld.2.1⟩ _).1, (keepA ⟨hHeld.1, hHeld.2.1⟩ _).2, cellA hHeld.2.2.1 _, cellA hHeld.2.2.2 _⟩
  clear hK K
  try simp only [List.getElem_toArray, List.getElem_cons_succ, List.getElem_cons_zero, Act.put, List.setIfInBounds_toArray, List.set_cons_zero, List.set_cons_succ]
  refine wpAnyH_ready (rs := [14]) (by kernel_rfl) (by simp) ?_
  refine AllReadyH.cons rfl (fun K hK => ?_) AllReadyH.nil
  refine step_append_h (by rfl) (.tmp 27) (.tmp 35) 34 (by rfl) 5 i1 _ 1 1 Try.underlying34 hi1' hy0 hy1 hy2 rfl (by omega) (by omega) (.slice (some ⟨w.heap.size, 0, none⟩) 0 0) 0 [] H _ _ _ (byts l.bs) (by rfl) (by rfl) (own_empty w.drew _ _) (Fits.alloc (w := w.drew) hF _) hr (by simp [byts_length]) (byts_one l.bs) (by omega) ?_
  intro A2 c2 w2 hown2 hg2 hat2
  simp only [Nat.zero_add, List.nil_append] at hown2 hat2 ⊢
  have HB2 : Below w.heap.size w w2 := HB0.grown ⟨hg2.os, hg2.tape, hg2.output, hg2.size, hg2.block⟩ (by simp) (fun q hq => by simp only [Value.ownBlock, Option.some.injEq] at hq; omega)
  obtain ⟨g2, rest, rfl, hbl, hgc, hgm⟩ := own_some hown2 (by rcases hat2 with h | h <;> rw [h] <;> simp [Value.ownBlock])
  have hg2' : w.heap.size ≤ g2 := by rcases hat2 with h | h <;> simp only [Value.ownBlock, Option.some.injEq] at h <;> first | omega | (have := h; simp at this; omega)
  refine hK.out _ _ ?_ (fun hHeld => ?_)
  · exact ⟨(keepG hg2 (by simp [Value.ownBlock]; omega) ⟨hHeld.1, hHeld.2.1⟩).1, (keepG hg2 (by simp [Value.ownBlock]; omega) ⟨hHeld.1, hHeld.2.1⟩).2, cellG hg2 (by simp [Value.ownBlock]; omega) hHeld.2.2.1, cellG hg2 (by simp [Value.ownBlock]; omega) hHeld.2.2.2⟩
  clear hK K
  try simp only [List.getElem_toArray, List.getElem_cons_succ, List.getElem_cons_zero, Act.put, List.setIfInBounds_toArray, List.set_cons_zero, List.set_cons_succ]
  refine wpAnyH_take (i := 23) (v := ?_) rfl (by kernel_rfl) (by kernel_rfl) (by kernel_rfl) (fun _ _ _ h => h) (Or.inl ⟨by rfl, ?_⟩) (by assumption) ?_
  rotate_left
  · (intro w hSw; (try dsimp only at hSw); go_split_ands; go_simp; try with_reducible rfl)
  try simp only [List.getElem_toArray, List.getElem_cons_succ, List.getElem_cons_zero, Act.put, List.setIfInBounds_toArray, List.set_cons_zero, List.set_cons_succ]
  refine wpAnyH_ready (rs := [24]) (by kernel_rfl) (by simp) ?_
  refine AllReadyH.cons rfl (fun K hK => ?_) AllReadyH.nil
  go_simp
  refine hK.out _ _ ?_ (fun hHeld => ?_)
  · exact ⟨(keepA ⟨hHeld.1, hHeld.2.1⟩ _).1, (keepA ⟨hHeld.1, hHeld.2.1⟩ _).2, cellA hHeld.2.2.1 _, cellA hHeld.2.2.2 _⟩
  clear hK K
  try simp only [List.getElem_toArray, List.getElem_cons_succ, List.getElem_cons_zero, Act.put, List.setIfInBounds_toArray, List.set_cons_zero, List.set_cons_succ]
  refine wpAnyH_ready (rs := [25]) (by kernel_rfl) (by simp) ?_
  refine AllReadyH.cons rfl (fun K hK => ?_) AllReadyH.nil
  refine step_pushk (by rfl) (.tmp 26) (.tmp 46) 28 (by rfl) i0 _ 2 32 Try.underlying28 hj0 hz0 hz1 hz2 rfl (by omega) (by omega) g M.length cap (ltRow M) _ (by rfl) (by rfl) (by rfl) (own_below hN.row HB2) (by simp [Value.oneCell']) (by omega) ?_
  intro gg cap2 w3 hown3 hgrow hat hkeep
  have hk3 := keepG (a := ⟨nb, 0, none⟩) hgrow (fun e => hne (by simpa using e)) ⟨hHeld.1, hHeld.2.1⟩
  refine hK.out _ _ ?_ (fun hHeld => ?_)
  · exact ⟨hk3.1, hk3.2, hkeep _ _ (ltRow_get M i l hl).1, hkeep _ _ (ltRow_get M i l hl).2⟩
  clear hK K
  try simp only [List.getElem_toArray, List.getElem_cons_succ, List.getElem_cons_zero, Act.put, List.setIfInBounds_toArray, List.set_cons_zero, List.set_cons_succ]
  refine wpAnyH_take (i := 26) (v := ?_) rfl (by kernel_rfl) (by kernel_rfl) (by kernel_rfl) (fun _ _ _ h => h) (Or.inl ⟨by rfl, ?_⟩) (by assumption) ?_
  rotate_left
  · (intro w hSw; (try dsimp only at hSw); go_split_ands; go_simp; try with_reducible rfl)
  try simp only [List.getElem_toArray, List.getElem_cons_succ, List.getElem_cons_zero, Act.put, List.setIfInBounds_toArray, List.set_cons_zero, List.set_cons_succ]
  refine wpAnyH_take (i := 27) (v := ?_) rfl (by kernel_rfl) (by kernel_rfl) (by kernel_rfl) (fun _ _ _ h => h) (Or.inl ⟨by rfl, ?_⟩) (by assumption) ?_
  rotate_left
  · (intro w hSw; (try dsimp only at hSw); go_split_ands; go_simp; try with_reducible rfl)
  try simp only [List.getElem_toArray, List.getElem_cons_succ, List.getElem_cons_zero, Act.put, List.setIfInBounds_toArray, List.set_cons_zero, List.set_cons_succ]
  refine wpAnyH_done (by kernel_rfl) ?_ _
  refine lastPost_wp ?_
  obtain ⟨c3, f3⟩ := hk3
  have HP := Lib.hid (net_push (sp := l.sp) (bs := l.bs) (n := l.bs.length) (cap := c2) (by decide) (by decide) (by decide) hN (HB2.alloc HB2.size _) (hbl.alloc _) hg2' rfl hgc hgm hgrow hown3 (by simpa [Value.ownBlock] using hat))
  clear hbl hown2 hown3 hgrow hg2 hat hat2 HB2 HB0 hHeld hkeep
  go_wp2
  go_ret
  exact ⟨_, _, _, rfl, HP.out.1, HP.out.2, rfl, rfl⟩

/-! ### Spoil -/
set_option maxRecDepth 100000 in
set_option maxHeartbeats 400000 in
theorem rspoil_no (nb : Nat) (A : Option Addr) (n c : Nat) (i a : Int) (b : UInt8) (w : World) (hc : w.cell? ⟨nb, 0, none⟩ = some (.slice A n c)) (h1 : i < 0 ∨ n ≤ i) :
    Calls Try.prog 18 #[.pointer (some ⟨nb, 0, none⟩), .int .i64 i, .int .i64 a, .int .u8 b.toNat] w fun e w' => e = .returned (.int .i64 2) ∧ w = w' := by
  rcases Int.lt_or_le i 0 with h0 | h0
  · clear h1
    go_enter Try.func18, Try.ntmps18
    go_wp2
    go_ret
    exact ⟨rfl, rfl⟩
  · have h2 : (n : Int) ≤ i := by omega
    clear h1
    go_enter Try.func18, Try.ntmps18
    go_wp2
    go_ret
    exact ⟨rfl, rfl⟩
def RSpoilRet (w : World) (nb : Nat) (S : Nat → Prop) (M : List Lt) (i : Nat) (l : Lt) (a : Int) (b : UInt8) (e : Ending) (w' : World) : Prop :=
  (l.sp = true ∧ e = .returned (.int .i64 8) ∧ w = w') ∨ (l.sp = false ∧ (a < 0 ∨ l.bs.length ≤ a) ∧ e = .returned (.int .i64 2) ∧ w = w') ∨
  (l.sp = false ∧ ∃ k c, a = (k : Nat) ∧ l.bs[k]? = some c ∧ e = .returned (.int .i64 0) ∧ ∃ v', NetIs w' 30 50 nb S v' (M.set i { l with bs := l.bs.set k (c ^^^ b), sp := true }) ∧ Nx w S w' S)
theorem NetIs.drew {w : World} {tn te nb : Nat} {S : Nat → Prop} {v : Value} {M : List Lt} (h : NetIs w tn te nb S v M) : NetIs w.drew tn te nb S v M := ⟨h.blk, h.row, h.ok, h.nodup, h.snb, h.srow, h.slt, h.slo⟩
set_option maxRecDepth 100000 in
set_option maxHeartbeats 1000000 in
theorem rspoil_any (nb : Nat) (S : Nat → Prop) (v : Value) (M : List Lt) (i : Nat) (l : Lt) (a : Int) (b : UInt8) (w : World) (hN : NetIs w 30 50 nb S v M) (hl : M[i]? = some l) :
    Calls Try.prog 18 #[.pointer (some ⟨nb, 0, none⟩), .int .i64 i, .int .i64 a, .int .u8 b.toNat] w (RSpoilRet w nb S M i l a b) := by
  have hi : i < M.length := (List.getElem?_eq_some_iff.1 hl).1
  obtain ⟨g, cap, cur, rfl, hb, hc1, hc2, hs, ht, hg⟩ := hN.some_ (by omega)
  obtain ⟨c0, f0, l0⟩ := hN.blk.c1
  obtain ⟨k0, k1⟩ := ltRow_get M i l hl
  replace k0 := row_cell hb ht k0
  replace k1 := row_cell hb ht k1
  have f1 := hb.frozen (i * 2 + 1)
  have hlm : l ∈ M := List.mem_of_getElem? hl
  have hi0 : (0 : Int) ≤ (i : Int) := by omega
  have hi1 : (i : Int) < (M.length : Int) := by omega
  rcases hsp : l.sp with _ | _
  · rw [hsp] at k1
    have HSP := Lib.hid hsp; clear hsp
    by_cases ha : 0 ≤ a ∧ a < l.bs.length
    · obtain ⟨a0, a1⟩ := ha
      obtain ⟨k, rfl⟩ := Int.eq_ofNat_of_zero_le a0
      have ka : k < l.bs.length := by omega
      obtain ⟨b1, b2, rest, hbl⟩ := hN.ok l hlm
      have hlg : l.g ≠ g := hbl.ne_ hb (by decide)
      have hnl : nb ≠ l.g := hN.blk.ne_ hbl (by decide)
      have q0 : w.cell? ⟨l.g, k, none⟩ = some (.int .u8 l.bs[k].toNat) := by
        rw [hbl.cell]
        have : k < (byts l.bs).length := by rw [byts_length]; exact ka
        simp [List.getElem?_append_left this, byts_get (List.getElem?_eq_getElem ka)]
      have q1 := hbl.frozen k
      have hx := u8_xor l.bs[k] b
      have HP := Lib.hid (net_set (c := l.bs[k] ^^^ b) (by decide) (by decide) (by decide) hN.drew hb.drew hs ht hc1 (by unfold maxLen; omega) hl ka)
      generalize hq : l.bs[k] ^^^ b = q at *
      have HQ := Lib.hid hq; clear hq
      clear hbl hs ht b1 b2 hb hc1 hlm
      generalize hpp : l.bs[k].toNat = pp at *
      go_enter Try.func18, Try.ntmps18
      go_wp2_with fail
      refine wp_region_last_held (S := (fun w' => w'.cell? ⟨nb, 0, none⟩ = some (.slice (some ⟨g, 0, none⟩) M.length cap) ∧ w'.cell? ⟨g, i * 2, none⟩ = some (.slice (some ⟨l.g, 0, none⟩) l.bs.length l.cap) ∧ w'.cell? ⟨l.g, k, none⟩ = some (.int .u8 pp))) (l := [_, _, _, _, _, _, _, _, _, _, _, _, _, _, _, _, _, _, _, _, _, _, _]) (o := _) (by kernel_rfl) (by kernel_rfl) ?_
      simp only [List.size_toArray, List.length_cons, List.length_nil, Nat.zero_add, Nat.reduceAdd]
      have hHeld : ((fun w' => w'.cell? ⟨nb, 0, none⟩ = some (.slice (some ⟨g, 0, none⟩) M.length cap) ∧ w'.cell? ⟨g, i * 2, none⟩ = some (.slice (some ⟨l.g, 0, none⟩) l.bs.length l.cap) ∧ w'.cell? ⟨l.g, k, none⟩ = some (.int .u8 pp))) w.drew := ⟨c0, k0, q0⟩
      refine wpAnyH_take (i := 0) (v := ?_) rfl (by kernel_rfl) (by kernel_rfl) (by kernel_rfl) (fun _ _ _ h => h) (Or.inl ⟨by rfl, ?_⟩) (by assumption) ?_
      rotate_left
      · (intro w hSw; (try dsimp only at hSw); go_split_ands; go_simp; try with_reducible rfl)
      try simp only [List.getElem_toArray, List.getElem_cons_succ, List.getElem_cons_zero, Act.put, List.setIfInBounds_toArray, List.set_cons_zero, List.set_cons_succ]
      refine wpAnyH_take (i := 1) (v := ?_) rfl (by kernel_rfl) (by kernel_rfl) (by kernel_rfl) (fun _ _ _ h => h) (Or.inl ⟨by rfl, ?_⟩) (by assumption) ?_
      rotate_left
      · (intro w hSw; (try dsimp only at hSw); go_split_ands; go_simp; try with_reducible rfl)
      try simp only [List.getElem_toArray, List.getElem_cons_succ, List.getElem_cons_zero, Act.put, List.setIfInBounds_toArray, List.set_cons_zero, List.set_cons_succ]
      refine wpAnyH_take (i := 2) (v := ?_) rfl (by kernel_rfl) (by kernel_rfl) (by kernel_rfl) (fun _ _ _ h => h) (Or.inl ⟨by rfl, ?_⟩) (by assumption) ?_
      rotate_left
      · (intro w hSw; (try dsimp only at hSw); go_split_ands; go_simp; try with_reducible rfl)
      try simp only [List.getElem_toArray, List.getElem_cons_succ, List.getElem_cons_zero, Act.put, List.setIfInBounds_toArray, List.set_cons_zero, List.set_cons_succ]
      refine wpAnyH_take (i := 3) (v := ?_) rfl (by kernel_rfl) (by kernel_rfl) (by kernel_rfl) (fun _ _ _ h => h) (Or.inl ⟨by rfl, ?_⟩) (by assumption) ?_
      rotate_left
      · (intro w hSw; (try dsimp only at hSw); go_split_ands; go_simp; try with_reducible rfl)
      try simp only [List.getElem_toArray, List.getElem_cons_succ, List.getElem_cons_zero, Act.put, List.setIfInBounds_toArray, List.set_cons_zero, List.set_cons_succ]
      refine wpAnyH_take (i := 4) (v := ?_) rfl (by kernel_rfl) (by kernel_rfl) (by kernel_rfl) (fun _ _ _ h => h) (Or.inl ⟨by rfl, ?_⟩) (by assumption) ?_
      rotate_left
      · (intro w hSw; (try dsimp only at hSw); go_split_ands; go_simp; try with_reducible rfl)
      try simp only [List.getElem_toArray, List.getElem_cons_succ, List.getElem_cons_zero, Act.put, List.setIfInBounds_toArray, List.set_cons_zero, List.set_cons_succ]
      refine wpAnyH_take (i := 5) (v := ?_) rfl (by kernel_rfl) (by kernel_rfl) (by kernel_rfl) (fun _ _ _ h => h) (Or.inl ⟨by rfl, ?_⟩) (by assumption) ?_
      rotate_left
      · (intro w hSw; (try dsimp only at hSw); go_split_ands; go_simp; try with_reducible rfl)
      try simp only [List.getElem_toArray, List.getElem_cons_succ, List.getElem_cons_zero, Act.put, List.setIfInBounds_toArray, List.set_cons_zero, List.set_cons_succ]
      refine wpAnyH_take (i := 6) (v := ?_) rfl (by kernel_rfl) (by kernel_rfl) (by kernel_rfl) (fun _ _ _ h => h) (Or.inl ⟨by rfl, ?_⟩) (by assumption) ?_
      rotate_left
      · (intro w hSw; (try dsimp only at hSw); go_split_ands; go_simp; try with_reducible rfl)
      try simp only [List.getElem_toArray, List.getElem_cons_succ, List.getElem_cons_zero, Act.put, List.setIfInBounds_toArray, List.set_cons_zero, List.set_cons_succ]
      refine wpAnyH_take (i := 7) (v := ?_) rfl (by kernel_rfl) (by kernel_rfl) (by kernel_rfl) (fun _ _ _ h => h) (Or.inl ⟨by rfl, ?_⟩) (by assumption) ?_
      rotate_left
      · (intro w hSw; (try dsimp only at hSw); go_split_ands; go_simp; try with_reducible rfl)
      try simp only [List.getElem_toArray, List.getElem_cons_succ, List.getElem_cons_zero, Act.put, List.setIfInBounds_toArray, List.set_cons_zero, List.set_cons_succ]
      refine wpAnyH_take (i := 8) (v := ?_) rfl (by kernel_rfl) (by kernel_rfl) (by kernel_rfl) (fun _ _ _ h => h) (Or.inl ⟨by rfl, ?_⟩) (by assumption) ?_
      rotate_left
      · (intro w hSw; (try dsimp only at hSw); go_split_ands; go_simp; try with_reducible rfl)
      try simp only [List.getElem_toArray, List.getElem_cons_succ, List.getElem_cons_zero, Act.put, List.setIfInBounds_toArray, List.set_cons_zero, List.set_cons_succ]
      refine wpAnyH_take (i := 9) (v := ?_) rfl (by kernel_rfl) (by kernel_rfl) (by kernel_rfl) (fun _ _ _ h => h) (Or.inl ⟨by rfl, ?_⟩) (by assumption) ?_
      rotate_left
      · (intro w hSw; (try dsimp only at hSw); go_split_ands; go_simp; try with_reducible rfl)
      try simp only [List.getElem_toArray, List.getElem_cons_succ, List.getElem_cons_zero, Act.put, List.setIfInBounds_toArray, List.set_cons_zero, List.set_cons_succ]
      refine wpAnyH_take (i := 10) (v := ?_) rfl (by kernel_rfl) (by kernel_rfl) (by kernel_rfl) (fun _ _ _ h => h) (Or.inl ⟨by rfl, ?_⟩) (by assumption) ?_
      rotate_left
      · (intro w hSw; (try dsimp only at hSw); go_split_ands; go_simp; try with_reducible rfl)
      try simp only [List.getElem_toArray, List.getElem_cons_succ, List.getElem_cons_zero, Act.put, List.setIfInBounds_toArray, List.set_cons_zero, List.set_cons_succ]
      refine wpAnyH_take (i := 11) (v := ?_) rfl (by kernel_rfl) (by kernel_rfl) (by kernel_rfl) (fun _ _ _ h => h) (Or.inl ⟨by rfl, ?_⟩) (by assumption) ?_
      rotate_left
      · (intro w hSw; (try dsimp only at hSw); go_split_ands; go_simp; try with_reducible rfl)
      try simp only [List.getElem_toArray, List.getElem_cons_succ, List.getElem_cons_zero, Act.put, List.setIfInBounds_toArray, List.set_cons_zero, List.set_cons_succ]
      refine wpAnyH_take (i := 12) (v := ?_) rfl (by kernel_rfl) (by kernel_rfl) (by kernel_rfl) (fun _ _ _ h => h) (Or.inl ⟨by rfl, ?_⟩) (by assumption) ?_
      rotate_left
      · (intro w hSw; (try dsimp only at hSw); go_split_ands; go_simp; try with_reducible rfl)
      try simp only [List.getElem_toArray, List.getElem_cons_succ, List.getElem_cons_zero, Act.put, List.setIfInBounds_toArray, List.set_cons_zero, List.set_cons_succ]
      refine wpAnyH_take (i := 13) (v := ?_) rfl (by kernel_rfl) (by kernel_rfl) (by kernel_rfl) (fun _ _ _ h => h) (Or.inl ⟨by rfl, ?_⟩) (by assumption) ?_
      rotate_left
      · (intro w hSw; (try dsimp only at hSw); go_split_ands; go_simp; try with_reducible rfl)
      try simp only [List.getElem_toArray, List.getElem_cons_succ, List.getElem_cons_zero, Act.put, List.setIfInBounds_toArray, List.set_cons_zero, List.set_cons_succ]
      refine wpAnyH_take (i := 14) (v := ?_) rfl (by kernel_rfl) (by kernel_rfl) (by kernel_rfl) (fun _ _ _ h => h) (Or.inl ⟨by rfl, ?_⟩) (by assumption) ?_
      rotate_left
      · (intro w hSw; (try dsimp only at hSw); go_split_ands; go_simp; try with_reducible rfl)
      try simp only [List.getElem_toArray, List.getElem_cons_succ, List.getElem_cons_zero, Act.put, List.setIfInBounds_toArray, List.set_cons_zero, List.set_cons_succ]
      refine wpAnyH_take (i := 15) (v := ?_) rfl (by kernel_rfl) (by kernel_rfl) (by kernel_rfl) (fun _ _ _ h => h) (Or.inl ⟨by rfl, ?_⟩) (by assumption) ?_
      rotate_left
      · (intro w hSw; (try dsimp only at hSw); go_split_ands; go_simp; try with_reducible rfl)
      try simp only [List.getElem_toArray, List.getElem_cons_succ, List.getElem_cons_zero, Act.put, List.setIfInBounds_toArray, List.set_cons_zero, List.set_cons_succ]
      refine wpAnyH_take (i := 16) (v := ?_) rfl (by kernel_rfl) (by kernel_rfl) (by kernel_rfl) (fun _ _ _ h => h) (Or.inl ⟨by rfl, ?_⟩) (by assumption) ?_
      rotate_left
      · (intro w hSw; (try dsimp only at hSw); go_split_ands; go_simp; try with_reducible rfl)
      try simp only [List.getElem_toArray, List.getElem_cons_succ, List.getElem_cons_zero, Act.put, List.setIfInBounds_toArray, List.set_cons_zero, List.set_cons_succ]
      refine wpAnyH_take (i := 17) (v := ?_) rfl (by kernel_rfl) (by kernel_rfl) (by kernel_rfl) (fun _ _ _ h => h) (Or.inl ⟨by rfl, ?_⟩) (by assumption) ?_
      rotate_left
      · (intro w hSw; (try dsimp only at hSw); go_split_ands; go_simp; try with_reducible rfl)
      try simp only [List.getElem_toArray, List.getElem_cons_succ, List.getElem_cons_zero, Act.put, List.setIfInBounds_toArray, List.set_cons_zero, List.set_cons_succ]
      refine wpAnyH_take (i := 18) (v := ?_) rfl (by kernel_rfl) (by kernel_rfl) (by kernel_rfl) (fun _ _ _ h => h) (Or.inl ⟨by rfl, ?_⟩) (by assumption) ?_
      rotate_left
      · (intro w hSw; (try dsimp only at hSw); go_split_ands; go_simp; try with_reducible rfl)
      try simp only [List.getElem_toArray, List.getElem_cons_succ, List.getElem_cons_zero, Act.put, List.setIfInBounds_toArray, List.set_cons_zero, List.set_cons_succ]
      refine wpAnyH_take (i := 19) (v := ?_) rfl (by kernel_rfl) (by kernel_rfl) (by kernel_rfl) (fun _ _ _ h => h) (Or.inl ⟨by rfl, ?_⟩) (by assumption) ?_
      rotate_left
      · (intro w hSw; (try dsimp only at hSw); go_split_ands; go_simp; try with_reducible rfl)
      try simp only [List.getElem_toArray, List.getElem_cons_succ, List.getElem_cons_zero, Act.put, List.setIfInBounds_toArray, List.set_cons_zero, List.set_cons_succ]
      refine wpAnyH_take (i := 20) (v := ?_) rfl (by kernel_rfl) (by kernel_rfl) (by kernel_rfl) (fun _ _ _ h => h) (Or.inl ⟨by rfl, ?_⟩) (by assumption) ?_
      rotate_left
      · (intro w hSw; (try dsimp only at hSw); go_split_ands; go_simp; try with_reducible rfl)
      try simp only [List.getElem_toArray, List.getElem_cons_succ, List.getElem_cons_zero, Act.put, List.setIfInBounds_toArray, List.set_cons_zero, List.set_cons_succ]
      refine wpAnyH_take (i := 21) (v := ?_) rfl (by kernel_rfl) (by kernel_rfl) (by kernel_rfl) (fun _ _ _ h => h) (Or.inl ⟨by rfl, ?_⟩) (by assumption) ?_
      rotate_left
      · (intro w hSw; (try dsimp only at hSw); go_split_ands; go_simp; try with_reducible rfl)
      try simp only [List.getElem_toArray, List.getElem_cons_succ, List.getElem_cons_zero, Act.put, List.setIfInBounds_toArray, List.set_cons_zero, List.set_cons_succ]
      refine wpAnyH_take (i := 22) (v := ?_) rfl (by kernel_rfl) (by kernel_rfl) (by kernel_rfl) (fun _ _ _ h => h) (Or.inl ⟨by rfl, ?_⟩) (by assumption) ?_
      rotate_left
      · (intro w hSw; (try dsimp only at hSw); go_split_ands; go_simp; try with_reducible rfl)
      try simp only [List.getElem_toArray, List.getElem_cons_succ, List.getElem_cons_zero, Act.put, List.setIfInBounds_toArray, List.set_cons_zero, List.set_cons_succ]
      refine wpAnyH_done (by kernel_rfl) ?_ _
      refine lastPost_wp ?_
      clear hHeld
      go_wp2
      go_ret
      exact .inr (.inr ⟨HSP.out, k, l.bs[k], rfl, List.getElem?_eq_getElem ka, rfl, _, by rw [HQ.out]; exact HP.out.1, ⟨HP.out.2.upd.os, HP.out.2.upd.tape, HP.out.2.upd.output, HP.out.2.upd.size, HP.out.2.upd.block⟩, HP.out.2.new⟩)
    · rcases Int.lt_or_le a 0 with h0 | h0
      · clear ha
        go_enter Try.func18, Try.ntmps18
        go_wp2
        go_ret
        exact .inr (.inl ⟨HSP.out, .inl h0, rfl, rfl⟩)
      · have h2 : (l.bs.length : Int) ≤ a := by omega
        clear ha
        go_enter Try.func18, Try.ntmps18
        go_wp2
        go_ret
        exact .inr (.inl ⟨HSP.out, .inr h2, rfl, rfl⟩)
  · rw [hsp] at k1
    have HSP := Lib.hid hsp; clear hsp
    go_enter Try.func18, Try.ntmps18
    go_wp2
    go_ret
    exact .inl ⟨HSP.out, rfl, rfl⟩
end Go.Proofs.Ytmanpicmbeeceaa
