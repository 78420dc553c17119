/- Send. -/
import Derived.Test.YtmanpicmbeeceaaNetA
namespace Go.Proofs.Ytmanpicmbeeceaa
open Go.RowKit
open Kd (Sl)

def ab (M : List Lt) : List (List UInt8 × Bool) := M.map fun l => (l.bs, l.sp)
structure Nx (w : World) (S : Nat → Prop) (w' : World) (S' : Nat → Prop) : Prop where
  upd : Upd w w' S
  new : ∀ k, S' k → S k ∨ w.heap.size ≤ k
theorem Nx.refl (w : World) (S : Nat → Prop) : Nx w S w S := ⟨Upd.refl _ _, fun _ h => .inl h⟩
theorem Nx.trans {a b c : World} {A B C : Nat → Prop} (h : Nx a A b B) (k : Nx b B c C) : Nx a A c C :=
  ⟨⟨k.upd.os.trans h.upd.os, k.upd.tape.trans h.upd.tape, k.upd.output.trans h.upd.output, Nat.le_trans h.upd.size k.upd.size,
    fun i hi hn => (k.upd.block i (Nat.lt_of_lt_of_le hi h.upd.size) (fun hb => by rcases h.new i hb with h1 | h1; exact hn h1; omega)).trans (h.upd.block i hi hn)⟩,
   fun i hi => by
    rcases k.new i hi with h1 | h1
    · exact h.new i h1
    · exact .inr (Nat.le_trans h.upd.size h1)⟩
theorem Nx.out {w w' : World} {S S' : Nat → Prop} (h : Nx w S w' S') {H : PHeap} (hF : Fits w H) (hS : ∀ k, S k → H k = none) : Fits w' H ∧ ∀ k, S' k → H k = none :=
  ⟨hF.upd h.upd hS, fun k hk => by
    rcases h.new k hk with h1 | h1
    · exact hS k h1
    · exact hF.none_ h1⟩

/-- one letter more, of bytes of its own. -/
theorem net_push {tn te nb g gg cap n : Nat} {S : Nat → Prop} {v : Value} {M : List Lt} {wr W1 w2 : World} {bs rest : List _} {sp : Bool} (h1 : tn ≠ te) (h2 : tn ≠ 5) (h3 : te ≠ 5)
    (hN : NetIs wr tn te nb S v M) (hb : Below wr.heap.size wr W1) (hbl : Blk W1 g 5 (byts bs ++ rest).toArray) (hg : wr.heap.size ≤ g) (hn : n = bs.length) (hcl : n ≤ cap) (hcm : cap ≤ maxLen)
    {c2 : Nat} (hgrow : W1.grownBy w2 v.ownBlock) (hown : w2.ownsRow 0 te 2 (.slice (some ⟨gg, 0, none⟩) (M.length + 1) c2) (M.length + 1) (ltRow M ++ [.slice (some ⟨g, 0, none⟩) n cap, .bool sp]))
    (hat : v.ownBlock = some gg ∨ gg = W1.heap.size) :
    NetIs (w2.setCell ⟨nb, 0, none⟩ (.slice (some ⟨gg, 0, none⟩) (M.length + 1) c2)) tn te nb (fun k => S k ∨ k = g ∨ k = gg) (.slice (some ⟨gg, 0, none⟩) (M.length + 1) c2) (M ++ [⟨g, cap, bs, sp⟩]) ∧
    Nx wr S (w2.setCell ⟨nb, 0, none⟩ (.slice (some ⟨gg, 0, none⟩) (M.length + 1) c2)) (fun k => S k ∨ k = g ∨ k = gg) := by
  subst hn
  have hu1 : Upd wr W1 (fun _ => False) := Upd.of_below hb _
  have hN1 := hN.upd hu1 (fun _ _ h => h)
  have hrn : v.ownBlock ≠ some nb := own_ne hN1.row hN1.blk (Ne.symm h1)
  have hgn : v.ownBlock ≠ some g := own_ne hN1.row hbl h3
  have hnl := hN.blk.lt
  have hgl := hbl.lt
  have hggl : gg < w2.heap.size := own_ltb hown gg rfl
  obtain ⟨cur2, hgb⟩ := own_blk hown
  have hgs : g ≠ gg := Blk.ne_ (hbl.grown hgrow (Ne.symm hgn)) hgb (Ne.symm h3)
  have hfar : ∀ k, k ≠ nb → (w2.setCell ⟨nb, 0, none⟩ (.slice (some ⟨gg, 0, none⟩) (M.length + 1) c2)).heap[k]? = w2.heap[k]? := fun k hk => Below.heap_setCell _ _ _ _ hk
  have hggn : gg ≠ nb := by
    rcases hat with h | h
    · rintro rfl; exact hrn h
    · have := hb.size; omega
  have hsz : (w2.setCell ⟨nb, 0, none⟩ (.slice (some ⟨gg, 0, none⟩) (M.length + 1) c2)).heap.size = w2.heap.size := by simp [World.setCell]
  have hb2 : Blk w2 nb tn #[v] := hN1.blk.grown hgrow (Ne.symm hrn)
  have hgm : ∀ l ∈ M, l.g ≠ g := fun l hl => by have := hN.slo _ (hN.slt l hl); omega
  refine ⟨⟨?_, ?_, ?_, ?_, ?_, ?_, ?_, ?_⟩, ⟨?_, ?_⟩⟩
  · simpa using hb2.set_ 0 (.slice (some ⟨gg, 0, none⟩) (M.length + 1) c2)
  · have := own_upd (S := (· = nb)) hown (w' := w2.setCell ⟨nb, 0, none⟩ (.slice (some ⟨gg, 0, none⟩) (M.length + 1) c2)) ((Upd.refl w2 (· = nb)).setCell (p := ⟨nb, 0, none⟩) (.inl rfl) _) (fun k hk => by simp only [Value.ownBlock, Option.some.injEq] at hk; omega)
    rw [List.length_append]
    simpa [ltRow, Lt.cells] using this
  · intro l hl
    rcases List.mem_append.1 hl with hl | hl
    · obtain ⟨a1, a2, r, hbk⟩ := hN1.ok l hl
      have hne : v.ownBlock ≠ some l.g := own_ne hN1.row hbk h3
      exact ⟨a1, a2, r, (hfar _ (Blk.ne_ (hbk.grown hgrow (Ne.symm hne)) hb2 (Ne.symm h2))).trans (hbk.grown hgrow (Ne.symm hne))⟩
    · rw [List.mem_singleton.1 hl]
      exact ⟨hcl, hcm, rest, (hfar _ (by show g ≠ nb; omega)).trans (hbl.grown hgrow (Ne.symm hgn))⟩
  · rw [List.map_append, List.nodup_append]
    refine ⟨hN.nodup, by simp, ?_⟩
    intro a ha b hb e
    obtain ⟨l, hl, rfl⟩ := List.mem_map.1 ha
    simp at hb
    subst hb
    exact hgm l hl e
  · exact .inl hN.snb
  · intro k hk
    simp only [Value.ownBlock, Option.some.injEq] at hk
    exact .inr (.inr hk.symm)
  · intro l hl
    rcases List.mem_append.1 hl with hl | hl
    · exact .inl (hN.slt l hl)
    · rw [List.mem_singleton.1 hl]; exact .inr (.inl rfl)
  · intro k hk
    rw [hsz]
    have := hgrow.size
    have := hb.size
    rcases hk with hk | hk | hk
    · have := hN.slo k hk; omega
    · omega
    · omega
  · refine ((Upd.of_below hb S).grown hgrow (fun k hk => .inl (hN.srow k hk))).setCell (.inl hN.snb) _
  · intro k hk
    rcases hk with hk | hk | hk
    · exact .inl hk
    · exact .inr (by omega)
    · subst hk
      rcases hat with h | h
      · exact .inl (hN.srow _ h)
      · right; have := hb.size; omega

def SendRel (nb : Nat) (S : Nat → Prop) (M : List Lt) (bss : List (List UInt8)) (w : World) (K : Nat) (i : Value) (wr : World) : Prop :=
  ∃ k S' v' M', i = .int .i64 (k : Nat) ∧ k ≤ K ∧ NetIs wr 56 58 nb S' v' M' ∧ ab M' = ab M ++ (bss.take k).map (·, false) ∧ Nx w S wr S'

theorem ab_length (M : List Lt) : (ab M).length = M.length := by simp [ab]
set_option maxHeartbeats 400000 in
theorem send_any {H : PHeap} (nb : Nat) (S : Nat → Prop) (v : Value) (M : List Lt) (vl : Value) (bss : List (List UInt8)) (w : World) (hF : Fits w H) (hS : ∀ k, S k → H k = none)
    (hN : NetIs w 56 58 nb S v M) (hl : Sl (Kd.slice Kd.byte) H vl bss) (hM : M.length ≤ 4000) (hbs : ∀ b ∈ bss, b.length ≤ 140737488355328) :
    Calls Try.prog 10 #[.pointer (some ⟨nb, 0, none⟩), vl] w fun e w' => ∃ S' v' M', e = .returned (.int .i64 (min bss.length (4000 - M.length) : Nat)) ∧ NetIs w' 56 58 nb S' v' M' ∧
      ab M' = ab M ++ (bss.take (4000 - M.length)).map (·, false) ∧ Nx w S w' S' := by
  obtain ⟨A, c, rfl, hc, hmx⟩ := sl_len hl
  obtain ⟨B, d, rfl, hd, c0, f0, l0⟩ := hN.shape
  generalize hK : min bss.length (4000 - M.length) = K at *
  have hK1 : K ≤ bss.length := by omega
  have hK2 : K + M.length ≤ 4000 := by omega
  have hK3 : (bss.length ≤ 4000 - M.length ∧ K = bss.length) ∨ (4000 - M.length ≤ bss.length ∧ K = 4000 - M.length) := by omega
  have htk : bss.take (4000 - M.length) = bss.take K := by rw [← hK]; exact (List.take_eq_take_min.trans (by rw [Nat.min_comm]))
  rw [htk]
  have HK := Lib.hid hK; clear hK htk
  obtain ⟨i0, hi0, hz0, hz1, hz2⟩ := info_parts Try.infoLetter
  go_enter Try.func10, Try.ntmps10
  go_wp2_with fail
  all_goals
    go_loopw [22] (SendRel nb S M bss w K) (fun i _ => K - (intOf i).toNat)
    case atStart => exact ⟨0, S, _, M, rfl, Nat.zero_le _, hN, by simp, Nx.refl _ _⟩
    case round =>
      obtain ⟨k, S', v', M', rfl, hk, hN', hab, hx⟩ := hrel
      obtain ⟨B', d', rfl, hd', c0', f0', l0'⟩ := hN'.shape
      obtain ⟨hF', hS'⟩ := hx.out hF hS
      have hml : M'.length = M.length + k := by
        have := congrArg List.length hab
        simp only [ab_length, List.length_append, List.length_map, List.length_take] at this
        omega
      by_cases hlt : k < K
      · obtain ⟨ad, u, rfl, ⟨ub, hu1, hu⟩, hcell⟩ := sl_get1 rfl hl (i := k) (x := bss[k]) (List.getElem?_eq_getElem (by omega))
        simp only [List.cons.injEq, and_true] at hu1
        subst hu1
        have hcell0 := hcell wr hF'
        have hmb : M'.length < 4000 := by omega
        have HML := Lib.hid hml; clear hml
        have hrn : (Value.slice B' M'.length d').ownBlock ≠ some nb := own_ne hN'.row hN'.blk (by decide)
        go_wp2_with fail
        go_region_law
          (first
            | (go_simp; go_at_call 22; refine (like_any _ _ _ _ (by simp [hF', go_sem]) hu (hbs _ (List.getElem_mem _))).mono ?_; rintro e w1 ⟨g, rfl, hg, hbl, hbel⟩; obtain ⟨c1, f1⟩ := keep1 hbel (by simpa using l0') ⟨c0', f0'⟩; have l1 := World.block_lt_of_cell? _ _ c1)
            | (refine step_push (by rfl) (.tmp 30) (.tmp 33) 54 (by rfl) i0 _ 2 32 Try.underlying54 hi0 hz0 hz1 hz2 rfl (by omega) (by omega) (.slice B' M'.length d') M'.length (ltRow M') _ (by rfl) (by rfl) (by rfl) ?_ ?_ ?_ ?_
               · exact own_below (w := wr.drew) hN'.row hbel
               · simp [Value.oneCell']
               · omega
               intro gg cap w2 hown2 hgrow hat
               obtain ⟨c2, f2⟩ := keepG hgrow (Ne.symm hrn) (keepA ⟨c1, f1⟩ _)))
        all_goals
          have hbB : Below wr.heap.size wr w1 := ⟨hbel.os, hbel.tape, hbel.output, hbel.size, hbel.block⟩
          have hbl' : Blk w1 g 5 (byts bss[k] ++ []).toArray := by rw [List.append_nil]; exact hbl
          have HP := Lib.hid (net_push (sp := false) (bs := bss[k]) (n := bss[k].length) (cap := bss[k].length) (by decide) (by decide) (by decide) hN' (hbB.alloc hbB.size _) (hbl'.alloc _) hg rfl (Nat.le_refl _) (by have := hbs _ (List.getElem_mem (h := by omega) (n := k)); unfold maxLen; omega) hgrow hown2 (by simpa using hat))
          go_wp2
          refine ⟨⟨k + 1, _, _, _, by go_num, hlt, HP.out.1, ?_, hx.trans HP.out.2⟩, by simp [intOf]; omega⟩
          simp only [ab, List.map_append] at hab ⊢
          rw [hab, List.take_succ_eq_append_getElem (by omega), List.map_append, List.append_assoc]
          rfl
      · go_wp2_with fail
        go_ret
        have hkK : k = K := by omega
        subst hkK
        exact ⟨S', _, M', by simp; omega, hN', hab, hx⟩

end Go.Proofs.Ytmanpicmbeeceaa
