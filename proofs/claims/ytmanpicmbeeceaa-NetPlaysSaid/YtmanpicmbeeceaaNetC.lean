/- slices.Delete of one letter; Take. -/
import Derived.Test.YtmanpicmbeeceaaNetB
namespace Go.Proofs.Ytmanpicmbeeceaa
open Go.RowKit
open Kd (Sl)

theorem Try.zeroLetter (w : World) : (zeroValue 58).run Try.prog w = .ok (.agg #[.slice none 0 0, .bool false]) w := by kernel_rfl
set_option maxHeartbeats 400000 in
theorem delete_any (g n cap : Nat) (i : Nat) (cur : Array Value) (w : World) (hi : i < n) (hn : n ≤ cap) (hc : cap ≤ 9223372036854775807) (hb : Blk w g 58 cur) (hs : cur.size = cap * 2) (h1 : ∀ u ∈ cur.toList.take (n * 2), u.oneCell' = true) :
    Calls Try.prog 24 #[.slice (some ⟨g, 0, none⟩) n cap, .int .i64 i, .int .i64 ((i : Int) + 1)] w fun e w' => e = .returned (.slice (some ⟨g, 0, none⟩) (n - 1) cap) ∧ Upd w w' (· = g) ∧
      ∃ cur', Blk w' g 58 cur' ∧ cur'.size = cap * 2 ∧ cur'.toList.take ((n - 1) * 2) = cur.toList.take (i * 2) ++ (cur.toList.take (n * 2)).drop ((i + 1) * 2) := by
  obtain ⟨i0, hi0, hz0, hz1, hz2⟩ := info_parts Try.infoLetter
  go_enter Try.func24, Try.ntmps24
  go_wp2
  have hi1 : i + 1 ≤ n := hi
  have hic : i ≤ cap := by omega
  have hp1 : (i : Int) + 1 ≤ (n : Int) := by omega
  have hw1 : IntKind.i64.wrap ((i : Int) + 1) = (i : Int) + 1 := IntWalk.i64_in _ (by omega)
  have hp0 : (0 : Int) ≤ (i : Int) + 1 := by omega
  have hp2 : ((i : Int) + 1).toNat = i + 1 := by omega
  have hA : (0 < n - (i + 1) → (if cap = i + 1 then some (⟨g, 0, none⟩ : Addr) else some ⟨g, (i + 1) * 2, none⟩) = some ⟨g, (i + 1) * 2, none⟩) ∧ ∃ ad, (if cap = i + 1 then some (⟨g, 0, none⟩ : Addr) else some ⟨g, (i + 1) * 2, none⟩) = some ad := by
    by_cases h : cap = i + 1
    · rw [if_pos h]; exact ⟨fun _ => by omega, _, rfl⟩
    · rw [if_neg h]; exact ⟨fun _ => rfl, _, rfl⟩
  have HA := Lib.hid hA; clear hA
  have H1 : Hid (∀ u ∈ (cur.toList.drop ((i + 1) * 2)).take ((n - (i + 1)) * 2), u.oneCell' = true) := fun u hu => h1 u (by
    have e : (cur.toList.take (n * 2)).drop ((i + 1) * 2) = (cur.toList.drop ((i + 1) * 2)).take ((n - (i + 1)) * 2) := by rw [List.drop_take]; congr 1; omega
    rw [← e] at hu; exact List.mem_of_mem_drop hu)
  go_region_law (first
    | (refine step_cut (by rfl) (.tmp 22) (.tmp 25) 54 (by rfl) 58 i0 2 Try.underlying54 hi0 hz1 g i cap cur _ (n - (i + 1)) _ ((i + 1) * 2) (by rfl) (by rfl) (hb.drew) hs HA.out (by omega) (by omega) H1.out ?_
       intro w2 hb2 hu2))
  obtain ⟨hl, htk⟩ := cut_list cur.toList cap n i hi1 hn (by simpa using hs)
  generalize hL : (cur.toList.take (i * 2) ++ (cur.toList.drop ((i + 1) * 2)).take ((n - (i + 1)) * 2) ++ cur.toList.drop (i * 2 + (n - (i + 1)) * 2)) = L at *
  have hoff : (i + (n - (i + 1))) = n - 1 := by omega
  have hm0 : 0 < n - (i + (n - (i + 1))) := by omega
  have hf0 : (i + (n - (i + 1))) * 2 + (n - (i + (n - (i + 1)))) * (Value.agg #[.slice none 0 0, .bool false]).cells.size ≤ L.toArray.size := by
    show _ + _ * 2 ≤ _
    rw [List.size_toArray, hl]; omega
  have HM0 := Lib.hid hm0
  have HF0 := Lib.hid hf0
  have HOFF := Lib.hid hoff
  have HT := Lib.hid htk
  have HL := Lib.hid hl
  clear hL hoff htk hl hm0 hf0
  have hu2' : Upd w w2 (· = g) := ⟨hu2.os, hu2.tape, hu2.output, hu2.size, hu2.block⟩
  go_wp2_with (refine wpList_clear' rfl (.tmp 31) 54 rfl 58 _ Try.underlying54 Try.zeroLetter g _ _ _ L.toArray rfl hb2 (by decide) HM0.out HF0.out ?_; intro w3 zs hzs hb3 hu3)
  all_goals
    have hz2 : zs.length = 2 := by rw [hzs]; show _ * 2 = 2; have := HOFF.out; omega
    clear hzs
    go_wp2
    go_ret
    refine ⟨ret_slice HOFF.out, hu2'.trans hu3, _, hb3, ?_, ?_⟩
    · have := HL.out; have := HOFF.out
      simp [hz2]; omega
    · rw [HOFF.out, List.append_assoc, List.take_append_of_le_length (by simp; have := HL.out; omega)]
      simpa [List.take_take] using HT.out

theorem ltRow_append (A B : List Lt) : ltRow (A ++ B) = ltRow A ++ ltRow B := by simp [ltRow]
theorem ltRow_take (M : List Lt) (i : Nat) : ltRow (M.take i) = (ltRow M).take (i * 2) := by
  rcases Nat.le_total i M.length with h | h
  · conv => rhs; rw [← List.take_append_drop i M, ltRow_append]
    rw [List.take_left' (by rw [ltRow_length, List.length_take]; omega)]
  · rw [List.take_of_length_le h, List.take_of_length_le (by rw [ltRow_length]; omega)]
theorem ltRow_drop (M : List Lt) (i : Nat) : ltRow (M.drop i) = (ltRow M).drop (i * 2) := by
  rcases Nat.le_total i M.length with h | h
  · conv => rhs; rw [← List.take_append_drop i M, ltRow_append]
    rw [List.drop_left' (by rw [ltRow_length, List.length_take]; omega)]
  · rw [List.drop_of_length_le h, List.drop_of_length_le (by rw [ltRow_length]; omega)]; rfl
theorem ltRow_get (M : List Lt) (i : Nat) (l : Lt) (h : M[i]? = some l) : (ltRow M)[i * 2]? = some (.slice (some ⟨l.g, 0, none⟩) l.bs.length l.cap) ∧ (ltRow M)[i * 2 + 1]? = some (.bool l.sp) := by
  have e : M.drop i = l :: M.drop (i + 1) := by
    rw [List.drop_eq_getElem?_toList_append, h]; rfl
  have e2 : (ltRow M).drop (i * 2) = l.cells ++ (ltRow (M.drop (i + 1))) := by rw [← ltRow_drop, e]; rfl
  constructor
  · have := congrArg (·[0]?) e2; simpa [Lt.cells] using this
  · have := congrArg (·[1]?) e2; simpa [Lt.cells] using this
theorem ltRow_one (M : List Lt) : ∀ u ∈ ltRow M, u.oneCell' = true := by
  intro u hu
  simp only [ltRow, List.mem_flatMap, Lt.cells] at hu
  obtain ⟨l, _, hu⟩ := hu
  simp at hu
  rcases hu with rfl | rfl <;> rfl
/-- a net that is not empty: its row. -/
theorem NetIs.some_ {w : World} {tn te nb : Nat} {S : Nat → Prop} {v : Value} {M : List Lt} (h : NetIs w tn te nb S v M) (hp : 0 < M.length) :
    ∃ g cap cur, v = .slice (some ⟨g, 0, none⟩) M.length cap ∧ Blk w g te cur ∧ M.length ≤ cap ∧ cap ≤ 9223372036854775807 ∧ cur.size = cap * 2 ∧ cur.toList.take (M.length * 2) = ltRow M ∧ S g := by
  rcases h.row.2 with ⟨_, h0⟩ | ⟨g, cap, cur, e, _, hg, h1, h2, h3, h4⟩
  · omega
  · subst e
    exact ⟨g, cap, cur, rfl, hg, h1, by unfold maxLen at h2; omega, h3, h4, h.srow g rfl⟩
theorem row_cell {w : World} {te g n i : Nat} {cur : Array Value} {M : List Lt} {u : Value} (hb : Blk w g te cur) (ht : cur.toList.take (n * 2) = ltRow M) (hu : (ltRow M)[i]? = some u) : w.cell? ⟨g, i, none⟩ = some u := by
  rw [hb.cell]
  rw [← ht, List.getElem?_take] at hu
  split at hu
  · simpa using hu
  · cases hu

/-- one letter taken out. -/
theorem net_del {w w1 : World} {tn te nb g cap i : Nat} {S : Nat → Prop} {M : List Lt} {cur' : Array Value} (h1 : tn ≠ te) (h2 : tn ≠ 5) (h3 : te ≠ 5)
    (hN : NetIs w tn te nb S (.slice (some ⟨g, 0, none⟩) M.length cap) M) (hi : i < M.length) (hu : Upd w w1 (· = g)) (hb : Blk w1 g te cur') (hs : cur'.size = cap * 2) (hcap : M.length ≤ cap) (hcm : cap ≤ maxLen)
    (ht : cur'.toList.take ((M.length - 1) * 2) = ltRow (M.eraseIdx i)) :
    NetIs (w1.setCell ⟨nb, 0, none⟩ (.slice (some ⟨g, 0, none⟩) (M.length - 1) cap)) tn te nb S (.slice (some ⟨g, 0, none⟩) (M.length - 1) cap) (M.eraseIdx i) ∧
    Nx w S (w1.setCell ⟨nb, 0, none⟩ (.slice (some ⟨g, 0, none⟩) (M.length - 1) cap)) S ∧ (∀ l ∈ M, LtOk (w1.setCell ⟨nb, 0, none⟩ (.slice (some ⟨g, 0, none⟩) (M.length - 1) cap)) l) := by
  obtain ⟨cur, hg0⟩ := own_blk hN.row
  have hgn : nb ≠ g := hN.blk.ne_ hg0 h1
  have hb1 : Blk w1 nb tn _ := hN.blk.upd hu hgn
  have hU : Upd w (w1.setCell ⟨nb, 0, none⟩ (.slice (some ⟨g, 0, none⟩) (M.length - 1) cap)) S := (hu.mono (T := S) (fun k _ hk => by subst hk; exact hN.srow _ rfl)).setCell (.inl hN.snb) _
  have hlen : (M.eraseIdx i).length = M.length - 1 := List.length_eraseIdx_of_lt hi
  have hok : ∀ l ∈ M, LtOk (w1.setCell ⟨nb, 0, none⟩ (.slice (some ⟨g, 0, none⟩) (M.length - 1) cap)) l := fun l hl => by
    obtain ⟨a1, a2, r, hbk⟩ := hN.ok l hl
    exact ⟨a1, a2, r, (hbk.upd hu (hbk.ne_ hg0 (Ne.symm h3))).far (hbk.ne_ hN.blk (Ne.symm h2)) _⟩
  refine ⟨⟨?_, ⟨?_, .inr ⟨g, cap, cur', ?_⟩⟩, ?_, ?_, hN.snb, ?_, ?_, ?_⟩, ⟨hU, fun k hk => .inl hk⟩, hok⟩
  · simpa using hb1.set_ 0 (.slice (some ⟨g, 0, none⟩) (M.length - 1) cap)
  · rw [ltRow_length]
  · rw [hlen]
    exact ⟨rfl, Nat.zero_le _, hb.far (Ne.symm hgn) _, by omega, hcm, hs, ht⟩
  · exact fun l hl => hok l (List.mem_of_mem_eraseIdx hl)
  · exact hN.nodup.sublist ((List.eraseIdx_sublist M i).map _)
  · intro k hk; simp only [Value.ownBlock, Option.some.injEq] at hk; subst hk; exact hN.srow _ rfl
  · exact fun l hl => hN.slt l (List.mem_of_mem_eraseIdx hl)
  · exact fun k hk => Nat.lt_of_lt_of_le (hN.slo k hk) hU.size
end Go.Proofs.Ytmanpicmbeeceaa
