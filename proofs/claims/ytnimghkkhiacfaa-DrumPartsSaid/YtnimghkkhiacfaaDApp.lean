/- A drum: Append. -/
import Derived.Test.YtnimghkkhiacfaaDOps
import Derived.WalkArith
namespace Go.Proofs.Ytnimghkkhiacfaa.P
open Go.RowKit Go.Proofs.YtnimghkkhiacfaaW.PrintWords Go.Proofs.YtnimghkkhiacfaaW.PrintLast Go.Proofs.YtnimghkkhiacfaaW.PrintMore
/-- whose a block is behind an operation on file n: all new ones are n's. -/
def oN (a b : Nat) (n : Int) (o : Nat → Int) (k : Nat) : Int := if a ≤ k ∧ k < b then n else o k
theorem oN_old {a b : Nat} {n : Int} {o : Nat → Int} {k : Nat} (h : k < a) : oN a b n o k = o k := if_neg fun h' => by omega
theorem oN_new {a b : Nat} {n : Int} {o : Nat → Int} {k : Nat} (h : a ≤ k) (h2 : k < b) : oN a b n o k = n := if_pos ⟨h, h2⟩
theorem oN_of {a b : Nat} {n : Int} {o : Nat → Int} {k : Nat} (h : o k = n) : oN a b n o k = n := by unfold oN; split <;> simp_all
/-- the walk stops at an append. -/
theorem stop_append {P : Program} {ops : Array Oper} {rest : List Oper} {o : Oper} {a : Go.Act} {Q : Exit → Go.Act → World → Prop} {w : World} {xs : Array Operand} {ts : Array TypeId} (_ho : o.op = .call { callee := .builtin .append, args := xs, argTypes := ts })
    (h : RowKit.Hid (wpList P ops Q (o :: rest) a w)) : wpList P ops Q (o :: rest) a w := h.out
/-- what an operation on file n may turn. -/
def opS (w : World) (o : Nat → Int) (g mb : Nat) (n : Int) (k : Nat) : Prop := k = g ∨ k = mb ∨ o k = n ∨ w.heap.size ≤ k
theorem RowB.upd {w w' : World} {S : Nat → Prop} {b : Nat} {v : Value} {xs : List Int} (h : RowB w b v xs) (hu : Upd w w' S) (hs : ∀ k, v.ownBlock = some k → ¬ S k) : RowB w' b v xs := by
  obtain ⟨h0, h⟩ := h
  refine ⟨h0, ?_⟩
  rcases h with h | ⟨g, cap, cur, rfl, h1, h2, h3⟩
  · exact .inl h
  · refine .inr ⟨g, cap, cur, rfl, h1, ?_, h3⟩
    have hlt : g < w.heap.size := (Array.getElem?_eq_some_iff.1 h2).1
    exact (hu.block g hlt (hs g (by simp [Value.ownBlock]))).trans h2
theorem RowB.ge {w : World} {b : Nat} {v : Value} {xs : List Int} (h : RowB w b v xs) : ∀ k, v.ownBlock = some k → b ≤ k ∧ k < w.heap.size := by
  obtain ⟨h0, h⟩ := h
  intro k hk
  rcases h with ⟨rfl, _⟩ | ⟨g, cap, cur, rfl, h1, h2, h3⟩
  · simp [Value.ownBlock] at hk
  · simp [Value.ownBlock] at hk
    subst hk
    exact ⟨h1, (Array.getElem?_eq_some_iff.1 h2).1⟩
section
variable {w W : World} {o : Nat → Int} {g mb : Nat} {F : Files} {room : Nat} {left ops : Int} {dead : Bool}
/-- a file of a drum has turned. -/
theorem file_done (h : DrumIs w o g mb F room left dead ops) {fb : Int → Nat} (hfs : ∀ n x, F n = some x → FileAt w o n (fb n) x.1 x.2) {n : Int} (hn : 1 ≤ n ∧ n ≤ 1000) {x' : List Int × List Int} {fbn : Nat}
    (hu' : Upd w W (opS w o g mb n)) (hb : Blk W g 64 #[.map (some mb), .int .i64 (room - sumF (upF F n (some x'))), .int .i64 left, .bool dead, .int .i64 ops]) (hfit : sumF (upF F n (some x')) ≤ room)
    (hm : MI W mb (fun y => if y = n then some (.pointer (some ⟨fbn, 0, none⟩)) else ptrs F fb y)) (hf : FileAt W (oN w.heap.size W.heap.size n o) n fbn x'.1 x'.2) : Did w W o g mb (upF F n (some x')) room left dead ops := by
  have hu : Upd w W (fun k => k = g ∨ k = mb ∨ o k = n) := hu'.mono fun k hlt hk => by rcases hk with hk | hk | hk | hk; exact .inl hk; exact .inr (.inl hk); exact .inr (.inr hk); omega
  refine ⟨oN w.heap.size W.heap.size n o, ⟨hb, (oN_old h.glt).trans h.zg, (oN_old h.mlt).trans h.zm, fun k hk => ?_, fun m x hx => ?_, hfit, h.big, fun y => if y = n then fbn else fb y, ?_, fun m x hx => ?_⟩, fun k hk => oN_old hk, hu.mono fun k _ hk => ?_⟩
  · unfold oN at hk
    split at hk
    · omega
    · exact Nat.lt_of_lt_of_le (h.lt k hk) hu.size
  · by_cases e : m = n
    · subst e; exact hn
    · rw [upF_other F _ e] at hx; exact h.key m x hx
  · have e : ptrs (upF F n (some x')) (fun y => if y = n then fbn else fb y) = fun y => if y = n then some (.pointer (some ⟨fbn, 0, none⟩)) else ptrs F fb y := by
      funext y
      by_cases e : y = n
      · subst e; simp [ptrs, upF]
      · simp [ptrs, upF, e]
    rw [e]; exact hm
  · by_cases e : m = n
    · subst e
      rw [upF_same] at hx
      injection hx with hx
      subst hx
      simpa using hf
    · rw [upF_other F _ e] at hx
      simp only [e, if_false]
      have hk := h.key m x hx
      have h1 := (hfs m x hx).re (o' := oN w.heap.size W.heap.size n o) (fun k hk h => (oN_old hk).trans h)
      refine h1.upd hu (fun k hk hs => ?_)
      by_cases hlt : w.heap.size ≤ k ∧ k < W.heap.size
      · rw [oN_new hlt.1 hlt.2] at hk; exact e hk.symm
      · rw [show oN w.heap.size W.heap.size n o k = o k from if_neg hlt] at hk
        rcases hs with rfl | rfl | hs
        · have := h.zg; omega
        · have := h.zm; omega
        · exact e (hk.symm.trans hs)
  · rcases hk with hk | hk | hk
    · exact .inl hk
    · exact .inr (.inl hk)
    · exact .inr (.inr (by omega))
/-- a box of a variable that is none of a drum's blocks. -/
def Boxed (w : World) (o : Nat → Int) (g mb b : Nat) (v : Value) : Prop := w.cell? ⟨b, 0, none⟩ = some v ∧ ¬ mine o g mb b
theorem Boxed.upd {w' : World} {b : Nat} {v : Value} (h : Boxed w o g mb b v) (hu : Upd w w' (mine o g mb)) : Boxed w' o g mb b v :=
  ⟨(World.cell?_of_block (w := w) (hu.block b (World.block_lt_of_cell? w ⟨b, 0, none⟩ h.1) h.2)).trans h.1, h.2⟩
theorem append1_full (h : DrumIs w o g mb F room left dead ops) (n : Int) {A : Option Addr} {c : Nat} {l : List (List Int)} (hC : Kd.C kBs w A l.length l) (hl : l.flatten.length ≤ 1099511627776) {bB bD bN : Nat} (h1 : Boxed w o g mb bB (.slice A l.length c)) (h2 : Boxed w o g mb bD (dptr g)) (h3 : Boxed w o g mb bN (.int .i64 n))
    (hf : room < sumF F + l.flatten.length) : Calls Try.prog 31 #[dptr bB, dptr bD, dptr bN] w fun e w' => e = .returned (.int .i64 5) ∧ Did w w' o g mb F room left dead ops := by
  have hcat := concat_any A c l w hC hl
  have HCAT := Lib.hid hcat; clear hcat hC
  have H := Lib.hid h
  have hb := h.blk
  have hc1 : w.cell? ⟨g, 1, none⟩ = some (.int .i64 (room - sumF F)) := hb.cell 1
  have hx1 := h1.1
  generalize l.flatten = p at *
  generalize hfr : ((room : Int) - sumF F) = fr at *
  have d1 : decide (fr < (p.length : Int)) = true := decide_eq_true (by omega)
  clear h hb hfr h1 h3
  go_enter Try.func31, Try.ntmps31
  go_wp2_with fail
  refine HCAT.out.mono ?_
  rintro e w1 ⟨v, rfl, ho, hb⟩
  obtain ⟨A1, c1, rfl, _⟩ := own_reads ho
  have hx2 := pw_cell_below hb h2.1
  have hc1' := pw_cell_below hb hc1
  clear ho
  go_wp2
  go_ret
  exact ⟨rfl, o, H.out.below hb, fun _ _ => rfl, Upd.of_below hb _⟩
def getF (F : Files) (n : Int) : List Int × List Int := (F n).getD ([], [])
set_option maxHeartbeats 1000000 in
set_option maxRecDepth 100000 in
theorem append1_ok (h : DrumIs w o g mb F room left dead ops) {n : Int} (hn : 1 ≤ n ∧ n ≤ 1000) {A : Option Addr} {c : Nat} {l : List (List Int)} (hC : Kd.C kBs w A l.length l) (hl : l.flatten.length ≤ 1099511627776) {bB bD bN : Nat} (h1 : Boxed w o g mb bB (.slice A l.length c)) (h2 : Boxed w o g mb bD (dptr g)) (h3 : Boxed w o g mb bN (.int .i64 n))
    (hf : sumF F + l.flatten.length ≤ room) : Calls Try.prog 31 #[dptr bB, dptr bD, dptr bN] w fun e w' => e = .returned (.int .i64 0) ∧ Did w w' o g mb (upF F n (some ((getF F n).1, (getF F n).2 ++ l.flatten))) room left dead ops := by
  have hcat := concat_any A c l w hC hl
  have HCAT := Lib.hid hcat; clear hcat hC
  have H := Lib.hid h
  obtain ⟨fb, hm, hfs⟩ := h.ex
  have HM := Lib.hid hm; have HFS := Lib.hid hfs; clear hm hfs
  have hb := h.blk
  have hc1 : w.cell? ⟨g, 1, none⟩ = some (.int .i64 (room - sumF F)) := hb.cell 1
  have HB := Lib.hid hb
  have hx1 := h1.1
  generalize l.flatten = p at *
  have hbig := h.big
  have H1 := Lib.hid h1; have H2 := Lib.hid h2; have H3 := Lib.hid h3
  clear h hb h1 h2 h3
  go_enter Try.func31, Try.ntmps31
  go_wp2_with fail
  refine HCAT.out.mono ?_
  rintro e w1 ⟨v, rfl, ho, hb⟩
  obtain ⟨A1, c1, rfl, hrd⟩ := own_reads ho
  have hB1 := HB.out.below hb HB.out.lt
  have hu1 : Upd w w1 (fun _ => False) := Upd.of_below hb _
  have hx2 := pw_cell_below hb H2.out.1
  have hc1' : w1.cell? ⟨g, 1, none⟩ = some (.int .i64 (room - sumF F)) := hB1.cell 1
  have hf1 := hB1.frozen 1
  obtain ⟨w2, hw2⟩ : ∃ w2, w1.setCell ⟨g, 1, none⟩ (.int .i64 (room - sumF F - p.length)) = w2 := ⟨_, rfl⟩
  have hu2 : Upd w1 w2 (· = g) := hw2 ▸ (Upd.refl w1 (· = g)).setCell (.inl rfl) _
  have hB2 : Blk w2 g 64 #[.map (some mb), .int .i64 (room - sumF F - p.length), .int .i64 left, .bool dead, .int .i64 ops] := hw2 ▸ hB1.set_ 1 (.int .i64 (room - sumF F - p.length))
  have huw : Upd w w2 (opS w o g mb n) := (hu1.mono fun _ _ h => h.elim).trans (hu2.mono fun k _ h => .inl h)
  have hug : Upd w w2 (· = g) := (hu1.mono fun _ _ h => h.elim).trans hu2
  have hum : Upd w w2 (mine o g mb) := (hu1.mono fun _ _ h => h.elim).trans (hu2.mono fun k _ h => .inl h)
  have hx2' := (H2.out.upd hum).1
  have hx3' := (H3.out.upd hum).1
  have hc0 : w2.cell? ⟨g, 0, none⟩ = some (.map (some mb)) := hB2.cell 0
  have hm2 : MI w2 mb (ptrs F fb) := (HM.out.below hb).upd hu2 (fun e => H.out.ne e.symm)
  have ho2 : RowB w2 w.heap.size (.slice A1 p.length c1) p := ho.upd hu2 (fun k hk e => by have := (ho.ge k hk).1; have := H.out.glt; omega)
  have hnw : wfI n := WalkArith.wf_i64 (by omega)
  have hlk := hm2.look hnw
  have d1 : decide ((room : Int) - sumF F < (p.length : Int)) = false := decide_eq_false (by omega)
  have e1 : wrap64 ((room : Int) - sumF F - p.length) = (room : Int) - sumF F - p.length := w64 (by omega) (by omega)
  have HM2 := Lib.hid hm2; have HB2 := Lib.hid hB2; have HUW := Lib.hid huw; have HUM := Lib.hid hum; have HUG := Lib.hid hug
  have HO2 := Lib.hid ho2
  have hz1 := hb.size; have hz2 := hu2.size
  clear ho2 hm2 hB2 huw hum hug ho hrd hB1 hu1 hu2 hb
  cases hFn : F n with
  | none =>
    have hl1 : (ptrs F fb n) = none := by simp [ptrs, hFn]
    rw [hl1] at hlk
    have HLK := Lib.hid hlk
    simp only [Option.getD_none, Option.isSome_none] at hlk
    have hld := (HM2.out.below (below_drew (Below.refl _ w2))).look hnw
    rw [hl1] at hld
    simp only [Option.getD_none, Option.isSome_none] at hld
    go_upto_region 5 with fail
    refine wp_region_held (S := (fun W => W.cell? ⟨bD, 0, none⟩ = some (dptr g) ∧ W.cell? ⟨g, 0, none⟩ = some (.map (some mb)) ∧ W.cell? ⟨bN, 0, none⟩ = some (.int .i64 n) ∧ (Instr.lookup 62 (.map (some mb)) (.int .i64 n) true).run Try.prog W = .ok (.tuple #[.pointer none, .bool false]) W)) (by kernel_rfl) ?_
    simp only [List.size_toArray, List.length_cons, List.length_nil, Nat.zero_add, Nat.reduceAdd]
    have hHeld : ((fun W => W.cell? ⟨bD, 0, none⟩ = some (dptr g) ∧ W.cell? ⟨g, 0, none⟩ = some (.map (some mb)) ∧ W.cell? ⟨bN, 0, none⟩ = some (.int .i64 n) ∧ (Instr.lookup 62 (.map (some mb)) (.int .i64 n) true).run Try.prog W = .ok (.tuple #[.pointer none, .bool false]) W)) w2.drew := ⟨hx2', hc0, hx3', hld⟩
    refine wpAnyH_take (i := 0) (v := ?_) rfl (by kernel_rfl) (by kernel_rfl) (by kernel_rfl) (fun _ _ _ h => h) (Or.inl ⟨by rfl, ?_⟩) (by assumption) ?_
    rotate_left
    · (intro w hSw; (try dsimp only at hSw); go_split_ands; go_simp; try with_reducible rfl)
    try simp only [List.getElem_toArray, List.getElem_cons_succ, List.getElem_cons_zero, Act.put, List.setIfInBounds_toArray, List.set_cons_zero, List.set_cons_succ]
    refine wpAnyH_take (i := 1) (v := ?_) rfl (by kernel_rfl) (by kernel_rfl) (by kernel_rfl) (fun _ _ _ h => h) (Or.inl ⟨by rfl, ?_⟩) (by assumption) ?_
    rotate_left
    · (intro w hSw; (try dsimp only at hSw); go_split_ands; go_simp; try with_reducible rfl)
    try simp only [List.getElem_toArray, List.getElem_cons_succ, List.getElem_cons_zero, Act.put, List.setIfInBounds_toArray, List.set_cons_zero, List.set_cons_succ]
    refine wpAnyH_take (i := 2) (v := ?_) rfl (by kernel_rfl) (by kernel_rfl) (by kernel_rfl) (fun _ _ _ h => h) (Or.inl ⟨by rfl, ?_⟩) (by assumption) ?_
    rotate_left
    · (intro w hSw; (try dsimp only at hSw); go_split_ands; go_simp; try with_reducible rfl)
    try simp only [List.getElem_toArray, List.getElem_cons_succ, List.getElem_cons_zero, Act.put, List.setIfInBounds_toArray, List.set_cons_zero, List.set_cons_succ]
    refine wpAnyH_take (i := 3) (v := ?_) rfl (by kernel_rfl) (by kernel_rfl) (by kernel_rfl) (fun _ _ _ h => h) (Or.inl ⟨by rfl, ?_⟩) (by assumption) ?_
    rotate_left
    · (intro w hSw; (try dsimp only at hSw); go_split_ands; go_simp; try with_reducible rfl)
    try simp only [List.getElem_toArray, List.getElem_cons_succ, List.getElem_cons_zero, Act.put, List.setIfInBounds_toArray, List.set_cons_zero, List.set_cons_succ]
    refine wpAnyH_take (i := 4) (v := ?_) rfl (by kernel_rfl) (by kernel_rfl) (by kernel_rfl) (fun _ _ _ h => h) (Or.inl ⟨by rfl, ?_⟩) (by assumption) ?_
    rotate_left
    · (intro w hSw; (try dsimp only at hSw); go_split_ands; go_simp; try with_reducible rfl)
    try simp only [List.getElem_toArray, List.getElem_cons_succ, List.getElem_cons_zero, Act.put, List.setIfInBounds_toArray, List.set_cons_zero, List.set_cons_succ]
    refine wpAnyH_take (i := 5) (v := ?_) rfl (by kernel_rfl) (by kernel_rfl) (by kernel_rfl) (fun _ _ _ h => h) (Or.inl ⟨by rfl, ?_⟩) (by assumption) ?_
    rotate_left
    · (intro w hSw; (try dsimp only at hSw); go_split_ands; go_simp; try with_reducible rfl)
    try simp only [List.getElem_toArray, List.getElem_cons_succ, List.getElem_cons_zero, Act.put, List.setIfInBounds_toArray, List.set_cons_zero, List.set_cons_succ]
    refine wpAnyH_take (i := 6) (v := ?_) rfl (by kernel_rfl) (by kernel_rfl) (by kernel_rfl) (fun _ _ _ h => h) (Or.inl ⟨by rfl, ?_⟩) (by assumption) ?_
    rotate_left
    · (intro w hSw; (try dsimp only at hSw); go_split_ands; go_simp; try with_reducible rfl)
    try simp only [List.getElem_toArray, List.getElem_cons_succ, List.getElem_cons_zero, Act.put, List.setIfInBounds_toArray, List.set_cons_zero, List.set_cons_succ]
    refine wpAnyH_take (i := 7) (v := ?_) rfl (by kernel_rfl) (by kernel_rfl) (by kernel_rfl) (fun _ _ _ h => h) (Or.inl ⟨by rfl, ?_⟩) (by assumption) ?_
    rotate_left
    · (intro w hSw; (try dsimp only at hSw); go_split_ands; go_simp; try with_reducible rfl)
    try simp only [List.getElem_toArray, List.getElem_cons_succ, List.getElem_cons_zero, Act.put, List.setIfInBounds_toArray, List.set_cons_zero, List.set_cons_succ]
    refine wpAnyH_take (i := 8) (v := ?_) rfl (by kernel_rfl) (by kernel_rfl) (by kernel_rfl) (fun _ _ _ h => h) (Or.inl ⟨by rfl, ?_⟩) (by assumption) ?_
    rotate_left
    · (intro w hSw; (try dsimp only at hSw); go_split_ands; go_simp; try with_reducible rfl)
    try simp only [List.getElem_toArray, List.getElem_cons_succ, List.getElem_cons_zero, Act.put, List.setIfInBounds_toArray, List.set_cons_zero, List.set_cons_succ]
    refine wpAnyH_take (i := 9) (v := ?_) rfl (by kernel_rfl) (by kernel_rfl) (by kernel_rfl) (fun _ _ _ h => h) (Or.inl ⟨by rfl, ?_⟩) (by assumption) ?_
    rotate_left
    · (intro w hSw; (try dsimp only at hSw); go_split_ands; go_simp; try with_reducible rfl)
    try simp only [List.getElem_toArray, List.getElem_cons_succ, List.getElem_cons_zero, Act.put, List.setIfInBounds_toArray, List.set_cons_zero, List.set_cons_succ]
    refine wpAnyH_take (i := 10) (v := ?_) rfl (by kernel_rfl) (by kernel_rfl) (by kernel_rfl) (fun _ _ _ h => h) (Or.inl ⟨by rfl, ?_⟩) (by assumption) ?_
    rotate_left
    · (intro w hSw; (try dsimp only at hSw); go_split_ands; go_simp; try with_reducible rfl)
    try simp only [List.getElem_toArray, List.getElem_cons_succ, List.getElem_cons_zero, Act.put, List.setIfInBounds_toArray, List.set_cons_zero, List.set_cons_succ]
    refine wpAnyH_done (by kernel_rfl) ?_ _
    have hB2d : Blk w2.drew g 64 #[.map (some mb), .int .i64 (room - sumF F - p.length), .int .i64 left, .bool dead, .int .i64 ops] := HB2.out
    obtain ⟨w3, hw3⟩ : ∃ w3, w2.drew.alloc (.cells #[.slice none 0 0, .slice none 0 0] 70) = w3 := ⟨_, rfl⟩
    have hb3 : Below w2.heap.size w2 w3 := hw3 ▸ (below_drew (Below.refl _ w2)).alloc (Nat.le_refl _) _
    have hF3 : Blk w3 w2.heap.size 70 #[.slice none 0 0, .slice none 0 0] := hw3 ▸ Blk.new w2.drew 70 _
    have hz3 : w3.heap.size = w2.heap.size + 1 := by rw [← hw3]; simp
    have hm3 := (HM2.out.below hb3).below (below_drew (Below.refl _ w3))
    obtain ⟨w4, hput, hm4, hu4⟩ := hm3.put hnw (by omega) (by omega) hl1 (dptr w2.heap.size)
    have hx24 := pw_cell_below hb3 hx2'
    have hx34 := pw_cell_below hb3 hx3'
    have hc04 := pw_cell_below hb3 hc0
    have hu24 : Upd w2 w4 (· = mb) := ((Upd.of_below hb3 _).trans ((Upd.refl w3 (· = mb)).drew)).trans hu4
    have HU24 := Lib.hid hu24; have HM4 := Lib.hid hm4; have HF3 := Lib.hid hF3; have HU4 := Lib.hid hu4
    clear hm3 hm4 hu24 hF3 hu4 hb3 hx2' hx3' hc0 hld hlk hHeld
    go_upto_region 8 with fail
    refine wp_region_last_held (S := (fun W => W.cell? ⟨bD, 0, none⟩ = some (dptr g) ∧ W.cell? ⟨g, 0, none⟩ = some (.map (some mb)) ∧ W.cell? ⟨bN, 0, none⟩ = some (.int .i64 n))) (l := [_, _, _, _, _, _]) (o := _) (by kernel_rfl) (by kernel_rfl) ?_
    simp only [List.size_toArray, List.length_cons, List.length_nil, Nat.zero_add, Nat.reduceAdd]
    have hHeld : ((fun W => W.cell? ⟨bD, 0, none⟩ = some (dptr g) ∧ W.cell? ⟨g, 0, none⟩ = some (.map (some mb)) ∧ W.cell? ⟨bN, 0, none⟩ = some (.int .i64 n))) w3.drew := ⟨hx24, hc04, hx34⟩
    refine wpAnyH_take (i := 0) (v := ?_) rfl (by kernel_rfl) (by kernel_rfl) (by kernel_rfl) (fun _ _ _ h => h) (Or.inl ⟨by rfl, ?_⟩) (by assumption) ?_
    rotate_left
    · (intro w hSw; (try dsimp only at hSw); go_split_ands; go_simp; try with_reducible rfl)
    try simp only [List.getElem_toArray, List.getElem_cons_succ, List.getElem_cons_zero, Act.put, List.setIfInBounds_toArray, List.set_cons_zero, List.set_cons_succ]
    refine wpAnyH_take (i := 1) (v := ?_) rfl (by kernel_rfl) (by kernel_rfl) (by kernel_rfl) (fun _ _ _ h => h) (Or.inl ⟨by rfl, ?_⟩) (by assumption) ?_
    rotate_left
    · (intro w hSw; (try dsimp only at hSw); go_split_ands; go_simp; try with_reducible rfl)
    try simp only [List.getElem_toArray, List.getElem_cons_succ, List.getElem_cons_zero, Act.put, List.setIfInBounds_toArray, List.set_cons_zero, List.set_cons_succ]
    refine wpAnyH_take (i := 2) (v := ?_) rfl (by kernel_rfl) (by kernel_rfl) (by kernel_rfl) (fun _ _ _ h => h) (Or.inl ⟨by rfl, ?_⟩) (by assumption) ?_
    rotate_left
    · (intro w hSw; (try dsimp only at hSw); go_split_ands; go_simp; try with_reducible rfl)
    try simp only [List.getElem_toArray, List.getElem_cons_succ, List.getElem_cons_zero, Act.put, List.setIfInBounds_toArray, List.set_cons_zero, List.set_cons_succ]
    refine wpAnyH_take (i := 3) (v := ?_) rfl (by kernel_rfl) (by kernel_rfl) (by kernel_rfl) (fun _ _ _ h => h) (Or.inl ⟨by rfl, ?_⟩) (by assumption) ?_
    rotate_left
    · (intro w hSw; (try dsimp only at hSw); go_split_ands; go_simp; try with_reducible rfl)
    try simp only [List.getElem_toArray, List.getElem_cons_succ, List.getElem_cons_zero, Act.put, List.setIfInBounds_toArray, List.set_cons_zero, List.set_cons_succ]
    refine wpAnyH_take (i := 4) (v := ?_) rfl (by kernel_rfl) (by kernel_rfl) (by kernel_rfl) (fun _ _ _ h => h) (Or.inl ⟨by rfl, ?_⟩) (by assumption) ?_
    rotate_left
    · (intro w hSw; (try dsimp only at hSw); go_split_ands; go_simp; try with_reducible rfl)
    try simp only [List.getElem_toArray, List.getElem_cons_succ, List.getElem_cons_zero, Act.put, List.setIfInBounds_toArray, List.set_cons_zero, List.set_cons_succ]
    refine wpAnyH_take (i := 5) (v := ?_) rfl (by kernel_rfl) (by kernel_rfl) (by kernel_rfl) (fun _ _ _ h => h) (Or.inl ⟨by rfl, ?_⟩) (by assumption) ?_
    rotate_left
    · (intro w hSw; (try dsimp only at hSw); go_split_ands; go_simp; try with_reducible rfl)
    try simp only [List.getElem_toArray, List.getElem_cons_succ, List.getElem_cons_zero, Act.put, List.setIfInBounds_toArray, List.set_cons_zero, List.set_cons_succ]
    refine wpAnyH_done (by kernel_rfl) ?_ _
    refine lastPost_wp ?_
    have hBX := (HF3.out.drew).upd HU4.out (fun e => by have := HM2.out.lt; omega)
    have hgX := HB2.out.upd HU24.out H.out.ne
    have hmX : MI w4 mb (fun y => if y = n then some (.pointer (some ⟨w2.heap.size, 0, none⟩)) else ptrs F fb y) := HM4.out
    have huX := HUW.out.trans (HU24.out.mono fun k _ hk => .inr (.inl hk))
    have hrX := own_reads' (HO2.out.upd HU24.out (fun k hk e => by have := (HO2.out.ge k hk).1; have := H.out.mlt; omega))
    have hofb : o w2.heap.size = n ∨ w.heap.size ≤ w2.heap.size := .inr (by omega)
    have hor : ∀ k, (Value.slice none 0 0).ownBlock = some k → (o k = n ∨ w.heap.size ≤ k) ∧ k ≠ w2.heap.size := fun k hk => by cases hk
    have hos : ∀ k, (Value.slice none 0 0).ownBlock = some k → (o k = n ∨ w.heap.size ≤ k) ∧ k ≠ w2.heap.size := fun k hk => by cases hk
    have hsr : ∀ k, (Value.slice none 0 0).ownBlock = some k → (Value.slice none 0 0).ownBlock ≠ some k := fun k hk => by cases hk
    have hRs := Row.nil w4
    have hRr := Row.nil w4
    have hbl : (([] : List Int).length + p.length) * 1 ≤ 140737488355328 := by simp; omega
    have hc5 : World.cell? w4 ⟨w2.heap.size, 1, none⟩ = some (.slice none 0 0) := hBX.cell 1
    have hne5 : some w2.heap.size ≠ (Value.slice none 0 0).ownBlock := fun e => (hor w2.heap.size e.symm).2 rfl
    have hneg : some g ≠ (Value.slice none 0 0).ownBlock := fun e => by
      have h1 := (hor g e.symm).1
      have h2 := H.out.zg; have h3 := H.out.glt
      omega
    have hnem : some mb ≠ (Value.slice none 0 0).ownBlock := fun e => by
      have h1 := (hor mb e.symm).1
      have h2 := H.out.zm; have h3 := H.out.mlt
      omega
    have HRR := Lib.hid hRr; have HBX := Lib.hid hBX; have HNE := Lib.hid hne5; have HGX := Lib.hid hgX; have HMX := Lib.hid hmX; have HUX := Lib.hid huX; have HRX := Lib.hid hrX; have HRS := Lib.hid hRs
    clear hRr hBX hne5 hgX hmX huX hrX hRs
    go_wp2_with (first | ((with_reducible refine gate_builtin (b := .append) (xs := #[.tmp 48, .tmp 49]) rfl ?_); at_builtin; refine stop_append rfl ?_))
    refine Lib.hid ?_
    refine print_append_row (w0 := w4) 0 rfl (.tmp 48) (.tmp 49) 22 5 .u8 1 rfl Try.underlying22 infoB (by decide) (.slice none 0 0) [] p A1 p.length c1 rfl rfl HRR.out HRX.out (Below.refl _ _) (Nat.zero_le _) hbl ?_
    intro v5 w5 hO5 hb5 hg5 hat5
    rw [List.nil_append] at hO5
    obtain ⟨A5, c5, rfl, _⟩ := own_reads hO5
    have hB5 := HBX.out.grown hg5 HNE.out
    have hz5 := hB5.frozen 1
    have hc6 : w5.cell? ⟨w2.heap.size, 1, none⟩ = some (.slice none 0 0) := hB5.cell 1
    have HB5 := Lib.hid hB5; have HO5 := Lib.hid hO5; have HG5 := Lib.hid hg5; have HAT5 := Lib.hid hat5; have HQ := Lib.hid (And.intro hor (And.intro hos (And.intro hsr (And.intro hf (And.intro hbig (And.intro hneg (And.intro hnem (And.intro hofb (And.intro hz1 (And.intro hz2 hz3))))))))))
    clear hB5 hO5 hb5 hg5 hat5 hor hos hsr hbl hf hl hbig hneg hnem hofb hc5 d1 e1 hput hx1 hx2 hc1 hc1' hf1 hx24 hx34 hc04 hw2 hw3 hz1 hz2 hz3
    go_wp2
    go_ret
    generalize Value.slice A5 p.length c5 = v5 at *
    have hB5 := HB5.out; have hO5 := HO5.out; have hg5 := HG5.out; have hat5 := HAT5.out
    obtain ⟨hor, hos, hsr, hf, hbig, hneg, hnem, hofb, hz1, hz2, hz3⟩ := HQ.out
    refine ⟨rfl, ?_⟩
    have hu5 := Upd.of_grown hg5 (S := fun k => (Value.slice none 0 0).ownBlock = some k) (fun k hk => hk)
    have hu6 := (Upd.refl w5 (· = w2.heap.size)).setCell (p := ⟨w2.heap.size, 1, none⟩) (.inl rfl) v5
    have hs6 : (w5.setCell ⟨w2.heap.size, 1, none⟩ v5).heap.size = w5.heap.size := by simp [World.setCell]
    have hsz := HUX.out.size
    have hsz5 := hu5.size
    have hfl := hB5.lt
    have hv5 : ∀ k, v5.ownBlock = some k → (o k = n ∨ w.heap.size ≤ k) ∧ k ≠ w2.heap.size := fun k hk => by
      rcases hat5 with e | ⟨b, e, hbb⟩
      · exact hor k (e ▸ hk)
      · rw [e] at hk
        injection hk with hk
        have := HBX.out.lt
        exact ⟨.inr (by omega), by omega⟩
    have hO5' : Row w5 v5 p := hO5
    have hvl := hO5'.lt
    have hSS : ∀ k, (Value.slice none 0 0).ownBlock = some k → o k = n ∨ w.heap.size ≤ k := fun k hk => (hor k hk).1
    have hbg := (HGX.out.upd hu5 (fun e => hneg e.symm)).upd hu6 (fun e => by rcases hofb with h | h <;> (have := H.out.zg; have := H.out.glt; subst e; omega))
    have hmm := (HMX.out.upd hu5 (fun e => hnem e.symm)).upd hu6 (fun e => by rcases hofb with h | h <;> (have := H.out.zm; have := H.out.mlt; subst e; omega))
    have hlo : ∀ k, o k = n ∨ w.heap.size ≤ k → k < w5.heap.size → oN w.heap.size w5.heap.size n o k = n := fun k hk hlt => by
      rcases hk with hk | hk
      · exact oN_of hk
      · exact oN_new hk hlt
    have hrs := HRS.out.lt
    have hgf : getF F n = ([], []) := by unfold getF; rw [hFn]; rfl
    rw [hgf]
    show Did w _ o g mb (upF F n (some ([], p))) room left dead ops
    have hsum := sumF_up F (n := n) (by omega) (by omega) (some ([], p))
    rw [hFn] at hsum
    simp only [szF, List.length_nil, Nat.zero_add, Nat.add_zero] at hsum
    refine file_done H.out HFS.out hn ((HUX.out.trans (hu5.mono fun k _ hk => .inr (.inr (hSS k hk)))).trans (hu6.mono fun k _ hk => .inr (.inr (hk ▸ hofb)))) ?_ (by omega) hmm ?_
    · rw [show ((room : Int) - (sumF (upF F n (some ([], p))) : Nat)) = (room : Int) - sumF F - p.length by omega]
      exact hbg
    · rw [hs6]
      refine ⟨hlo w2.heap.size hofb hfl, (.slice none 0 0), v5, ?_, (HRS.out.upd hu5 (fun k hk => hsr k hk)).upd hu6 (fun k hk e => (hos k hk).2 e), hO5'.upd hu6 (fun k hk e => (hv5 k hk).2 e), fun k hk => ⟨hlo k (hos k hk).1 (Nat.lt_of_lt_of_le (hrs k hk) hu5.size), (hos k hk).2⟩, fun k hk => ⟨hlo k (hv5 k hk).1 (hvl k hk), (hv5 k hk).2⟩, fun k hk e => ?_⟩
      · exact hB5.set_ 1 v5
      · rcases hat5 with e5 | ⟨b, e5, hbb⟩
        · exact hsr k hk (e5 ▸ e)
        · rw [e5] at e
          injection e with e
          have := hrs k hk
          omega
  | some x =>
    obtain ⟨s, r⟩ := x
    have hl1 : (ptrs F fb n) = some (.pointer (some ⟨fb n, 0, none⟩)) := by simp [ptrs, hFn]
    have hld := (HM2.out.below (below_drew (Below.refl _ w2))).look hnw
    rw [hl1] at hld hlk
    simp only [Option.getD_some, Option.isSome_some] at hld
    have hF2 := (HFS.out n (s, r) hFn).upd HUG.out (fun k hk e => by have := H.out.zg; subst e; omega)
    obtain ⟨hofn, vs, vr, hBf, hRs, hRr, hos0, hor0, hsr⟩ := hF2
    obtain ⟨Ar, cr, rfl, _⟩ := hRr.reads
    have hszr := szF_le F (n := n) (by omega) (by omega)
    rw [hFn] at hszr
    simp only [szF] at hszr
    have HFX := Lib.hid (And.intro hofn (And.intro hBf (And.intro hRs (And.intro hRr (And.intro hos0 (And.intro hor0 hsr))))))
    clear hofn hBf hRs hRr hos0 hor0 hsr hlk
    go_upto_region 5 with fail
    refine wp_region_held (S := (fun W => W.cell? ⟨bD, 0, none⟩ = some (dptr g) ∧ W.cell? ⟨g, 0, none⟩ = some (.map (some mb)) ∧ W.cell? ⟨bN, 0, none⟩ = some (.int .i64 n) ∧ (Instr.lookup 62 (.map (some mb)) (.int .i64 n) true).run Try.prog W = .ok (.tuple #[.pointer (some ⟨fb n, 0, none⟩), .bool true]) W)) (by kernel_rfl) ?_
    simp only [List.size_toArray, List.length_cons, List.length_nil, Nat.zero_add, Nat.reduceAdd]
    have hHeld : ((fun W => W.cell? ⟨bD, 0, none⟩ = some (dptr g) ∧ W.cell? ⟨g, 0, none⟩ = some (.map (some mb)) ∧ W.cell? ⟨bN, 0, none⟩ = some (.int .i64 n) ∧ (Instr.lookup 62 (.map (some mb)) (.int .i64 n) true).run Try.prog W = .ok (.tuple #[.pointer (some ⟨fb n, 0, none⟩), .bool true]) W)) w2.drew := ⟨hx2', hc0, hx3', hld⟩
    refine wpAnyH_take (i := 0) (v := ?_) rfl (by kernel_rfl) (by kernel_rfl) (by kernel_rfl) (fun _ _ _ h => h) (Or.inl ⟨by rfl, ?_⟩) (by assumption) ?_
    rotate_left
    · (intro w hSw; (try dsimp only at hSw); go_split_ands; go_simp; try with_reducible rfl)
    try simp only [List.getElem_toArray, List.getElem_cons_succ, List.getElem_cons_zero, Act.put, List.setIfInBounds_toArray, List.set_cons_zero, List.set_cons_succ]
    refine wpAnyH_take (i := 1) (v := ?_) rfl (by kernel_rfl) (by kernel_rfl) (by kernel_rfl) (fun _ _ _ h => h) (Or.inl ⟨by rfl, ?_⟩) (by assumption) ?_
    rotate_left
    · (intro w hSw; (try dsimp only at hSw); go_split_ands; go_simp; try with_reducible rfl)
    try simp only [List.getElem_toArray, List.getElem_cons_succ, List.getElem_cons_zero, Act.put, List.setIfInBounds_toArray, List.set_cons_zero, List.set_cons_succ]
    refine wpAnyH_take (i := 2) (v := ?_) rfl (by kernel_rfl) (by kernel_rfl) (by kernel_rfl) (fun _ _ _ h => h) (Or.inl ⟨by rfl, ?_⟩) (by assumption) ?_
    rotate_left
    · (intro w hSw; (try dsimp only at hSw); go_split_ands; go_simp; try with_reducible rfl)
    try simp only [List.getElem_toArray, List.getElem_cons_succ, List.getElem_cons_zero, Act.put, List.setIfInBounds_toArray, List.set_cons_zero, List.set_cons_succ]
    refine wpAnyH_take (i := 3) (v := ?_) rfl (by kernel_rfl) (by kernel_rfl) (by kernel_rfl) (fun _ _ _ h => h) (Or.inl ⟨by rfl, ?_⟩) (by assumption) ?_
    rotate_left
    · (intro w hSw; (try dsimp only at hSw); go_split_ands; go_simp; try with_reducible rfl)
    try simp only [List.getElem_toArray, List.getElem_cons_succ, List.getElem_cons_zero, Act.put, List.setIfInBounds_toArray, List.set_cons_zero, List.set_cons_succ]
    refine wpAnyH_take (i := 4) (v := ?_) rfl (by kernel_rfl) (by kernel_rfl) (by kernel_rfl) (fun _ _ _ h => h) (Or.inl ⟨by rfl, ?_⟩) (by assumption) ?_
    rotate_left
    · (intro w hSw; (try dsimp only at hSw); go_split_ands; go_simp; try with_reducible rfl)
    try simp only [List.getElem_toArray, List.getElem_cons_succ, List.getElem_cons_zero, Act.put, List.setIfInBounds_toArray, List.set_cons_zero, List.set_cons_succ]
    refine wpAnyH_take (i := 5) (v := ?_) rfl (by kernel_rfl) (by kernel_rfl) (by kernel_rfl) (fun _ _ _ h => h) (Or.inl ⟨by rfl, ?_⟩) (by assumption) ?_
    rotate_left
    · (intro w hSw; (try dsimp only at hSw); go_split_ands; go_simp; try with_reducible rfl)
    try simp only [List.getElem_toArray, List.getElem_cons_succ, List.getElem_cons_zero, Act.put, List.setIfInBounds_toArray, List.set_cons_zero, List.set_cons_succ]
    refine wpAnyH_take (i := 6) (v := ?_) rfl (by kernel_rfl) (by kernel_rfl) (by kernel_rfl) (fun _ _ _ h => h) (Or.inl ⟨by rfl, ?_⟩) (by assumption) ?_
    rotate_left
    · (intro w hSw; (try dsimp only at hSw); go_split_ands; go_simp; try with_reducible rfl)
    try simp only [List.getElem_toArray, List.getElem_cons_succ, List.getElem_cons_zero, Act.put, List.setIfInBounds_toArray, List.set_cons_zero, List.set_cons_succ]
    refine wpAnyH_take (i := 7) (v := ?_) rfl (by kernel_rfl) (by kernel_rfl) (by kernel_rfl) (fun _ _ _ h => h) (Or.inl ⟨by rfl, ?_⟩) (by assumption) ?_
    rotate_left
    · (intro w hSw; (try dsimp only at hSw); go_split_ands; go_simp; try with_reducible rfl)
    try simp only [List.getElem_toArray, List.getElem_cons_succ, List.getElem_cons_zero, Act.put, List.setIfInBounds_toArray, List.set_cons_zero, List.set_cons_succ]
    refine wpAnyH_take (i := 8) (v := ?_) rfl (by kernel_rfl) (by kernel_rfl) (by kernel_rfl) (fun _ _ _ h => h) (Or.inl ⟨by rfl, ?_⟩) (by assumption) ?_
    rotate_left
    · (intro w hSw; (try dsimp only at hSw); go_split_ands; go_simp; try with_reducible rfl)
    try simp only [List.getElem_toArray, List.getElem_cons_succ, List.getElem_cons_zero, Act.put, List.setIfInBounds_toArray, List.set_cons_zero, List.set_cons_succ]
    refine wpAnyH_take (i := 9) (v := ?_) rfl (by kernel_rfl) (by kernel_rfl) (by kernel_rfl) (fun _ _ _ h => h) (Or.inl ⟨by rfl, ?_⟩) (by assumption) ?_
    rotate_left
    · (intro w hSw; (try dsimp only at hSw); go_split_ands; go_simp; try with_reducible rfl)
    try simp only [List.getElem_toArray, List.getElem_cons_succ, List.getElem_cons_zero, Act.put, List.setIfInBounds_toArray, List.set_cons_zero, List.set_cons_succ]
    refine wpAnyH_take (i := 10) (v := ?_) rfl (by kernel_rfl) (by kernel_rfl) (by kernel_rfl) (fun _ _ _ h => h) (Or.inl ⟨by rfl, ?_⟩) (by assumption) ?_
    rotate_left
    · (intro w hSw; (try dsimp only at hSw); go_split_ands; go_simp; try with_reducible rfl)
    try simp only [List.getElem_toArray, List.getElem_cons_succ, List.getElem_cons_zero, Act.put, List.setIfInBounds_toArray, List.set_cons_zero, List.set_cons_succ]
    refine wpAnyH_done (by kernel_rfl) ?_ _
    obtain ⟨hofn, hBf, hRs, hRr, hos0, hor0, hsr⟩ := HFX.out
    have hBX : Blk w2.drew (fb n) 70 #[vs, .slice Ar r.length cr] := hBf
    have hgX : Blk w2.drew g 64 #[.map (some mb), .int .i64 (room - sumF F - p.length), .int .i64 left, .bool dead, .int .i64 ops] := HB2.out
    have hmX : MI w2.drew mb (fun y => if y = n then some (.pointer (some ⟨fb n, 0, none⟩)) else ptrs F fb y) := by
      have e : (fun y => if y = n then some (.pointer (some ⟨fb n, 0, none⟩)) else ptrs F fb y) = ptrs F fb := by
        funext y
        by_cases e : y = n
        · subst e; rw [if_pos rfl, hl1]
        · rw [if_neg e]
      rw [e]; exact HM2.out.below (below_drew (Below.refl _ w2))
    have huX : Upd w w2.drew (opS w o g mb n) := HUW.out.drew
    have hrX : ReadsInt w2.drew .u8 A1 p.length p := own_reads' HO2.out
    have hofb : o (fb n) = n ∨ w.heap.size ≤ fb n := .inl hofn
    have hor : ∀ k, (Value.slice Ar r.length cr).ownBlock = some k → (o k = n ∨ w.heap.size ≤ k) ∧ k ≠ fb n := fun k hk => ⟨.inl (hor0 k hk).1, (hor0 k hk).2⟩
    have hos : ∀ k, vs.ownBlock = some k → (o k = n ∨ w.heap.size ≤ k) ∧ k ≠ fb n := fun k hk => ⟨.inl (hos0 k hk).1, (hos0 k hk).2⟩
    have hRs : Row w2.drew vs s := hRs
    have hRr : Row w2.drew (.slice Ar r.length cr) r := hRr
    have hbl : (r.length + p.length) * 1 ≤ 140737488355328 := by omega
    clear hofn hos0 hor0 hBf hHeld hld hx2' hx3' hc0
    have hc5 : World.cell? w2.drew ⟨(fb n), 1, none⟩ = some (.slice Ar r.length cr) := hBX.cell 1
    have hne5 : some (fb n) ≠ (Value.slice Ar r.length cr).ownBlock := fun e => (hor (fb n) e.symm).2 rfl
    have hneg : some g ≠ (Value.slice Ar r.length cr).ownBlock := fun e => by
      have h1 := (hor g e.symm).1
      have h2 := H.out.zg; have h3 := H.out.glt
      omega
    have hnem : some mb ≠ (Value.slice Ar r.length cr).ownBlock := fun e => by
      have h1 := (hor mb e.symm).1
      have h2 := H.out.zm; have h3 := H.out.mlt
      omega
    have HRR := Lib.hid hRr; have HBX := Lib.hid hBX; have HNE := Lib.hid hne5; have HGX := Lib.hid hgX; have HMX := Lib.hid hmX; have HUX := Lib.hid huX; have HRX := Lib.hid hrX; have HRS := Lib.hid hRs
    clear hRr hBX hne5 hgX hmX huX hrX hRs
    go_wp2_with (first | ((with_reducible refine gate_builtin (b := .append) (xs := #[.tmp 48, .tmp 49]) rfl ?_); at_builtin; refine stop_append rfl ?_))
    refine Lib.hid ?_
    refine print_append_row (w0 := w2.drew) 0 rfl (.tmp 48) (.tmp 49) 22 5 .u8 1 rfl Try.underlying22 infoB (by decide) (.slice Ar r.length cr) r p A1 p.length c1 rfl rfl HRR.out HRX.out (Below.refl _ _) (Nat.zero_le _) hbl ?_
    intro v5 w5 hO5 hb5 hg5 hat5
    obtain ⟨A5, c5, rfl, _⟩ := own_reads hO5
    simp only [List.length_append] at hO5 hat5 ⊢
    have hB5 := HBX.out.grown hg5 HNE.out
    have hz5 := hB5.frozen 1
    have hc6 : w5.cell? ⟨(fb n), 1, none⟩ = some (.slice Ar r.length cr) := hB5.cell 1
    have HB5 := Lib.hid hB5; have HO5 := Lib.hid hO5; have HG5 := Lib.hid hg5; have HAT5 := Lib.hid hat5; have HQ := Lib.hid (And.intro hor (And.intro hos (And.intro hsr (And.intro hf (And.intro hbig (And.intro hneg (And.intro hnem (And.intro hofb (And.intro hz1 hz2)))))))))
    clear hB5 hO5 hb5 hg5 hat5 hor hos hsr hbl hf hl hbig hneg hnem hofb hc5 d1 e1 hx1 hx2 hc1 hc1' hf1 hw2 hz1 hz2
    go_wp2
    go_ret
    generalize Value.slice A5 (r.length + p.length) c5 = v5 at *
    have hB5 := HB5.out; have hO5 := HO5.out; have hg5 := HG5.out; have hat5 := HAT5.out
    obtain ⟨hor, hos, hsr, hf, hbig, hneg, hnem, hofb, hz1, hz2⟩ := HQ.out
    refine ⟨rfl, ?_⟩
    have hu5 := Upd.of_grown hg5 (S := fun k => (Value.slice Ar r.length cr).ownBlock = some k) (fun k hk => hk)
    have hu6 := (Upd.refl w5 (· = (fb n))).setCell (p := ⟨(fb n), 1, none⟩) (.inl rfl) v5
    have hs6 : (w5.setCell ⟨(fb n), 1, none⟩ v5).heap.size = w5.heap.size := by simp [World.setCell]
    have hsz := HUX.out.size
    have hsz5 := hu5.size
    have hfl := hB5.lt
    have hv5 : ∀ k, v5.ownBlock = some k → (o k = n ∨ w.heap.size ≤ k) ∧ k ≠ (fb n) := fun k hk => by
      rcases hat5 with e | ⟨b, e, hbb⟩
      · exact hor k (e ▸ hk)
      · rw [e] at hk
        injection hk with hk
        have := HBX.out.lt
        exact ⟨.inr (by omega), by omega⟩
    have hO5' : Row w5 v5 (r ++ p) := by unfold Row; rw [List.length_append]; exact hO5
    have hvl := hO5'.lt
    have hSS : ∀ k, (Value.slice Ar r.length cr).ownBlock = some k → o k = n ∨ w.heap.size ≤ k := fun k hk => (hor k hk).1
    have hbg := (HGX.out.upd hu5 (fun e => hneg e.symm)).upd hu6 (fun e => by rcases hofb with h | h <;> (have := H.out.zg; have := H.out.glt; subst e; omega))
    have hmm := (HMX.out.upd hu5 (fun e => hnem e.symm)).upd hu6 (fun e => by rcases hofb with h | h <;> (have := H.out.zm; have := H.out.mlt; subst e; omega))
    have hlo : ∀ k, o k = n ∨ w.heap.size ≤ k → k < w5.heap.size → oN w.heap.size w5.heap.size n o k = n := fun k hk hlt => by
      rcases hk with hk | hk
      · exact oN_of hk
      · exact oN_new hk hlt
    have hrs := HRS.out.lt
    have hgf : getF F n = (s, r) := by unfold getF; rw [hFn]; rfl
    rw [hgf]
    show Did w _ o g mb (upF F n (some (s, r ++ p))) room left dead ops
    have hsum := sumF_up F (n := n) (by omega) (by omega) (some (s, r ++ p))
    rw [hFn] at hsum
    simp only [szF, List.length_append] at hsum
    refine file_done H.out HFS.out hn ((HUX.out.trans (hu5.mono fun k _ hk => .inr (.inr (hSS k hk)))).trans (hu6.mono fun k _ hk => .inr (.inr (hk ▸ hofb)))) ?_ (by omega) hmm ?_
    · rw [show ((room : Int) - (sumF (upF F n (some (s, r ++ p))) : Nat)) = (room : Int) - sumF F - p.length by omega]
      exact hbg
    · rw [hs6]
      refine ⟨hlo (fb n) hofb hfl, vs, v5, ?_, (HRS.out.upd hu5 (fun k hk => hsr k hk)).upd hu6 (fun k hk e => (hos k hk).2 e), hO5'.upd hu6 (fun k hk e => (hv5 k hk).2 e), fun k hk => ⟨hlo k (hos k hk).1 (Nat.lt_of_lt_of_le (hrs k hk) hu5.size), (hos k hk).2⟩, fun k hk => ⟨hlo k (hv5 k hk).1 (hvl k hk), (hv5 k hk).2⟩, fun k hk e => ?_⟩
      · exact hB5.set_ 1 v5
      · rcases hat5 with e5 | ⟨b, e5, hbb⟩
        · exact hsr k hk (e5 ▸ e)
        · rw [e5] at e
          injection e with e
          have := hrs k hk
          omega
end
end Go.Proofs.Ytnimghkkhiacfaa.P
