/- what the claim's row stands on, part 4. -/
import Derived.Test.YtgmlenpcchhmbaaGreatZs3
import Derived.Test.YtgmlenpcchhmbaaGreatZs2
section
set_option linter.unusedVariables false
set_option linter.unusedSimpArgs false
namespace Go.Proofs.YtgmlenpcchhmbaaGreat.P
open Go.RowKit Go.Proofs.YtgmlenpcchhmbaaGreatW.PrintWords Go.Proofs.YtgmlenpcchhmbaaGreatW.PrintLast Go.Proofs.YtgmlenpcchhmbaaGreatW.PrintMore
section
variable {w : World} {g ab : Nat} {xs xs' : List Int} {A : Option Addr} {n c : Nat} {x : ByteArray} {v0 : Value} {older : List PanicEntry}
theorem seeT_blind (h : EyeIs w g ab xs true) (f : Fn) (fi ca : Array Value) : Calls Tryz.prog 96 #[ptr g, .func f fi ca] w fun e w' => e = .returned (.string ⟨#[]⟩) ∧ Below w.heap.size w w' := by
  obtain ⟨A, c, hB, hc, hF⟩ := h.ex
  have hc1 : w.cell? ⟨g, 1, none⟩ = some (.bool true) := hB.cell 1
  obtain ⟨w1, hw1⟩ : ∃ w1, (w.alloc (.cells #[ptr g] 80)).alloc (.cells #[.string ⟨#[]⟩] 9) = w1 := ⟨_, rfl⟩
  have hb1 : Below w.heap.size w w1 := hw1 ▸ ((Below.refl _ _).alloc (Nat.le_refl _) _).alloc (by simp) _
  have h0 : w1.cell? ⟨w.heap.size, 0, none⟩ = some (ptr g) := hw1 ▸ ((Blk.new w 80 #[ptr g]).alloc _).cell 0
  have hx : Blk w1 (w.heap.size + 1) 9 #[.string ⟨#[]⟩] := by
    have := Blk.new (w.alloc (.cells #[ptr g] 80)) 9 #[.string ⟨#[]⟩]
    rw [hw1] at this
    simpa using this
  have hx0 : w1.cell? ⟨w.heap.size + 1, 0, none⟩ = some (.string ⟨#[]⟩) := hx.cell 0
  have hxz := hx.frozen 0
  have hc1' := pw_cell_below hb1 hc1
  have HX := Lib.hid hx
  clear h hB hF hx
  go_enter_defers Tryz.func96, Tryz.ntmps96
  go_wp2
  have hxs : (w1.setCell ⟨w.heap.size + 1, 0, none⟩ (.string ⟨#[]⟩)).cell? ⟨w.heap.size + 1, 0, none⟩ = some (.string ⟨#[]⟩) := (HX.out.set_ 0 (.string ⟨#[]⟩)).cell 0
  simp [bodyPostD, Leaves, results, Tryz.results96, go_sem, hxs]
  exact hb1.setCell (p := ⟨w.heap.size + 1, 0, none⟩) (Nat.le_succ _) _
theorem seeT1_idle (bw bx be : Nat) (w : World) : CallsD Tryz.prog 139 #[ptr bw, ptr bx, ptr be] .returning w fun e u' w' => e = .returned (.tuple #[]) ∧ u' = .returning ∧ w' = w := by
  refine callsD_of_wpS Tryz.func139 rfl fun c₀ cs hu => ?_
  apply wpS_seq
  apply wpS_region
  simp [wpOpsS, go_sem, recoverD, hu, Tryz.ntmps139, Exit.thenS]
  apply wpS_seq
  apply wpS_region
  simp [wpOpsS, go_sem, Exit.thenS]
  refine wpS_cond (t := false) (by simp [Act.eval, Array.replicate]) ?_;simp only [Bool.false_eq_true, if_false];refine wpS_of_wp (wp_skip ?_)
  cases c₀
  simp_all [bodyPostS, results, Tryz.results139]
set_option maxRecDepth 100000 in
theorem seeT1_catch (bw bx be : Nat) (w : World) (hw : w.cell? ⟨bw, 0, none⟩ = some (.slice A n c)) (hx : Blk w bx 9 #[.string x]) (he : w.cell? ⟨be, 0, none⟩ = some (ptr g)) (hg : Blk w g 137 #[v0, .bool false]) :
    CallsD Tryz.prog 139 #[ptr bw, ptr bx, ptr be] (.panicking ({ v := .iface 170 (.agg #[]), recovered := false } :: older)) w fun e u' w' => e = .returned (.tuple #[]) ∧ u' = .panicking ({ v := .iface 170 (.agg #[]), recovered := true } :: older) ∧ Caught w w' g bx (.slice A n c) (.string ⟨#[]⟩) 9 := by
  have hgx : g ≠ bx := hg.ne_ hx (by decide)
  refine callsD_of_wpS Tryz.func139 rfl fun c₀ cs hu => ?_
  apply wpS_seq
  apply wpS_region
  simp [wpOpsS, go_sem, recoverD, hu, Tryz.ntmps139, Exit.thenS, rep23]
  apply wpS_seq
  apply wpS_region
  simp [wpOpsS, go_sem, Exit.thenS]
  refine wpS_cond (t := true) (by simp [Act.eval, Array.replicate]) ?_;simp only [if_true];refine wpS_of_wp ?_
  obtain ⟨w1, hw1⟩ : ∃ w1, w.alloc (.cells #[] 170) = w1 := ⟨_, rfl⟩
  have hb1 : Below w.heap.size w w1 := hw1 ▸ (Below.refl _ _).alloc (Nat.le_refl _) _
  have hw' := pw_cell_below hb1 hw
  have he' := pw_cell_below hb1 he
  have hx1 := hx.below hb1 hx.lt
  have hg1 := hg.below hb1 hg.lt
  obtain ⟨w2, hw2⟩ : ∃ w2, w1.setCell ⟨bx, 0, none⟩ (.string ⟨#[]⟩) = w2 := ⟨_, rfl⟩
  have hu2 : Upd w1 w2 (· = bx) := hw2 ▸ (Upd.refl w1 (· = bx)).setCell (p := ⟨bx, 0, none⟩) (.inl rfl) _
  have hx2 : Blk w2 bx 9 #[.string ⟨#[]⟩] := hw2 ▸ hx1.set_ 0 (.string ⟨#[]⟩)
  have hg2 := hg1.upd hu2 hgx
  obtain ⟨w3, hw3⟩ : ∃ w3, w2.setCell ⟨g, 0, none⟩ (.slice A n c) = w3 := ⟨_, rfl⟩
  have hu3 : Upd w2 w3 (· = g) := hw3 ▸ (Upd.refl w2 (· = g)).setCell (p := ⟨g, 0, none⟩) (.inl rfl) _
  have hg3 : Blk w3 g 137 #[.slice A n c, .bool false] := hw3 ▸ hg2.set_ 0 (.slice A n c)
  obtain ⟨w4, hw4⟩ : ∃ w4, w3.setCell ⟨g, 1, none⟩ (.bool true) = w4 := ⟨_, rfl⟩
  have hu4 : Upd w3 w4 (· = g) := hw4 ▸ (Upd.refl w3 (· = g)).setCell (p := ⟨g, 1, none⟩) (.inl rfl) _
  have hg4 : Blk w4 g 137 #[.slice A n c, .bool true] := hw4 ▸ hg3.set_ 1 (.bool true)
  have hx4 := (hx2.upd hu3 hgx.symm).upd hu4 hgx.symm
  have hC : Caught w w4 g bx (.slice A n c) (.string ⟨#[]⟩) 9 := ⟨(((Upd.of_below hb1 _).trans (hu2.mono fun _ _ h => .inr h)).trans (hu3.mono fun _ _ h => .inl h)).trans (hu4.mono fun _ _ h => .inl h), hg4, hx4⟩
  have HC := Lib.hid hC
  have hxc : w1.cell? ⟨bx, 0, none⟩ = some (.string x) := hx1.cell 0
  have hxz := hx1.frozen 0
  have hgc : w2.cell? ⟨g, 0, none⟩ = some v0 := hg2.cell 0
  have hgz := hg2.frozen 0
  have hgc3 : w3.cell? ⟨g, 1, none⟩ = some (.bool false) := hg3.cell 1
  have hgz3 := hg3.frozen 1
  have HU := Lib.hid hu
  clear hu hx hg hb1 hw he hx1 hg1 hu2 hx2 hg2 hu3 hg3 hu4 hg4 hx4 hC hgx;have hta := sight_assert
  go_wp2_with fail
  have hu := HU.out
  cases c₀
  simp_all [bodyPostS, results, Tryz.results139]
  exact HC.out
set_option maxRecDepth 100000 in
theorem seeT_ok (h : EyeIs w g ab xs false) (gf : Nat) (caps : Array Value) (eg : ∀ args w, (callFunc gf args).run Tryz.prog w = .ok (.enter gf args) w) (v : ByteArray)
    (hf : ∀ W, EyeIs W g ab xs false → Below w.heap.size w W → Calls Tryz.prog gf caps W fun e w' => e = .returned (.string v) ∧ EyeIs w' g ab xs' false ∧ Upd W w' (· = g)) :
    Calls Tryz.prog 96 #[ptr g, .func (.func gf) #[] caps] w fun e w' => e = .returned (.string v) ∧ EyeIs w' g ab xs' false ∧ Upd w w' (· = g) := by
  obtain ⟨A, c, hB, hc, hF⟩ := h.ex
  obtain ⟨w1, hw1⟩ : ∃ w1, (w.alloc (.cells #[ptr g] 80)).alloc (.cells #[.string ⟨#[]⟩] 9) = w1 := ⟨_, rfl⟩
  have hb1 : Below w.heap.size w w1 := hw1 ▸ ((Below.refl _ _).alloc (Nat.le_refl _) _).alloc (by simp) _
  have h0 : w1.cell? ⟨w.heap.size, 0, none⟩ = some (ptr g) := hw1 ▸ ((Blk.new w 80 #[ptr g]).alloc _).cell 0
  have hx : Blk w1 (w.heap.size + 1) 9 #[.string ⟨#[]⟩] := by
    have := Blk.new (w.alloc (.cells #[ptr g] 80)) 9 #[.string ⟨#[]⟩]
    rw [hw1] at this
    simpa using this
  have hB1 := hB.below hb1 hB.lt
  have hc0 : w1.cell? ⟨g, 0, none⟩ = some (.slice A xs.length c) := hB1.cell 0
  have hc1 : w1.cell? ⟨g, 1, none⟩ = some (.bool false) := hB1.cell 1
  obtain ⟨w2, hw2⟩ : ∃ w2, w1.alloc (.cells #[.slice A xs.length c] 23) = w2 := ⟨_, rfl⟩
  have hb2 : Below w.heap.size w w2 := hw2 ▸ hb1.alloc hb1.size _
  have hx2 : Blk w2 (w.heap.size + 1) 9 #[.string ⟨#[]⟩] := hw2 ▸ hx.alloc _
  have hcl := hf w2 (h.below hb2) hb2
  have hlt := h.lt
  have HCL := Lib.hid hcl; have HX := Lib.hid (And.intro hx2 (And.intro hb2 (And.intro h.old hlt)))
  have hmf : ∀ (fn : Fn) (first cap : Array Value) (w : World), (Instr.makeFunc fn first cap).run Tryz.prog w = .ok (.func fn first cap) w := fun _ _ _ _ => rfl
  clear hB hF hf hx hB1 hcl hx2 hb2 hlt h
  go_enter_defers Tryz.func96, Tryz.ntmps96
  go_wp2_with fail
  refine HCL.out.mono ?_
  rintro e w3 ⟨rfl, hE3, hu3⟩
  have hX3 := HX.out.1.upd hu3 (fun e => by have := HX.out.2.2.2; omega)
  have hx3c : w3.cell? ⟨w.heap.size + 1, 0, none⟩ = some (.string ⟨#[]⟩) := hX3.cell 0
  have hx3z := hX3.frozen 0
  obtain ⟨w4, hw4⟩ : ∃ w4, w3.setCell ⟨w.heap.size + 1, 0, none⟩ (.string v) = w4 := ⟨_, rfl⟩
  have hX4 : Blk w4 (w.heap.size + 1) 9 #[.string v] := hw4 ▸ hX3.set_ 0 (.string v)
  have hu4 : Upd w3 w4 (· = w.heap.size + 1) := hw4 ▸ (Upd.refl w3 (· = w.heap.size + 1)).setCell (p := ⟨w.heap.size + 1, 0, none⟩) (.inl rfl) _
  have HE := Lib.hid (And.intro hE3 (And.intro hu3 (And.intro hX4 hu4)))
  clear hE3 hu3 hX3 hX4 hu4 HCL
  go_wp2_with fail
  refine leaves_cons (f := 139) (args := #[ptr w1.heap.size, ptr (w.heap.size + 1), ptr w.heap.size]) (by simp) (by simp [go_sem]) ?_;refine (seeT1_idle _ _ _ _).mono ?_
  rintro e u' w'' ⟨rfl, rfl, rfl⟩
  obtain ⟨hE3, hu3, hX4, hu4⟩ := HE.out
  obtain ⟨_, hb2, hold, hlt⟩ := HX.out
  have hxs := hX4.cell 0
  simp at hxs
  have hE4 := hE3.upd hu4 (fun e => by omega) (fun e => by omega)
  simp [Leaves, settle, results, Tryz.results96, go_sem, hxs]
  refine ⟨hE4, ?_⟩
  have hU : Upd w3 w'' (fun k => k = w.heap.size + 1) := hu4
  refine ⟨(hu4.os.trans hu3.os).trans hb2.os, (hu4.tape.trans hu3.tape).trans hb2.tape, (hu4.output.trans hu3.output).trans hb2.output, Nat.le_trans hb2.size (Nat.le_trans hu3.size hu4.size), fun k hk hn => ?_⟩
  have h1 := hb2.block k hk
  have h2 := hu3.block k (Nat.lt_of_lt_of_le hk hb2.size) hn
  have h3 := hu4.block k (Nat.lt_of_lt_of_le hk (Nat.le_trans hb2.size hu3.size)) (by omega)
  exact h3.trans (h2.trans h1)
set_option maxRecDepth 100000 in
theorem seeT_bad (h : EyeIs w g ab xs false) (gf : Nat) (caps : Array Value) (eg : ∀ args w, (callFunc gf args).run Tryz.prog w = .ok (.enter gf args) w)
    (hf : ∀ W, EyeIs W g ab xs false → Below w.heap.size w W → Calls Tryz.prog gf caps W fun e w' => e = .panicked sightP ∧ (∃ v0, Blk w' g 137 #[v0, .bool false]) ∧ Upd W w' (· = g)) :
    Calls Tryz.prog 96 #[ptr g, .func (.func gf) #[] caps] w fun e w' => e = .returned (.string ⟨#[]⟩) ∧ EyeIs w' g ab xs true ∧ Upd w w' (· = g) := by
  obtain ⟨A, c, hB, hc, hF⟩ := h.ex
  obtain ⟨w1, hw1⟩ : ∃ w1, (w.alloc (.cells #[ptr g] 80)).alloc (.cells #[.string ⟨#[]⟩] 9) = w1 := ⟨_, rfl⟩
  have hb1 : Below w.heap.size w w1 := hw1 ▸ ((Below.refl _ _).alloc (Nat.le_refl _) _).alloc (by simp) _
  have h0B : Blk w1 w.heap.size 80 #[ptr g] := hw1 ▸ ((Blk.new w 80 #[ptr g]).alloc _)
  have h0 : w1.cell? ⟨w.heap.size, 0, none⟩ = some (ptr g) := h0B.cell 0
  have hx : Blk w1 (w.heap.size + 1) 9 #[.string ⟨#[]⟩] := by
    have := Blk.new (w.alloc (.cells #[ptr g] 80)) 9 #[.string ⟨#[]⟩]
    rw [hw1] at this
    simpa using this
  have hs1 : w1.heap.size = w.heap.size + 2 := by rw [← hw1]; simp
  have hB1 := hB.below hb1 hB.lt
  have hc0 : w1.cell? ⟨g, 0, none⟩ = some (.slice A xs.length c) := hB1.cell 0
  have hc1 : w1.cell? ⟨g, 1, none⟩ = some (.bool false) := hB1.cell 1
  obtain ⟨w2, hw2⟩ : ∃ w2, w1.alloc (.cells #[.slice A xs.length c] 23) = w2 := ⟨_, rfl⟩
  have hb2 : Below w.heap.size w w2 := hw2 ▸ hb1.alloc hb1.size _
  have hx2 : Blk w2 (w.heap.size + 1) 9 #[.string ⟨#[]⟩] := hw2 ▸ hx.alloc _
  have h02 : Blk w2 w.heap.size 80 #[ptr g] := hw2 ▸ h0B.alloc _
  have hw22 : Blk w2 w1.heap.size 23 #[.slice A xs.length c] := hw2 ▸ Blk.new w1 23 _
  have hcl := hf w2 (h.below hb2) hb2
  have hlt := h.lt
  have HCL := Lib.hid hcl; have HX := Lib.hid (And.intro hx2 (And.intro hb2 (And.intro h (And.intro hlt (And.intro h02 (And.intro hw22 hs1))))))
  have hmf : ∀ (fn : Fn) (first cap : Array Value) (w : World), (Instr.makeFunc fn first cap).run Tryz.prog w = .ok (.func fn first cap) w := fun _ _ _ _ => rfl
  have HFC := Lib.hid (And.intro hF hc)
  clear hB hF hf hx hB1 hcl hx2 hb2 hlt h h0B h02 hw22 hs1 hc
  go_enter_defers Tryz.func96, Tryz.ntmps96
  go_wp2_with fail
  refine HCL.out.mono ?_
  rintro e w3 ⟨rfl, ⟨v0, hE3⟩, hu3⟩
  have HE := Lib.hid (And.intro hE3 hu3)
  clear hE3 hu3 HCL
  go_wp2_with fail
  obtain ⟨hE3, hu3⟩ := HE.out
  obtain ⟨hx2, hb2, h, hlt, h02, hw22, hs1⟩ := HX.out
  have hx3 := hx2.upd hu3 (fun e => by omega)
  have h03 := h02.upd hu3 (fun e => by omega)
  have hw3 := hw22.upd hu3 (fun e => by omega)
  refine leaves_cons (f := 139) (args := #[ptr w1.heap.size, ptr (w.heap.size + 1), ptr w.heap.size]) (by simp) (by simp [go_sem]) ?_;refine (seeT1_catch w1.heap.size (w.heap.size + 1) w.heap.size w3 (hw3.cell 0) hx3 (h03.cell 0) hE3).mono ?_
  rintro e u' w4 ⟨rfl, rfl, hC⟩
  have hxs := hC.res.cell 0
  simp at hxs
  simp [Leaves, settle, results, Tryz.results96, go_sem, hxs]
  have hU : Upd w w4 (· = g) := by
    have hu4 := hC.upd
    refine ⟨(hu4.os.trans hu3.os).trans hb2.os, (hu4.tape.trans hu3.tape).trans hb2.tape, (hu4.output.trans hu3.output).trans hb2.output, Nat.le_trans hb2.size (Nat.le_trans hu3.size hu4.size), fun k hk hn => ?_⟩
    have h1 := hb2.block k hk
    have h2 := hu3.block k (Nat.lt_of_lt_of_le hk hb2.size) hn
    have h3 := hu4.block k (Nat.lt_of_lt_of_le hk (Nat.le_trans hb2.size hu3.size)) (by rintro (e | e) <;> omega)
    exact h3.trans (h2.trans h1)
  refine ⟨⟨h.ne, Nat.lt_of_lt_of_le h.old hU.size, A, c, hC.eye, HFC.out.2, ?_⟩, hU⟩
  rcases h.ne with hne | hnil
  · exact Kd.F_step HFC.out.1 (fun k hk hlt => hU.block k hlt (fun e => hne (hk ▸ e)))
  · rw [hnil]; exact F_zero A
end
end Go.Proofs.YtgmlenpcchhmbaaGreat.P
end
section
set_option linter.unusedVariables false
set_option linter.unusedSimpArgs false
namespace Go.Proofs.YtgmlenpcchhmbaaGreat.P
open Go.RowKit Go.Proofs.YtgmlenpcchhmbaaGreatW.PrintWords Go.Proofs.YtgmlenpcchhmbaaGreatW.PrintLast Go.Proofs.YtgmlenpcchhmbaaGreatW.PrintMore
def textAt (xs : List Int) : Bool := decide (4 ≤ xs.length) && decide (numOf xs 4 ≤ 1048576) && decide (numOf xs 4 ≤ xs.length - 4)
def sText (s : Sight) : ByteArray × Sight := if s.2 = true ∨ textAt s.1 = false then (⟨#[]⟩, (s.1, true)) else (strOfNums ((s.1.drop 4).take (numOf s.1 4)), ((s.1.drop 4).drop (numOf s.1 4), false))
theorem sText_bad {s : Sight} (h : s.2 = true ∨ textAt s.1 = false) : sText s = (⟨#[]⟩, (s.1, true)) := if_pos h
theorem sText_ok {xs : List Int} (h : textAt xs = true) : sText (xs, false) = (strOfNums ((xs.drop 4).take (numOf xs 4)), ((xs.drop 4).drop (numOf xs 4), false)) := if_neg (by simp [h])
section
variable {w : World} {g ab be : Nat} {xs : List Int}
theorem text1_bad (h : EyeIs w g ab xs false) (hx : bytesOk xs) (he : w.cell? ⟨be, 0, none⟩ = some (ptr g)) (hbg : be ≠ g) (hl : textAt xs = false) : Calls Tryz.prog 97 #[ptr be] w fun e w' => e = .panicked sightP ∧ (∃ v0, Blk w' g 137 #[v0, .bool false]) ∧ Upd w w' (· = g) := by
  by_cases h4 : 4 ≤ xs.length
  · have hn := number_ok h hx 4 h4 (by omega)
    have hm := numOf_lt hx 4
    have hm4 : (256 : Nat) ^ 4 = 4294967296 := by decide
    unfold textAt at hl
    rw [decide_eq_true h4, Bool.true_and] at hl
    obtain ⟨m, hme⟩ : ∃ m, numOf xs 4 = m := ⟨_, rfl⟩
    rw [hme] at hn hm hl
    have HN := Lib.hid hn
    clear h hn hx hme
    by_cases h1 : m ≤ 1048576
    · have h2 : xs.length - 4 < m := by
        rw [decide_eq_true h1, Bool.true_and] at hl
        have := of_decide_eq_false hl
        omega
      have d1 : decide ((m : Int) ≤ 1048576) = true := decide_eq_true (by omega)
      go_enter Tryz.func97, Tryz.ntmps97
      go_wp2_with fail
      refine HN.out.mono ?_
      rintro e w1 ⟨rfl, hE, hu⟩
      have he1 : w1.cell? ⟨be, 0, none⟩ = some (ptr g) := (World.cell?_of_block (w := w) (hu.block be (World.block_lt_of_cell? w ⟨be, 0, none⟩ he) hbg)).trans he
      have HT := Lib.hid (take_short hE (m : Int) (by rw [List.length_drop]; omega))
      obtain ⟨A, c, hB, _, _⟩ := hE.ex
      have HB := Lib.hid hB; have HU := Lib.hid hu
      clear hE hu HN hB
      go_wp2_with fail
      refine (must_true w1).mono ?_
      rintro e w2 ⟨rfl, rfl⟩
      go_wp2_with fail
      refine HT.out.mono ?_
      rintro e w3 ⟨rfl, rfl⟩
      go_wp2_with fail
      exact ⟨rfl, rfl, ⟨_, HB.out⟩, HU.out⟩
    · have d1 : decide ((m : Int) ≤ 1048576) = false := decide_eq_false (by omega)
      go_enter Tryz.func97, Tryz.ntmps97
      go_wp2_with fail
      refine HN.out.mono ?_
      rintro e w1 ⟨rfl, hE, hu⟩
      obtain ⟨A, c, hB, _, _⟩ := hE.ex
      have HB := Lib.hid hB; have HU := Lib.hid hu
      clear hE hu HN hB
      go_wp2_with fail
      refine (must_false w1).mono ?_
      rintro e w2 ⟨rfl, rfl⟩
      go_wp2_with fail
      exact ⟨rfl, rfl, ⟨_, HB.out⟩, HU.out⟩
  · have hn := number_short h 4 (by omega)
    obtain ⟨A, c, hB, _, _⟩ := h.ex
    have HN := Lib.hid hn; have HB := Lib.hid hB
    clear h hn hB
    go_enter Tryz.func97, Tryz.ntmps97
    go_wp2_with fail
    refine HN.out.mono ?_
    rintro e w1 ⟨rfl, rfl⟩
    go_wp2_with fail
    exact ⟨rfl, rfl, ⟨_, HB.out⟩, Upd.refl _ _⟩
theorem text1_ok (h : EyeIs w g ab xs false) (hx : bytesOk xs) (he : w.cell? ⟨be, 0, none⟩ = some (ptr g)) (hbg : be ≠ g) (hl : textAt xs = true) : Calls Tryz.prog 97 #[ptr be] w fun e w' => e = .returned (.string (strOfNums ((xs.drop 4).take (numOf xs 4)))) ∧ EyeIs w' g ab ((xs.drop 4).drop (numOf xs 4)) false ∧ Upd w w' (· = g) := by
  unfold textAt at hl
  simp only [Bool.and_eq_true, decide_eq_true_eq] at hl
  obtain ⟨⟨h4, h1⟩, h2⟩ := hl
  have hn := number_ok h hx 4 h4 (by omega)
  generalize numOf xs 4 = m at *
  have HN := Lib.hid hn
  clear h hn hx
  have d1 : decide ((m : Int) ≤ 1048576) = true := decide_eq_true (by omega)
  go_enter Tryz.func97, Tryz.ntmps97
  go_wp2_with fail
  refine HN.out.mono ?_
  rintro e w1 ⟨rfl, hE, hu⟩
  have he1 : w1.cell? ⟨be, 0, none⟩ = some (ptr g) := (World.cell?_of_block (w := w) (hu.block be (World.block_lt_of_cell? w ⟨be, 0, none⟩ he) hbg)).trans he
  have HT := Lib.hid (take_ok hE m (by rw [List.length_drop]; omega))
  have HU := Lib.hid hu
  clear hE hu HN
  go_wp2_with fail
  refine (must_true w1).mono ?_
  rintro e w2 ⟨rfl, rfl⟩
  go_wp2_with fail
  refine HT.out.mono ?_
  rintro e w3 ⟨A1, c1, rfl, hc1, hF, hE3, hu3⟩
  have hst := Kd.C_string (P := Tryz.prog) (src := 23) (dst := 9) (c := c1) Tryz.underlying23 Tryz.underlying5 Tryz.underlying9 (Kd.F_now hF)
  have HE := Lib.hid (And.intro hE3 hu3)
  clear hF hE3 hu3 HT
  go_wp2_with fail
  go_ret
  exact ⟨rfl, HE.out.1, HU.out.trans HE.out.2⟩
theorem entersT : ∀ args w, (callFunc 97 args).run Tryz.prog w = .ok (.enter 97 args) w := enters_of Tryz.func97 (by kernel_rfl) rfl
theorem flText_any (s : Sight) (h : EyeIs w g ab s.1 s.2) (hx : bytesOk s.1) : Calls Tryz.prog 50 #[ptr g] w fun e w' => e = .returned (.string (sText s).1) ∧ EyeIs w' g ab (sText s).2.1 (sText s).2.2 ∧ Upd w w' (· = g) := by
  obtain ⟨xs, bl⟩ := s
  obtain ⟨w1, hw1⟩ : ∃ w1, w.alloc (.cells #[ptr g] 80) = w1 := ⟨_, rfl⟩
  have hb1 : Below w.heap.size w w1 := hw1 ▸ (Below.refl _ _).alloc (Nat.le_refl _) _
  have h0B : Blk w1 w.heap.size 80 #[ptr g] := hw1 ▸ Blk.new w 80 #[ptr g]
  have h0 : w1.cell? ⟨w.heap.size, 0, none⟩ = some (ptr g) := h0B.cell 0
  have h1 := h.below hb1
  have hlt := h.lt
  have hne : w.heap.size ≠ g := by omega
  have hmf : ∀ (fn : Fn) (first cap : Array Value) (w : World), (Instr.makeFunc fn first cap).run Tryz.prog w = .ok (.func fn first cap) w := fun _ _ _ _ => rfl
  have hs : Calls Tryz.prog 96 #[ptr g, .func (.func 97) #[] #[ptr w.heap.size]] w1 fun e w' => e = .returned (.string (sText (xs, bl)).1) ∧ EyeIs w' g ab (sText (xs, bl)).2.1 (sText (xs, bl)).2.2 ∧ Upd w1 w' (· = g) := by
    cases bl with
    | true =>
      rw [sText_bad (.inl rfl)]
      exact (seeT_blind h1 _ _ _).mono fun e w' ⟨he, hb⟩ => ⟨he, h1.below hb, Upd.of_below hb _⟩
    | false =>
      cases hl : textAt xs with
      | false =>
        rw [sText_bad (.inr hl)]
        exact seeT_bad h1 97 _ entersT fun W hE hb => text1_bad hE hx (pw_cell_below hb h0) hne hl
      | true =>
        rw [sText_ok hl]
        exact seeT_ok h1 97 _ entersT _ fun W hE hb => text1_ok hE hx (pw_cell_below hb h0) hne hl
  have HS := Lib.hid hs; have HB := Lib.hid hb1
  clear h h0B h1 hs hb1 hne
  generalize sText (xs, bl) = r at *
  go_enter Tryz.func50, Tryz.ntmps50
  go_wp2_with fail
  refine HS.out.mono ?_
  rintro e w2 ⟨rfl, hE, hu⟩
  go_wp2_with fail
  go_ret
  exact ⟨rfl, hE, (Upd.of_below HB.out _).trans hu⟩
end
end Go.Proofs.YtgmlenpcchhmbaaGreat.P
end
section
set_option linter.unusedVariables false
set_option linter.unusedSimpArgs false
namespace Go.Proofs.YtgmlenpcchhmbaaGreat.P
open Go.RowKit Go.Shelf Go.Proofs.YtgmlenpcchhmbaaGreatW.PrintWords Go.Proofs.YtgmlenpcchhmbaaGreatW.PrintLast Go.Proofs.YtgmlenpcchhmbaaGreatW.PrintMore
def laidO (o : S63) : List Int := laidI o.f0 ++ laidTs [o.f1, o.f2] ++ laidI (wrap64 o.f3)
def laidOs (l : List S63) : List Int := (l.map laidO).flatten
theorem laidO_len (o : S63) : (laidO o).length ≤ 2097200 := by
  have := laidTs_len [o.f1, o.f2] 2
  unfold laidO
  rw [List.length_append, List.length_append, laidI_len, laidI_len]
  simp only [List.take_succ_cons, List.take_zero, List.length_cons, List.length_nil] at this
  omega
theorem laidOs_len (l : List S63) : (laidOs l).length ≤ 2097200 * l.length := by
  induction l with
  | nil => simp [laidOs]
  | cons x l ih => unfold laidOs at ih ⊢; rw [List.map_cons, List.flatten_cons, List.length_append, List.length_cons]; have := laidO_len x; omega
theorem laidOs_snoc (l : List S63) {k : Nat} (hk : k < l.length) : laidOs (l.take (k + 1)) = laidOs (l.take k) ++ laidO l[k] := by
  unfold laidOs
  rw [List.take_succ_eq_append_getElem hk, List.map_append, List.flatten_append]; simp
def laidOps (l : List S63) : List Int := laidI (l.length : Int) ++ laidOs l
set_option maxHeartbeats 2000000 in
set_option maxRecDepth 100000 in
theorem txput_any (A : Option Addr) (c : Nat) (ds : List S63) (w : World) (hr : Kd.C k63 w A ds.length ds) (hn : ds.length ≤ 1000) (hs : ∀ o ∈ ds, o.f1.size ≤ 140737488355328 ∧ o.f2.size ≤ 140737488355328) :
    Calls Tryz.prog 22 #[.slice A ds.length c] w fun e w' => ∃ v, e = .returned v ∧ RowB w' w.heap.size v (laidOps ds) ∧ Below w.heap.size w w' := by
  obtain ⟨w1, hw1⟩ : ∃ w1, w.alloc (.cells #[.slice none 0 0] 95) = w1 := ⟨_, rfl⟩
  have hb1 : Below w.heap.size w w1 := hw1 ▸ (Below.refl _ _).alloc (Nat.le_refl _) _
  have hP1 : PenIs w1 w.heap.size w.heap.size [] := hw1 ▸ PenIs.new w
  have hs1 : w.heap.size < w1.heap.size := hP1.lt
  obtain ⟨w2, hw2⟩ : ∃ w2, w1.alloc (.cells #[.int .i64 (ds.length : Int)] 2) = w2 := ⟨_, rfl⟩
  have hb2 : Below w1.heap.size w1 w2 := hw2 ▸ (Below.refl _ _).alloc (Nat.le_refl _) _
  have hlit : Blk w2 w1.heap.size 2 #[.int .i64 (ds.length : Int)] := hw2 ▸ Blk.new w1 2 _
  have hin := pnInt_any (some ⟨w1.heap.size, 0, none⟩) 1 [(ds.length : Int)] w2 (hP1.below hb2) (fun W hW => C_blkI [(ds.length : Int)] (hW.k _ _ _ (by decide) (by decide) hlit) (by simp)) (by simp)
  have HIN := Lib.hid hin
  have HX := Lib.hid (And.intro (hb1.trans (hb2.mono (Nat.le_of_lt hs1))) (And.intro hr (And.intro hs hs1)))
  clear hin hlit hb1 hb2 hP1 hs1 hr hs
  go_enter Tryz.func22, Tryz.ntmps22
  go_wp2_with fail
  refine HIN.out.mono ?_
  rintro e w3 ⟨rfl, hP3, hB3⟩
  have HN := Lib.hid (And.intro hP3 hB3)
  clear hP3 hB3
  go_wp2
  go_loopw [5, 15] (fun _ kv wr => ∃ k : Nat, kv = .int .i64 (k : Int) ∧ k ≤ ds.length ∧ RowKit.Hid (PenIs wr w.heap.size w.heap.size (laidI (ds.length : Int) ++ laidOs (ds.take k)) ∧ Below w.heap.size w wr)) (fun _ k _ => ds.length - (intOf k).toNat)
  case atStart => exact ⟨0, rfl, Nat.zero_le _, Lib.hid ⟨by simpa [laidOs, laidIs] using HN.out.1, HX.out.1.trans HN.out.2.b⟩⟩
  case round =>
    obtain ⟨k, rfl, hk, HP⟩ := hrel
    by_cases hlt : k < ds.length
    · obtain ⟨ad, hA, d0, d1, d2, d3⟩ := C_atO (Kd.C_below HX.out.2.1 HP.out.2) k hlt
      subst hA
      have hsn := laidOs_snoc ds hlt
      have hss := HX.out.2.2.1 ds[k] (List.getElem_mem hlt)
      have hlX : (laidI (ds.length : Int) ++ laidOs (ds.take k)).length ≤ 8 + 2097200 * 1000 := by
        rw [List.length_append, laidI_len]; have := laidOs_len (ds.take k); rw [List.length_take] at this; omega
      generalize ds[k] = x at *
      obtain ⟨x0, x1, x2, x3⟩ := x
      simp only at hss d0 d1 d2 d3
      obtain ⟨wb, hwb⟩ : ∃ wb, wr.alloc (.cells #[.int .i64 x0, .string x1, .string x2, .int .u64 x3] 63) = wb := ⟨_, rfl⟩
      have hBb : Below wr.heap.size wr wb := hwb ▸ (Below.refl _ _).alloc (Nat.le_refl _) _
      have hT : Blk wb wr.heap.size 63 #[.int .i64 x0, .string x1, .string x2, .int .u64 x3] := hwb ▸ Blk.new wr 63 _
      obtain ⟨wc, hwc⟩ : ∃ wc, wb.alloc (.cells #[.int .i64 x0] 2) = wc := ⟨_, rfl⟩
      have hBc : Below wb.heap.size wb wc := hwc ▸ (Below.refl _ _).alloc (Nat.le_refl _) _
      have hlit : Blk wc wb.heap.size 2 #[.int .i64 x0] := hwc ▸ Blk.new wb 2 _
      have hTc := hT.below hBc hT.lt
      have hbc : Below wr.heap.size wr wc := hBb.trans (hBc.mono hBb.size)
      have hge : w.heap.size ≤ wr.heap.size := HP.out.2.size
      have hin := pnInt_any (some ⟨wb.heap.size, 0, none⟩) 1 [x0] wc (HP.out.1.below hbc) (fun W hW => C_blkI [x0] (hW.k _ _ _ (by decide) (by decide) hlit) (by simp)) (by simp only [List.length_cons, List.length_nil]; omega)
      have hc00 : wb.cell? ⟨wr.heap.size, 0, none⟩ = some (.int .i64 x0) := hT.cell 0
      have HIN := Lib.hid hin
      have HD := Lib.hid (And.intro hsn (And.intro hss (And.intro hTc (And.intro (KB.of_below hbc hge) hlX))))
      clear hin hsn hss hT hTc hBb hBc hbc hlit hge hlX
      go_wp2_with fail
      refine HIN.out.mono ?_
      rintro e w5 ⟨rfl, hP5, hB5⟩
      have hT5 := hB5.k _ _ _ (by decide) (by decide) HD.out.2.2.1
      have hc51 : w5.cell? ⟨wr.heap.size, 1, none⟩ = some (.string x1) := hT5.cell 1
      have hc52 : w5.cell? ⟨wr.heap.size, 2, none⟩ = some (.string x2) := hT5.cell 2
      have hk5 : KB w.heap.size wr w5 := HD.out.2.2.2.1.trans hB5
      have hge5 : w.heap.size ≤ w5.heap.size := Nat.le_trans HP.out.2.size hk5.b.size
      obtain ⟨wd, hwd⟩ : ∃ wd, w5.alloc (.cells #[.string x1, .string x2] 9) = wd := ⟨_, rfl⟩
      have hBd : Below w5.heap.size w5 wd := hwd ▸ (Below.refl _ _).alloc (Nat.le_refl _) _
      have hlit : Blk wd w5.heap.size 9 #[.string x1, .string x2] := hwd ▸ Blk.new w5 9 _
      have hst := pnText_any (some ⟨w5.heap.size, 0, none⟩) 2 [x1, x2] wd (hP5.below hBd) (fun W hW => C_blkS [x1, x2] (hW.k _ _ _ (by decide) (by decide) hlit) (by simp)) (fun s hs => by simp only [List.mem_cons, List.not_mem_nil, or_false] at hs; rcases hs with rfl | rfl; exact HD.out.2.1.1; exact HD.out.2.1.2) (by have := HD.out.2.2.2.2; simp only [laidIs, List.map_cons, List.map_nil, List.flatten_cons, List.flatten_nil, List.append_nil, List.length_append, laidI_len, List.length_cons, List.length_nil] at *; omega)
      have HST := Lib.hid (And.intro hst (And.intro (hk5.trans (KB.of_below hBd hge5)) (hT5.below hBd hT5.lt)))
      clear hst hP5 hB5 hT5 hBd hlit hk5 hge5 hc00
      go_wp2_with fail
      refine HST.out.1.mono ?_
      rintro e w6 ⟨rfl, hP6, hB6⟩
      have hT6 := hB6.k _ _ _ (by decide) (by decide) HST.out.2.2
      have hc63 : w6.cell? ⟨wr.heap.size, 3, none⟩ = some (.int .u64 x3) := hT6.cell 3
      have hk6 : KB w.heap.size wr w6 := HST.out.2.1.trans hB6
      have hge6 : w.heap.size ≤ w6.heap.size := Nat.le_trans HP.out.2.size hk6.b.size
      obtain ⟨we, hwe⟩ : ∃ we, w6.alloc (.cells #[.int .i64 (wrap64 x3)] 2) = we := ⟨_, rfl⟩
      have hBe : Below w6.heap.size w6 we := hwe ▸ (Below.refl _ _).alloc (Nat.le_refl _) _
      have hlit : Blk we w6.heap.size 2 #[.int .i64 (wrap64 x3)] := hwe ▸ Blk.new w6 2 _
      have hin := pnInt_any (some ⟨w6.heap.size, 0, none⟩) 1 [wrap64 x3] we (hP6.below hBe) (fun W hW => C_blkI [wrap64 x3] (hW.k _ _ _ (by decide) (by decide) hlit) (by simp)) (by have := HD.out.2.2.2.2; have := laidTs_len [x1, x2] 2; simp only [List.take_succ_cons, List.take_zero, laidIs, List.map_cons, List.map_nil, List.flatten_cons, List.flatten_nil, List.append_nil, List.length_append, laidI_len, List.length_cons, List.length_nil] at *; omega)
      have HIN := Lib.hid (And.intro hin (hk6.trans (KB.of_below hBe hge6)))
      clear hin hP6 hB6 hT6 hBe hlit hk6 hge6 hc51 hc52
      go_wp2_with fail
      refine HIN.out.1.mono ?_
      rintro e w7 ⟨rfl, hP7, hB7⟩
      have HN7 := Lib.hid (And.intro hP7 (HP.out.2.trans (HIN.out.2.trans hB7).b))
      clear hP7 hB7
      go_wp2_with fail
      go_roundw
      case rel => exact ⟨k + 1, by go_num, by omega, Lib.hid ⟨by rw [HD.out.1]; simpa [laidIs, laidO, List.append_assoc] using HN7.out.1, HN7.out.2⟩⟩
      case measure => simp [intOf]; omega
    · obtain rfl : k = ds.length := by omega
      have hP := HP.out
      rw [List.take_length] at hP
      have hle := laidOs_len ds
      obtain ⟨Z, hZ⟩ : ∃ Z, laidOps ds = Z := ⟨_, rfl⟩
      rw [show laidI (ds.length : Int) ++ laidOs ds = Z from hZ] at hP
      have hbt := pnBytes_any wr hP.1 (by rw [← hZ]; unfold laidOps; rw [List.length_append, laidI_len]; omega)
      have HZ := Lib.hid hZ
      clear hZ hle
      have HBT := Lib.hid (And.intro hbt hP)
      clear hbt hP
      go_wp2_with fail
      refine HBT.out.1.mono ?_
      rintro e w4 ⟨v4, rfl, ho4, hb4⟩
      have HO := Lib.hid (And.intro ho4 hb4)
      obtain ⟨A5, c5, rfl⟩ := own_slice ho4
      clear ho4 hb4
      go_wp2
      go_ret
      exact ⟨_, rfl, by rw [HZ.out]; exact RowB.lower HO.out.1 HBT.out.2.2.size, HBT.out.2.2.trans (HO.out.2.mono HBT.out.2.2.size)⟩
def putOk (d : List S63) : Prop := d.length ≤ 1000 ∧ ∀ o ∈ d, o.f1.size ≤ 140737488355328 ∧ o.f2.size ≤ 140737488355328
instance (d : List S63) : Decidable (putOk d) := inferInstanceAs (Decidable (_ ∧ _))
def txn_Put.f (d : List S63) : Option (List Int) := if putOk d then some (laidOps d) else none
theorem txn_Put.calls (A0 : Option Addr) (c0 : Nat) (l0 : List S63) (r : List Int) (w : World) (hr0 : Kd.C k63 w A0 l0.length l0) (_hc0 : l0.length ≤ c0) (h : txn_Put.f l0 = some r) :
    Calls Tryz.prog 22 #[.slice A0 l0.length c0] w fun e w' => ∃ v0_ : Value, e = .returned (v0_) ∧ Kd.R (Kd.int .u8) 5 w' w.heap.size (fun _ => True) v0_ r ∧ Below w.heap.size w w' := by
  unfold txn_Put.f at h
  split at h
  · rename_i hc
    injection h with h
    subst h
    exact (txput_any A0 c0 l0 w hr0 hc.1 hc.2).mono fun e w' ⟨v, he, ho, hb⟩ => ⟨v, he, Kd.R_of_own ho (fun _ _ => trivial), hb⟩
  · cases h
end Go.Proofs.YtgmlenpcchhmbaaGreat.P
end
section
set_option linter.unusedVariables false
set_option linter.unusedSimpArgs false
namespace Go.Proofs.YtgmlenpcchhmbaaGreat.P
open Go.RowKit Go.Proofs.YtgmlenpcchhmbaaGreatW.PrintWords Go.Proofs.YtgmlenpcchhmbaaGreatW.PrintLast Go.Proofs.YtgmlenpcchhmbaaGreatW.PrintMore
attribute [local go_sem] max2_int min2_int max_two min_two max_three min_three max_four min_four   -- for this text's walks alone
def slices_Equal_byte_byte.l0 : Nat → List Int → List Int → Int → Int → Option (Bool)
 | 0, _, _, _, _ => none
 | k + 1, x0, x1, x12, x13 => if x13 < x12 then (if 0 ≤ x13 then (if x13 < (x0.length : Int) then (if x13 < (x1.length : Int) then (if (rd x0 x13) = (rd x1 x13) then (slices_Equal_byte_byte.l0 k x0 x1 x12 (wrap64 (x13 + 1))) else (some false)) else (none)) else (none)) else (none)) else (some true)
def slices_Equal_byte_byte.f (k : Nat) (l0 : List Int) (l1 : List Int) : Option (Bool) := if (l0.length : Int) = (l1.length : Int) then (slices_Equal_byte_byte.l0 k l0 l1 (l0.length : Int) 0) else (some false)
set_option maxHeartbeats 8000000 in
set_option maxRecDepth 100000 in
theorem slices_Equal_byte_byte.calls (k : Nat) (A0 : Option Addr) (c0 : Nat) (l0 : List Int) (A1 : Option Addr) (c1 : Nat) (l1 : List Int) (r : Bool) (w : World) (hr0 : Kd.C (Kd.int .u8) w A0 l0.length l0) (hc0 : l0.length ≤ c0) (hr1 : Kd.C (Kd.int .u8) w A1 l1.length l1) (hc1 : l1.length ≤ c1) (h : slices_Equal_byte_byte.f k l0 l1 = some r) :
  Calls Tryz.prog 52 #[.slice A0 l0.length c0, .slice A1 l1.length c1] w fun e w' => e = .returned (.bool r) ∧ Drawn0 w w' := by
 have HR0 := Aside0.mk hr0
 have HC0 := Aside0.mk hc0
 clear hr0 hc0
 have HR1 := Aside0.mk hr1
 have HC1 := Aside0.mk hc1
 clear hr1 hc1
 have H : (if (l0.length : Int) = (l1.length : Int) then (slices_Equal_byte_byte.l0 k l0 l1 (l0.length : Int) 0) else (some false)) = some r := h
 clear h
 by_cases c3 : (l0.length : Int) = (l1.length : Int)
 ·rw [if_pos c3] at H
  have c3b0 : ((l0.length : Int) == (l1.length : Int)) = true := beq_iff_eq.mpr c3
  have c3b1 : ((l0.length : Int) != (l1.length : Int)) = false := bne_eq_false_iff_eq.mpr c3
  have c3b2 : (l0.length == l1.length) = true := by first | simpa using c3 | (simp at c3 ⊢; omega)
  clear c3
  have H' := Aside0.mk H
  clear H
  go_enter Tryz.func52, Tryz.ntmps52
  go_wp2
  repeat (go_quiet (fail); try go_wp2)
  go_loopg [13] k (fun kq v13 w' => ∃ (x13_1 : Int), v13 = .int .i64 x13_1 ∧ Aside0 (slices_Equal_byte_byte.l0 kq l0 l1 (l0.length : Int) x13_1 = some r) ∧ Aside0 (kq ≤ k) ∧ Drawn0 w w')
  case atStart => exact ⟨(0), (by first | rfl | (rw [bl_gt] <;> rfl) | (simp; done) | (simp [*]; done)), H', ⟨Nat.le_refl _⟩, by repeat (first | exact Drawn0.refl _ | apply Drawn0.step)⟩
  case round =>
   clear H'
   try clear c1
   try clear p2
   try clear c3
   try clear c3b0
   try clear c3b1
   try clear c3b2
   obtain ⟨x13_1, rfl, HA, HK1, ⟨m1, rfl⟩⟩ := hrel
   cases gk with
   | zero => exact absurd HA.out (by simp [slices_Equal_byte_byte.l0])
   | succ k1 =>
    have H := HA.out;clear HA
    simp only [slices_Equal_byte_byte.l0] at H
    by_cases c4 : x13_1 < (l0.length : Int)
    ·rw [if_pos c4] at H
     have c4b0 : decide (x13_1 < (l0.length : Int)) = true := decide_eq_true c4
     clear c4
     by_cases c5 : 0 ≤ x13_1
     ·rw [if_pos c5] at H
      have c5b0 : decide (0 ≤ x13_1) = true := decide_eq_true c5
      clear c5
      by_cases c6 : x13_1 < (l0.length : Int)
      ·rw [if_pos c6] at H
       have c6b0 : decide (x13_1 < (l0.length : Int)) = true := decide_eq_true c6
       clear c6
       by_cases c7 : x13_1 < (l1.length : Int)
       ·rw [if_pos c7] at H
        have c7b0 : decide (x13_1 < (l1.length : Int)) = true := decide_eq_true c7
        clear c7
        by_cases c8 : (rd l0 x13_1) = (rd l1 x13_1)
        ·rw [if_pos c8] at H
         have c8b0 : ((rd l0 x13_1) == (rd l1 x13_1)) = true := beq_iff_eq.mpr c8
         have c8b1 : ((rd l0 x13_1) != (rd l1 x13_1)) = false := bne_eq_false_iff_eq.mpr c8
         clear c8
         have H' := Aside0.mk H
         clear H
         have p109 : 0 ≤ (x13_1 : Int) := of_decide_eq_true (by first | (with_reducible assumption) | assumption)
         have q109 : x13_1 < (l0.length : Int) := of_decide_eq_true (by first | (with_reducible assumption) | assumption)
         obtain ⟨ad109, e109, hx109_0⟩ := Kd.at_int HR0.out x13_1 p109 q109
         cases e109
         replace p109 := eq_true p109
         replace q109 := eq_true q109
         have p110 : 0 ≤ (x13_1 : Int) := of_decide_eq_true (by first | (with_reducible assumption) | assumption)
         have q110 : x13_1 < (l1.length : Int) := of_decide_eq_true (by first | (with_reducible assumption) | assumption)
         obtain ⟨ad110, e110, hx110_0⟩ := Kd.at_int HR1.out x13_1 p110 q110
         cases e110
         replace p110 := eq_true p110
         replace q110 := eq_true q110
         go_wp2
         repeat (go_quiet (fail); try go_wp2)
         go_roundg k1
         case measure => have := HK1.out; omega
         case rel => exact ⟨(wrap64 (x13_1 + 1)), (by first | rfl | (rw [bl_gt] <;> rfl) | (simp; done) | (simp [*]; done)), H', ⟨by have := HK1.out; omega⟩, by repeat (first | exact Drawn0.refl _ | apply Drawn0.step)⟩
        ·rw [if_neg c8] at H
         have c8b0 : ((rd l0 x13_1) == (rd l1 x13_1)) = false := beq_eq_false_iff_ne.mpr c8
         have c8b1 : ((rd l0 x13_1) != (rd l1 x13_1)) = true := bne_iff_ne.mpr c8
         obtain rfl := Option.some.inj H
         have p109 : 0 ≤ (x13_1 : Int) := of_decide_eq_true (by first | (with_reducible assumption) | assumption)
         have q109 : x13_1 < (l0.length : Int) := of_decide_eq_true (by first | (with_reducible assumption) | assumption)
         obtain ⟨ad109, e109, hx109_0⟩ := Kd.at_int HR0.out x13_1 p109 q109
         cases e109
         replace p109 := eq_true p109
         replace q109 := eq_true q109
         have p110 : 0 ≤ (x13_1 : Int) := of_decide_eq_true (by first | (with_reducible assumption) | assumption)
         have q110 : x13_1 < (l1.length : Int) := of_decide_eq_true (by first | (with_reducible assumption) | assumption)
         obtain ⟨ad110, e110, hx110_0⟩ := Kd.at_int HR1.out x13_1 p110 q110
         cases e110
         replace p110 := eq_true p110
         replace q110 := eq_true q110
         go_wp2
         repeat (go_quiet (fail); try go_wp2)
         go_ret
         exact ⟨by first | rfl | (simp; done) | (simp [*]; done), by repeat (first | exact Drawn0.refl _ | apply Drawn0.step)⟩
       ·rw [if_neg c7] at H
        exact absurd H (by simp)
      ·rw [if_neg c6] at H
       exact absurd H (by simp)
     ·rw [if_neg c5] at H
      exact absurd H (by simp)
    ·rw [if_neg c4] at H
     have c4b0 : decide (x13_1 < (l0.length : Int)) = false := decide_eq_false c4
     clear c4;obtain rfl := Option.some.inj H
     go_wp2
     repeat (go_quiet (fail); try go_wp2)
     go_ret
     exact ⟨by first | rfl | (simp; done) | (simp [*]; done), by repeat (first | exact Drawn0.refl _ | apply Drawn0.step)⟩
 ·rw [if_neg c3] at H
  have c3b0 : ((l0.length : Int) == (l1.length : Int)) = false := beq_eq_false_iff_ne.mpr c3
  have c3b1 : ((l0.length : Int) != (l1.length : Int)) = true := bne_iff_ne.mpr c3
  have c3b2 : (l0.length == l1.length) = false := by first | simpa using c3 | (simp at c3 ⊢; omega)
  obtain rfl := Option.some.inj H
  go_enter Tryz.func52, Tryz.ntmps52
  go_wp2
  repeat (go_quiet (fail); try go_wp2)
  go_ret
  exact ⟨by first | rfl | (simp; done) | (simp [*]; done), by repeat (first | exact Drawn0.refl _ | apply Drawn0.step)⟩
end Go.Proofs.YtgmlenpcchhmbaaGreat.P
end
section
set_option linter.unusedVariables false
set_option linter.unusedSimpArgs false
namespace Go.Proofs.YtgmlenpcchhmbaaGreat.P
open Go.RowKit Go.Proofs.YtgmlenpcchhmbaaGreatW.PrintWords Go.Proofs.YtgmlenpcchhmbaaGreatW.PrintLast Go.Proofs.YtgmlenpcchhmbaaGreatW.PrintMore
def u64c (x : Int) : Int := IntKind.u64.wrap x
def sOp (s : Sight) : S63 × Sight := (⟨(sInt s).1, (sText (sInt s).2).1, (sText (sText (sInt s).2).2).1, u64c (sInt (sText (sText (sInt s).2).2).2).1⟩, (sInt (sText (sText (sInt s).2).2).2).2)
def txLoop : Nat → Int → Sight → List S63 × Sight
  | 0, _, s => ([], s)
  | k + 1, n, s => if 0 < n then ((sOp s).1 :: (txLoop k (n - 1) (sOp s).2).1, (txLoop k (n - 1) (sOp s).2).2) else ([], s)
theorem sInt_le (s : Sight) : (sInt s).2.1.length ≤ s.1.length := by unfold sInt; split <;> simp
theorem sInt_bytes {s : Sight} (h : bytesOk s.1) : bytesOk (sInt s).2.1 := by unfold sInt; split; exact h; exact bytesOk_drop h _
theorem sText_le (s : Sight) : (sText s).2.1.length ≤ s.1.length := by
  unfold sText; split
  · exact Nat.le_refl _
  · simp only [List.length_drop]; omega
theorem sText_bytes {s : Sight} (h : bytesOk s.1) : bytesOk (sText s).2.1 := by unfold sText; split; exact h; exact bytesOk_drop (bytesOk_drop h _) _
theorem sText_size (s : Sight) : (sText s).1.size ≤ 1048576 := by
  unfold sText; split
  · simp [ByteArray.size]
  · rename_i h
    have : numOf s.1 4 ≤ 1048576 := by
      have h2 := (not_or.1 h).2
      unfold textAt at h2
      simp at h2
      omega
    have e : (strOfNums ((s.1.drop 4).take (numOf s.1 4))).size = ((s.1.drop 4).take (numOf s.1 4)).length := by
      rw [← data_length, strOfNums_data, List.length_map]
    rw [e, List.length_take]; omega
theorem sOp_le (s : Sight) : (sOp s).2.1.length ≤ s.1.length := Nat.le_trans (sInt_le _) (Nat.le_trans (sText_le _) (Nat.le_trans (sText_le _) (sInt_le _)))
theorem sOp_bytes {s : Sight} (h : bytesOk s.1) : bytesOk (sOp s).2.1 := sInt_bytes (sText_bytes (sText_bytes (sInt_bytes h)))
theorem i64_bnd (n : Nat) (h : n < 18446744073709551616) : -9223372036854775808 ≤ i64 n ∧ i64 n < 9223372036854775808 := by unfold i64; split <;> omega
theorem sInt_bnd {s : Sight} (h : bytesOk s.1) : -9223372036854775808 ≤ (sInt s).1 ∧ (sInt s).1 < 9223372036854775808 := by
  unfold sInt; split
  · simp
  · exact i64_bnd _ (by have := numOf_lt h 8; omega)
theorem wrap64_nat' (i : Nat) (h : i < 9223372036854775807) : wrap64 ((i : Int) + 1) = ((i + 1 : Nat) : Int) := by unfold wrap64; omega
theorem eqB (a b : List Int) (hl : a.length = b.length) (hm : a.length < 9223372036854775807) : ∀ (m i k : Nat), i + m = a.length → m < k → slices_Equal_byte_byte.l0 k a b (a.length : Int) (i : Int) = some (decide (a.drop i = b.drop i))
  | m, i, 0, _, h => by omega
  | 0, i, k + 1, h, _ => by
    have e1 : a.drop i = [] := List.drop_eq_nil_of_le (by omega)
    have e2 : b.drop i = [] := List.drop_eq_nil_of_le (by omega)
    rw [slices_Equal_byte_byte.l0, if_neg (by omega), e1, e2]
    simp
  | m + 1, i, k + 1, h, hk => by
    have hi : i < a.length := by omega
    have hj : i < b.length := by omega
    rw [slices_Equal_byte_byte.l0, if_pos (by omega), if_pos (by omega), if_pos (by omega), if_pos (by omega), rd_nat a hi, rd_nat b hj, wrap64_nat' i (by omega), eqB a b hl hm m (i + 1) k (by omega) (by omega), List.drop_eq_getElem_cons hi, List.drop_eq_getElem_cons hj]
    by_cases he : a[i] = b[i]
    · rw [if_pos he, he]
      simp only [List.cons.injEq, true_and]
    · rw [if_neg he, decide_eq_false (fun h => he (List.cons.inj h).1)]
theorem eqBf (a b : List Int) (hm : a.length < 9223372036854775807) : slices_Equal_byte_byte.f (a.length + 1) a b = some (decide (a = b)) := by
  unfold slices_Equal_byte_byte.f
  by_cases hl : a.length = b.length
  · rw [if_pos (by omega), show (0 : Int) = ((0 : Nat) : Int) from rfl, eqB a b hl hm a.length 0 _ (by omega) (by omega)]
    simp
  · rw [if_neg (by omega)]
    have : a ≠ b := fun h => hl (by rw [h])
    simp [this]
def lenV : Value → Nat
  | .slice _ n _ => n
  | _ => 0
def txAll (b : List Int) : List S63 × Sight := txLoop 9 (sInt (b, false)).1 (sInt (b, false)).2
def okDone (s : Sight) : Bool := decide (¬ (s.2 = true ∨ s.1.length ≠ 0))
theorem txLoop_bytes : ∀ (k : Nat) (n : Int) (s : Sight), (txLoop k n s).1.length ≤ k
  | 0, n, s => by simp [txLoop]
  | k + 1, n, s => by
    unfold txLoop
    split
    · have := txLoop_bytes k (n - 1) (sOp s).2
      simp only [List.length_cons]; omega
    · simp
theorem txLoop_size : ∀ (k : Nat) (n : Int) (s : Sight), ∀ o ∈ (txLoop k n s).1, o.f1.size ≤ 140737488355328 ∧ o.f2.size ≤ 140737488355328
  | 0, n, s => by simp [txLoop]
  | k + 1, n, s => by
    intro o ho
    unfold txLoop at ho
    split at ho
    · rcases List.mem_cons.1 ho with rfl | ho
      · exact ⟨Nat.le_trans (sText_size _) (by omega), Nat.le_trans (sText_size _) (by omega)⟩
      · exact txLoop_size k _ _ o ho
    · simp at ho
set_option maxHeartbeats 4000000 in
set_option maxRecDepth 100000 in
theorem txparse_any (A : Option Addr) (c : Nat) (b : List Int) (w : World) (hr : Kd.C (Kd.int .u8) w A b.length b) (hc : b.length ≤ c) (hb : bytesOk b) (hl : b.length ≤ 1099511627776) :
    Calls Tryz.prog 15 #[.slice A b.length c] w fun e w' => ∃ v, e = .returned (.tuple #[v, .int .i64 (if okDone (txAll b).2 = true ∧ checkT (txAll b).1 = 0 ∧ laidOps (txAll b).1 = b then 0 else 80)]) ∧ Kd.R k63 63 w' w.heap.size (fun _ => True) v (if okDone (txAll b).2 = true ∧ checkT (txAll b).1 = 0 ∧ laidOps (txAll b).1 = b then (txAll b).1 else []) ∧ Below w.heap.size w w' := by
  have hop := flOpen_any A c b w (readsInt_of.2 (Kd.reads_of_C (d := (0 : Int)) hr)) (by omega)
  have HOP := Lib.hid hop
  have HX := Lib.hid (And.intro hr (And.intro hc (And.intro hb hl)))
  have HDL := Lib.hid (And.intro (txLoop_bytes 9 (sInt (b, false)).1 (sInt (b, false)).2) (txLoop_size 9 (sInt (b, false)).1 (sInt (b, false)).2))
  clear hop hr hc hb hl
  generalize hP : txAll b = PA at *
  rw [show txLoop 9 (sInt (b, false)).1 (sInt (b, false)).2 = PA from hP] at HDL
  have HPA := Lib.hid hP
  clear hP
  generalize her : (if okDone PA.2 = true ∧ checkT PA.1 = 0 ∧ laidOps PA.1 = b then (0 : Int) else 80) = er at *
  generalize hrr : (if okDone PA.2 = true ∧ checkT PA.1 = 0 ∧ laidOps PA.1 = b then PA.1 else []) = rr at *
  have HER := Lib.hid (And.intro her hrr)
  clear her hrr
  go_enter Tryz.func15, Tryz.ntmps15
  go_wp2_with fail
  refine HOP.out.mono ?_
  rintro e w1 ⟨g, ab, rfl, hg, hab, hE1, hb1⟩
  have hI := flInt_any (b, false) hE1 HX.out.2.2.1
  have HE := Lib.hid (And.intro hg (And.intro hab (And.intro hb1 hI)))
  clear hg hab hE1 hb1 hI
  go_wp2_with fail
  refine HE.out.2.2.2.mono ?_
  rintro e w2 ⟨rfl, hE2, hu2⟩
  have hb2 : Below w.heap.size w w2 := HE.out.2.2.1.trans (hu2.below HE.out.2.2.1.size (fun q hq e => by have := HE.out.1; omega))
  have hn0 := sInt_bnd (s := (b, false)) HX.out.2.2.1
  have hpa : txLoop 9 (sInt (b, false)).1 (sInt (b, false)).2 = PA := HPA.out
  have HS0 := Lib.hid (And.intro hE2 (And.intro hb2 (And.intro (sInt_bytes (s := (b, false)) HX.out.2.2.1) (And.intro (sInt_le (b, false)) hpa))))
  clear hE2 hu2 hb2 hpa
  generalize sInt (b, false) = s0 at *
  obtain ⟨n0, s0⟩ := s0
  simp only at hn0
  go_wp2
  go_loopw [2, 5, 6] (fun so sn _ wr => ∃ (ds : List S63) (A' : Option Addr) (c' : Nat) (n : Int) (s : Sight), so = .slice A' ds.length c' ∧ sn = .int .i64 n ∧ ds.length ≤ 9 ∧ -9223372036854775808 ≤ n ∧ n < 9223372036854775808 ∧ RowKit.Hid (Kd.R k63 63 wr w.heap.size (fun q => q ≠ g ∧ q ≠ ab) (.slice A' ds.length c') ds ∧ EyeIs wr g ab s.1 s.2 ∧ Below w.heap.size w wr ∧ bytesOk s.1 ∧ s.1.length ≤ b.length ∧ ds ++ (txLoop (9 - ds.length) n s).1 = PA.1 ∧ (txLoop (9 - ds.length) n s).2 = PA.2)) (fun so _ _ _ => 10 - (lenV so))
  case atStart => exact ⟨[], none, 0, n0, s0, rfl, rfl, by simp, hn0.1, hn0.2, Lib.hid ⟨Kd.R_nil _ _ _ _ _, HS0.out.1, HS0.out.2.1, HS0.out.2.2.1, HS0.out.2.2.2.1, by rw [← HS0.out.2.2.2.2]; rfl, by rw [← HS0.out.2.2.2.2]; rfl⟩⟩
  case round =>
    obtain ⟨ds, A', c', n, s, rfl, rfl, hk, hnl, hnh, HS⟩ := hrel
    by_cases hn : 0 < n ∧ ds.length ≤ 8
    · obtain ⟨hn, h8⟩ := hn
      obtain ⟨k, hk9⟩ : ∃ k, 9 - ds.length = k + 1 := ⟨8 - ds.length, by omega⟩
      obtain ⟨hS, hE, hB, hby, hle, hp1, hp2⟩ := HS.out
      rw [hk9, txLoop, if_pos hn] at hp1 hp2
      have hI := flInt_any s hE hby
      have hby1 := sInt_bytes hby
      have hT1 := fun (W : World) (h : EyeIs W g ab (sInt s).2.1 (sInt s).2.2) => flText_any (sInt s).2 h hby1
      have hby2 := sText_bytes hby1
      have hT2 := fun (W : World) (h : EyeIs W g ab (sText (sInt s).2).2.1 (sText (sInt s).2).2.2) => flText_any (sText (sInt s).2).2 h hby2
      have hby3 := sText_bytes hby2
      have hI2 := fun (W : World) (h : EyeIs W g ab (sText (sText (sInt s).2).2).2.1 (sText (sText (sInt s).2).2).2.2) => flInt_any (sText (sText (sInt s).2).2).2 h hby3
      have hby4 := sOp_bytes hby
      have hle4 := Nat.le_trans (sOp_le s) hle
      have hlv : ∀ q, (Value.slice A' ds.length c').ownBlock = some q → q < wr.heap.size := Kd.R_lt hS
      have hop : sOp s = (⟨(sInt s).1, (sText (sInt s).2).1, (sText (sText (sInt s).2).2).1, u64c (sInt (sText (sText (sInt s).2).2).2).1⟩, (sInt (sText (sText (sInt s).2).2).2).2) := rfl
      generalize hos : sOp s = os at *
      generalize sInt (sText (sText (sInt s).2).2).2 = xN at *
      generalize sText (sText (sInt s).2).2 = t2 at *
      generalize sText (sInt s).2 = t1 at *
      generalize sInt s = xI at *
      obtain ⟨x0, s1⟩ := xI
      obtain ⟨x1, s2⟩ := t1
      obtain ⟨x2, s3⟩ := t2
      obtain ⟨x3, s4⟩ := xN
      simp only at hop
      subst hop
      simp only at hp1 hp2 hI hT1 hT2 hI2 hby4 hle4
      have HY := Lib.hid (And.intro hS (And.intro hB (And.intro hby4 (And.intro hle4 (And.intro hp1 (And.intro hp2 (And.intro hk9 hlv)))))))
      have HI := Lib.hid hI; have HT1 := Lib.hid hT1; have HT2 := Lib.hid hT2; have HI2 := Lib.hid hI2
      have HGE := Lib.hid (And.intro hE.lt hE.old)
      have dn : decide (0 < n) = true := decide_eq_true hn
      have d8 : decide ((ds.length : Int) ≤ 8) = true := decide_eq_true (by omega)
      clear hS hE hB hby hle hp1 hp2 hI hT1 hT2 hI2 hby1 hby2 hby3 hby4 hle4 hlv hk9 HS hos
      go_wp2_with fail
      refine HI.out.mono ?_
      rintro e w3 ⟨rfl, hE3, hu3⟩
      have HN3 := Lib.hid (And.intro (HT1.out w3 hE3) hu3)
      clear hE3 hu3
      go_wp2_with fail
      refine HN3.out.1.mono ?_
      rintro e w4 ⟨rfl, hE4, hu4⟩
      have HN4 := Lib.hid (And.intro (HT2.out w4 hE4) (HN3.out.2.trans hu4))
      clear hE4 hu4
      go_wp2_with fail
      refine HN4.out.1.mono ?_
      rintro e w5 ⟨rfl, hE5, hu5⟩
      have hb6 : Below w5.heap.size w5 (w5.alloc (.cells #[.int .i64 x0, .string x1, .string x2, .int .u64 0] 63)) := (Below.refl _ _).alloc (Nat.le_refl _) _
      have hT6 : Blk (w5.alloc (.cells #[.int .i64 x0, .string x1, .string x2, .int .u64 0] 63)) w5.heap.size 63 #[.int .i64 x0, .string x1, .string x2, .int .u64 0] := Blk.new w5 63 _
      have hu5' : Upd wr w5 (· = g) := HN4.out.2.trans hu5
      have hg5 : g < w5.heap.size := Nat.lt_of_lt_of_le HGE.out.1 hu5'.size
      have hsz5 : wr.heap.size ≤ w5.heap.size := hu5'.size
      have HN5 := Lib.hid (And.intro (HI2.out _ (hE5.below hb6)) (And.intro (hu5'.then_below hb6) hT6))
      clear hE5 hu5 hb6 hT6 hu5'
      go_wp2_with fail
      refine HN5.out.1.mono ?_
      rintro e w7 ⟨rfl, hE7, hu7⟩
      have hT7 : Blk w7 w5.heap.size 63 #[.int .i64 x0, .string x1, .string x2, .int .u64 0] := HN5.out.2.2.upd hu7 (fun e => by omega)
      have k0 := hT7.cell 0
      have k1 := hT7.cell 1
      have k2 := hT7.cell 2
      have k3 := hT7.cell 3
      have kz := hT7.frozen 3
      have hgw : w.heap.size ≤ g := HE.out.1
      have haw : w.heap.size ≤ ab := HE.out.2.1
      obtain ⟨W, hW⟩ : ∃ W, w7.setCell ⟨w5.heap.size, 3, none⟩ (.int .u64 (IntKind.u64.wrap x3)) = W := ⟨_, rfl⟩
      have huW : Upd wr W (· = g) := hW ▸ (HN5.out.2.1.trans hu7).setCell (p := ⟨w5.heap.size, 3, none⟩) (.inr hsz5) _
      have hTW : Blk W w5.heap.size 63 #[.int .i64 x0, .string x1, .string x2, .int .u64 (IntKind.u64.wrap x3)] := hW ▸ hT7.set_ 3 _
      have hEW : EyeIs W g ab s4.1 s4.2 := hW ▸ hE7.upd ((Upd.refl w7 (· = w5.heap.size)).setCell (p := ⟨w5.heap.size, 3, none⟩) (.inl rfl) _) (fun e => by omega) (fun e => by have := HGE.out.2; omega)
      have hbW : Below w.heap.size w W := HY.out.2.1.trans (huW.below HY.out.2.1.size (fun q hq e => by omega))
      have l0 := hTW.cell 0
      have l1 := hTW.cell 1
      have l2 := hTW.cell 2
      have l3 := hTW.cell 3
      have HNW := Lib.hid (And.intro huW (And.intro hEW hbW))
      clear huW hTW hEW hbW hE7 hu7
      go_wp2_with (first | ((with_reducible refine gate_builtin (b := .append) (xs := #[.tmp 31, .tmp 33]) rfl ?_); at_builtin; refine stop_append rfl ?_))
      refine Lib.hid ?_;refine Kd.R_append k63 (w0 := w) w.heap.size rfl (.tmp 31) (.tmp 33) 22 63 (.agg #[.int .i64 0, .string ⟨#[]⟩, .string ⟨#[]⟩, .int .u64 0]) 48 rfl Tryz.underlying22 info63 rfl (by decide) (by decide) (.slice A' ds.length c') ds ⟨x0, x1, x2, u64c x3⟩ [.int .i64 x0, .string x1, .string x2, .int .u64 (IntKind.u64.wrap x3)] (fun q => q ≠ g ∧ q ≠ ab) (fun _ => False) rfl rfl (k63_mkM _ _ _ _) (fun _ h => h.elim) ?_ ?_ HNW.out.2.2 HNW.out.2.2.size (by omega) ?_
      · intro q hq
        have := HGE.out
        have := HNW.out.1.size
        exact ⟨by omega, by omega⟩
      · exact Kd.R_step HY.out.1 (fun q hq hql => HNW.out.1.block q hql hq.1)
      intro v9 w9 hS9 hB9 hg9 hat9
      have hln : (ds ++ [(⟨x0, x1, x2, u64c x3⟩ : S63)]).length = ds.length + 1 := by simp
      obtain ⟨A9, c9, e9⟩ := Kd.R_slice hS9
      have hE9 : EyeIs w9 g ab s4.1 s4.2 := by
        have hu9 : Upd W w9 (fun q => some q = (Value.slice A' ds.length c').ownBlock) := Upd.of_grown hg9 (fun q hq => hq.symm)
        exact HNW.out.2.1.upd hu9 (fun h => (HY.out.1.1 g h.symm).1 rfl) (fun h => (HY.out.1.1 ab h.symm).2 rfl)
      have HN9 := Lib.hid (And.intro hS9 (And.intro hB9 hE9))
      rw [e9, hln] at HN9
      rw [e9, hln]
      clear hS9 hB9 hg9 hat9 e9 hE9
      go_wp2_with fail
      go_roundw
      case rel =>
        refine ⟨ds ++ [⟨x0, x1, x2, u64c x3⟩], A9, c9, n - 1, s4, by rw [hln], by go_num, by omega, by omega, by omega, Lib.hid ⟨by rw [hln]; exact HN9.out.1, HN9.out.2.2, HN9.out.2.1, HY.out.2.2.1, HY.out.2.2.2.1, ?_, ?_⟩⟩
        · rw [hln, show 9 - (ds.length + 1) = k by have := HY.out.2.2.2.2.2.2.1; omega, List.append_assoc]; exact HY.out.2.2.2.2.1
        · rw [hln, show 9 - (ds.length + 1) = k by have := HY.out.2.2.2.2.2.2.1; omega]; exact HY.out.2.2.2.2.2.1
      case measure => simp [lenV]; omega
    · obtain ⟨hS, hE, hB, hby, hle, hp1, hp2⟩ := HS.out
      have hz : txLoop (9 - ds.length) n s = ([], s) := by
        rcases Nat.lt_or_ge ds.length 9 with h | h
        · obtain ⟨k, hk9⟩ : ∃ k, 9 - ds.length = k + 1 := ⟨8 - ds.length, by omega⟩
          rw [hk9, txLoop, if_neg (by omega)]
        · rw [show 9 - ds.length = 0 by omega]; rfl
      rw [hz] at hp1 hp2
      simp only [List.append_nil] at hp1 hp2
      obtain ⟨D, F⟩ := PA
      simp only at hp1 hp2
      subst hp1 hp2
      have hdone := flDone_any s hE
      obtain ⟨hnil, hcd, hC⟩ := Kd.R_reads' hS
      have hchk := txn_Check.calls A' c' ds (checkT ds) wr hC hcd rfl
      have hlv : ∀ q, (Value.slice A' ds.length c').ownBlock = some q → q < wr.heap.size := Kd.R_lt hS
      obtain ⟨dv, hdv⟩ : ∃ dv, (if s.2 = true ∨ s.1.length ≠ 0 then (20 : Int) else 0) = dv := ⟨_, rfl⟩
      rw [hdv] at hdone
      have hok : okDone s = decide (dv = 0) := by
        rw [← hdv]
        unfold okDone
        split
        · rename_i h; rw [decide_eq_false (fun hn => hn h)]; rfl
        · rename_i h; rw [decide_eq_true h]; rfl
      have hput := fun (W : World) (h : Below wr.heap.size wr W) => txput_any A' c' ds W (Kd.C_below hC h) (by omega) HDL.out.2
      have HZ := Lib.hid (And.intro hdone (And.intro hchk (And.intro hput (And.intro hok (And.intro hS hB)))))
      clear hS hE hB hby hle hz hdone hcd hC hchk hlv hdv hok hput HS hnil
      have hW : ∀ W, Below wr.heap.size wr W → Below w.heap.size w W := fun W h => HZ.out.2.2.2.2.2.trans (h.mono HZ.out.2.2.2.2.2.size)
      have HW := Lib.hid hW
      clear hW
      have hexit : (0 < n ∧ decide ((ds.length : Int) ≤ 8) = false) ∨ ¬ 0 < n := by
        by_cases h0 : 0 < n
        · exact .inl ⟨h0, decide_eq_false (fun h => hn ⟨h0, by omega⟩)⟩
        · exact .inr h0
      clear hn
      rcases hexit with ⟨h0, h8⟩ | h0
      · have d0 : decide (0 < n) = true := decide_eq_true h0
        go_wp2_with fail
        refine HZ.out.1.mono ?_
        rintro e w7 ⟨rfl, rfl⟩
        by_cases hd : dv = 0
        · subst hd
          have hko : okDone s = true := HZ.out.2.2.2.1
          have HKO := Lib.hid hko
          clear hko
          go_wp2_with fail
          refine HZ.out.2.1.mono ?_
          rintro e w8 ⟨rfl, hb8⟩
          have HB8 := Lib.hid hb8
          clear hb8
          by_cases hq0 : checkT ds = 0
          · rw [hq0]
            have HQ0 := Lib.hid hq0
            clear hq0
            go_wp2_with fail
            refine (HZ.out.2.2.1 w8 HB8.out).mono ?_
            rintro e w9 ⟨v9, rfl, ho9, hb9⟩
            have HB9 := Lib.hid (HB8.out.trans (hb9.mono HB8.out.size))
            obtain ⟨A9, c9, e9, hc9, hC9⟩ := Kd.R_reads (Kd.R_of_own ho9 (fun _ _ => trivial) : Kd.R (Kd.int .u8) 5 w9 w8.heap.size (fun _ => True) v9 (laidOps ds))
            subst e9
            have heq := slices_Equal_byte_byte.calls _ A9 c9 (laidOps ds) A c b _ w9 hC9 hc9 (Kd.C_below HX.out.1 (HW.out _ HB9.out)) HX.out.2.1 (eqBf (laidOps ds) b (by have h6 := laidOs_len ds; have := HDL.out.1; unfold laidOps; rw [List.length_append, laidI_len]; omega))
            have HEQ := Lib.hid heq
            clear heq ho9 hb9 hc9 hC9
            by_cases he : laidOps ds = b
            · have hr : decide (laidOps ds = b) = true := decide_eq_true he
              rw [hr] at HEQ
              have HHE := Lib.hid he
              clear he hr
              go_wp2_with fail
              refine HEQ.out.mono ?_
              rintro e w10 ⟨rfl, hd10⟩
              have HB10 := Lib.hid (HB9.out.trans (hd10.below.mono HB9.out.size))
              clear hd10
              go_wp2
              go_ret2
              have e1 : er = 0 := HER.out.1.symm.trans (if_pos ⟨HKO.out, HQ0.out, HHE.out⟩)
              have e2 : rr = ds := HER.out.2.symm.trans (if_pos ⟨HKO.out, HQ0.out, HHE.out⟩)
              rw [e1, e2]
              refine ⟨_, rfl, ?_, HW.out _ HB10.out⟩
              exact Kd.R_mono (Kd.R_below HZ.out.2.2.2.2.1 HB10.out) (fun _ _ => trivial)
            · have hr : decide (laidOps ds = b) = false := decide_eq_false he
              rw [hr] at HEQ
              have HHE := Lib.hid he
              clear he hr
              go_wp2_with fail
              refine HEQ.out.mono ?_
              rintro e w10 ⟨rfl, hd10⟩
              have HB10 := Lib.hid (HB9.out.trans (hd10.below.mono HB9.out.size))
              clear hd10
              go_wp2
              go_ret2
              have e1 : er = 80 := HER.out.1.symm.trans (if_neg (fun h => HHE.out h.2.2))
              have e2 : rr = [] := HER.out.2.symm.trans (if_neg (fun h => HHE.out h.2.2))
              rw [e1, e2]
              refine ⟨_, rfl, ?_, HW.out _ HB10.out⟩
              exact Kd.R_nil _ _ _ _ _
          · have HQ := Lib.hid hq0
            have hqb : (checkT ds == 0) = false := beq_eq_false_iff_ne.2 hq0
            have hqc : (checkT ds != 0) = true := bne_iff_ne.2 hq0
            clear hq0
            generalize hck : checkT ds = ck at *
            have HCK := Lib.hid hck
            clear hck
            go_wp2
            go_ret2
            have hno : ¬ (okDone s = true ∧ ck = 0 ∧ laidOps ds = b) := fun h => HQ.out h.2.1
            have e1 : er = 80 := HER.out.1.symm.trans (if_neg hno)
            have e2 : rr = [] := HER.out.2.symm.trans (if_neg hno)
            rw [e1, e2]
            refine ⟨_, rfl, ?_, HW.out _ HB8.out⟩
            exact Kd.R_nil _ _ _ _ _
        · have hko : okDone s = false := by rw [HZ.out.2.2.2.1]; exact decide_eq_false hd
          have HKO := Lib.hid hko
          clear hko
          have hqb : (dv == 0) = false := beq_eq_false_iff_ne.2 hd
          have hqc : (dv != 0) = true := bne_iff_ne.2 hd
          clear hd
          go_wp2
          go_ret2
          have hno : ¬ (okDone s = true ∧ checkT ds = 0 ∧ laidOps ds = b) := fun h => by rw [HKO.out] at h; exact absurd h.1 (by decide)
          have e1 : er = 80 := HER.out.1.symm.trans (if_neg hno)
          have e2 : rr = [] := HER.out.2.symm.trans (if_neg hno)
          rw [e1, e2]
          refine ⟨_, rfl, ?_, HW.out _ (Below.refl _ _)⟩
          exact Kd.R_nil _ _ _ _ _
      · have d0 : decide (0 < n) = false := decide_eq_false h0
        go_wp2_with fail
        refine HZ.out.1.mono ?_
        rintro e w7 ⟨rfl, rfl⟩
        by_cases hd : dv = 0
        · subst hd
          have hko : okDone s = true := HZ.out.2.2.2.1
          have HKO := Lib.hid hko
          clear hko
          go_wp2_with fail
          refine HZ.out.2.1.mono ?_
          rintro e w8 ⟨rfl, hb8⟩
          have HB8 := Lib.hid hb8
          clear hb8
          by_cases hq0 : checkT ds = 0
          · rw [hq0]
            have HQ0 := Lib.hid hq0
            clear hq0
            go_wp2_with fail
            refine (HZ.out.2.2.1 w8 HB8.out).mono ?_
            rintro e w9 ⟨v9, rfl, ho9, hb9⟩
            have HB9 := Lib.hid (HB8.out.trans (hb9.mono HB8.out.size))
            obtain ⟨A9, c9, e9, hc9, hC9⟩ := Kd.R_reads (Kd.R_of_own ho9 (fun _ _ => trivial) : Kd.R (Kd.int .u8) 5 w9 w8.heap.size (fun _ => True) v9 (laidOps ds))
            subst e9
            have heq := slices_Equal_byte_byte.calls _ A9 c9 (laidOps ds) A c b _ w9 hC9 hc9 (Kd.C_below HX.out.1 (HW.out _ HB9.out)) HX.out.2.1 (eqBf (laidOps ds) b (by have h6 := laidOs_len ds; have := HDL.out.1; unfold laidOps; rw [List.length_append, laidI_len]; omega))
            have HEQ := Lib.hid heq
            clear heq ho9 hb9 hc9 hC9
            by_cases he : laidOps ds = b
            · have hr : decide (laidOps ds = b) = true := decide_eq_true he
              rw [hr] at HEQ
              have HHE := Lib.hid he
              clear he hr
              go_wp2_with fail
              refine HEQ.out.mono ?_
              rintro e w10 ⟨rfl, hd10⟩
              have HB10 := Lib.hid (HB9.out.trans (hd10.below.mono HB9.out.size))
              clear hd10
              go_wp2
              go_ret2
              have e1 : er = 0 := HER.out.1.symm.trans (if_pos ⟨HKO.out, HQ0.out, HHE.out⟩)
              have e2 : rr = ds := HER.out.2.symm.trans (if_pos ⟨HKO.out, HQ0.out, HHE.out⟩)
              rw [e1, e2]
              refine ⟨_, rfl, ?_, HW.out _ HB10.out⟩
              exact Kd.R_mono (Kd.R_below HZ.out.2.2.2.2.1 HB10.out) (fun _ _ => trivial)
            · have hr : decide (laidOps ds = b) = false := decide_eq_false he
              rw [hr] at HEQ
              have HHE := Lib.hid he
              clear he hr
              go_wp2_with fail
              refine HEQ.out.mono ?_
              rintro e w10 ⟨rfl, hd10⟩
              have HB10 := Lib.hid (HB9.out.trans (hd10.below.mono HB9.out.size))
              clear hd10
              go_wp2
              go_ret2
              have e1 : er = 80 := HER.out.1.symm.trans (if_neg (fun h => HHE.out h.2.2))
              have e2 : rr = [] := HER.out.2.symm.trans (if_neg (fun h => HHE.out h.2.2))
              rw [e1, e2]
              refine ⟨_, rfl, ?_, HW.out _ HB10.out⟩
              exact Kd.R_nil _ _ _ _ _
          · have HQ := Lib.hid hq0
            have hqb : (checkT ds == 0) = false := beq_eq_false_iff_ne.2 hq0
            have hqc : (checkT ds != 0) = true := bne_iff_ne.2 hq0
            clear hq0
            generalize hck : checkT ds = ck at *
            have HCK := Lib.hid hck
            clear hck
            go_wp2
            go_ret2
            have hno : ¬ (okDone s = true ∧ ck = 0 ∧ laidOps ds = b) := fun h => HQ.out h.2.1
            have e1 : er = 80 := HER.out.1.symm.trans (if_neg hno)
            have e2 : rr = [] := HER.out.2.symm.trans (if_neg hno)
            rw [e1, e2]
            refine ⟨_, rfl, ?_, HW.out _ HB8.out⟩
            exact Kd.R_nil _ _ _ _ _
        · have hko : okDone s = false := by rw [HZ.out.2.2.2.1]; exact decide_eq_false hd
          have HKO := Lib.hid hko
          clear hko
          have hqb : (dv == 0) = false := beq_eq_false_iff_ne.2 hd
          have hqc : (dv != 0) = true := bne_iff_ne.2 hd
          clear hd
          go_wp2
          go_ret2
          have hno : ¬ (okDone s = true ∧ checkT ds = 0 ∧ laidOps ds = b) := fun h => by rw [HKO.out] at h; exact absurd h.1 (by decide)
          have e1 : er = 80 := HER.out.1.symm.trans (if_neg hno)
          have e2 : rr = [] := HER.out.2.symm.trans (if_neg hno)
          rw [e1, e2]
          refine ⟨_, rfl, ?_, HW.out _ (Below.refl _ _)⟩
          exact Kd.R_nil _ _ _ _ _
instance (b : List Int) : Decidable (bytesOk b) := inferInstanceAs (Decidable (∀ x ∈ b, 0 ≤ x ∧ x < 256))
def parseT (b : List Int) : List S63 × Int := (if okDone (txAll b).2 = true ∧ checkT (txAll b).1 = 0 ∧ laidOps (txAll b).1 = b then (txAll b).1 else [], if okDone (txAll b).2 = true ∧ checkT (txAll b).1 = 0 ∧ laidOps (txAll b).1 = b then 0 else 80)
def txn_Parse.f (b : List Int) : Option (List S63 × Int) := if bytesOk b ∧ b.length ≤ 1099511627776 then some (parseT b) else none
theorem txn_Parse.calls (A0 : Option Addr) (c0 : Nat) (l0 : List Int) (r0 : List S63) (r1 : Int) (w : World) (hr0 : Kd.C (Kd.int .u8) w A0 l0.length l0) (hc0 : l0.length ≤ c0) (h : txn_Parse.f l0 = some (r0, r1)) :
    Calls Tryz.prog 15 #[.slice A0 l0.length c0] w fun e w' => ∃ v0_ : Value, e = .returned (.tuple #[v0_, .int .i64 r1]) ∧ Kd.R k63 63 w' w.heap.size (fun _ => True) v0_ r0 ∧ Below w.heap.size w w' := by
  unfold txn_Parse.f at h
  split at h
  · rename_i hc
    injection h with h
    unfold parseT at h
    injection h with h0 h1
    subst h0 h1
    exact txparse_any A0 c0 l0 w hr0 hc0 hc.1 hc.2
  · cases h
end Go.Proofs.YtgmlenpcchhmbaaGreat.P
end
section
set_option linter.unusedVariables false
set_option linter.unusedSimpArgs false
namespace Go.Proofs.YtgmlenpcchhmbaaGreat.P
open Go.RowKit Go.Proofs.YtgmlenpcchhmbaaGreatW.PrintWords Go.Proofs.YtgmlenpcchhmbaaGreatW.PrintLast Go.Proofs.YtgmlenpcchhmbaaGreatW.PrintMore
attribute [local go_sem] max2_int min2_int max_two min_two max_three min_three max_four min_four   -- for this text's walks alone
theorem eqA69 (d : Nat) (w : World) (x0 y0 : ByteArray) (x1 y1 : Int) (x2 y2 : Bool) :
  (Op.equalIn (d + 2) 69 (.agg #[.string x0, .int .u64 x1, .bool x2]) (.agg #[.string y0, .int .u64 y1, .bool y2])).run Tryz.prog w = .ok (x0.toList == y0.toList && (x1 == y1 && (x2 == y2))) w := by
 refine eqA_of Tryz.underlying69 (by kernel_rfl) ?_;refine eqf_cons (by rfl) (by go_simp; rfl) (by go_simp; rfl) (by go_simp) ?_;refine eqf_cons (by rfl) (by go_simp; rfl) (by go_simp; rfl) (by go_simp) ?_
 exact eqf_last (by rfl) (by go_simp; rfl) (by go_simp; rfl) (by go_simp)
end Go.Proofs.YtgmlenpcchhmbaaGreat.P
end
section
set_option linter.unusedVariables false
set_option linter.unusedSimpArgs false
namespace Go.Proofs.YtgmlenpcchhmbaaGreat.P
open Go.RowKit Go.Proofs.YtgmlenpcchhmbaaGreatW.PrintWords Go.Proofs.YtgmlenpcchhmbaaGreatW.PrintLast Go.Proofs.YtgmlenpcchhmbaaGreatW.PrintMore
attribute [local go_sem] max2_int min2_int max_two min_two max_three min_three max_four min_four   -- for this text's walks alone
attribute [local go_sem high] eqA69
def folkmootref08_WritesSame.l0 : Nat → List (S69) → List (S69) → Int → Option (Bool)
 | 0, _, _, _ => none
 | k + 1, x0, x1, x5 => if x5 < (x0.length : Int) then (if 0 ≤ x5 then (if x5 < (x1.length : Int) then (if (!((((rd_T69 x0 x5).f0).toList) == (((rd_T69 x1 x5).f0).toList)) || (!(((rd_T69 x0 x5).f1) == ((rd_T69 x1 x5).f1)) || (!(((rd_T69 x0 x5).f2) == ((rd_T69 x1 x5).f2))))) = true then (some false) else (folkmootref08_WritesSame.l0 k x0 x1 (wrap64 (x5 + 1)))) else (none)) else (none)) else (some true)
def folkmootref08_WritesSame.f (k : Nat) (l0 : List (S69)) (l1 : List (S69)) : Option (Bool) := if (l0.length : Int) = (l1.length : Int) then (folkmootref08_WritesSame.l0 k l0 l1 0) else (some false)
set_option maxHeartbeats 8000000 in
set_option maxRecDepth 100000 in
theorem folkmootref08_WritesSame.calls (k : Nat) (A0 : Option Addr) (c0 : Nat) (l0 : List (S69)) (A1 : Option Addr) (c1 : Nat) (l1 : List (S69)) (r : Bool) (w : World) (hr0 : Kd.C k69 w A0 l0.length l0) (hc0 : l0.length ≤ c0) (hr1 : Kd.C k69 w A1 l1.length l1) (hc1 : l1.length ≤ c1) (h : folkmootref08_WritesSame.f k l0 l1 = some r) :
  Calls Tryz.prog 29 #[.slice A0 l0.length c0, .slice A1 l1.length c1] w fun e w' => e = .returned (.bool r) ∧ Drawn0 w w' := by
 have hu69 := Tryz.underlying69
 have HR0 := Aside0.mk hr0
 have HC0 := Aside0.mk hc0
 clear hr0 hc0
 have HR1 := Aside0.mk hr1
 have HC1 := Aside0.mk hc1
 clear hr1 hc1
 have H : (if (l0.length : Int) = (l1.length : Int) then (folkmootref08_WritesSame.l0 k l0 l1 0) else (some false)) = some r := h
 clear h
 by_cases c3 : (l0.length : Int) = (l1.length : Int)
 ·rw [if_pos c3] at H
  have c3b0 : ((l0.length : Int) == (l1.length : Int)) = true := beq_iff_eq.mpr c3
  have c3b1 : ((l0.length : Int) != (l1.length : Int)) = false := bne_eq_false_iff_eq.mpr c3
  have c3b2 : (l0.length == l1.length) = true := by first | simpa using c3 | (simp at c3 ⊢; omega)
  clear c3
  have H' := Aside0.mk H
  clear H
  go_enter Tryz.func29, Tryz.ntmps29
  go_wp2
  repeat (go_quiet (fail); try go_wp2)
  go_loopg [5] k (fun kq v5 w' => ∃ (x5_1 : Int), v5 = .int .i64 x5_1 ∧ Aside0 (folkmootref08_WritesSame.l0 kq l0 l1 x5_1 = some r) ∧ Aside0 (kq ≤ k) ∧ Drawn0 w w')
  case atStart => exact ⟨(0), (by first | rfl | (rw [bl_gt] <;> rfl) | (simp; done) | (simp [*]; done)), H', ⟨Nat.le_refl _⟩, by repeat (first | exact Drawn0.refl _ | apply Drawn0.step)⟩
  case round =>
   clear H'
   try clear c1
   try clear c2
   try clear p2
   try clear c3
   try clear c3b0
   try clear c3b1
   try clear c3b2
   obtain ⟨x5_1, rfl, HA, HK1, ⟨m1, rfl⟩⟩ := hrel
   cases gk with
   | zero => exact absurd HA.out (by simp [folkmootref08_WritesSame.l0])
   | succ k1 =>
    have H := HA.out;clear HA
    simp only [folkmootref08_WritesSame.l0] at H
    by_cases c4 : x5_1 < (l0.length : Int)
    ·rw [if_pos c4] at H
     have c4b0 : decide (x5_1 < (l0.length : Int)) = true := decide_eq_true c4
     clear c4
     by_cases c5 : 0 ≤ x5_1
     ·rw [if_pos c5] at H
      have c5b0 : decide (0 ≤ x5_1) = true := decide_eq_true c5
      clear c5
      by_cases c6 : x5_1 < (l1.length : Int)
      ·rw [if_pos c6] at H
       have c6b0 : decide (x5_1 < (l1.length : Int)) = true := decide_eq_true c6
       clear c6
       by_cases c7 : (!((((rd_T69 l0 x5_1).f0).toList) == (((rd_T69 l1 x5_1).f0).toList)) || (!(((rd_T69 l0 x5_1).f1) == ((rd_T69 l1 x5_1).f1)) || (!(((rd_T69 l0 x5_1).f2) == ((rd_T69 l1 x5_1).f2))))) = true
       ·rw [if_pos c7] at H
        have c7b0 : (!((((rd_T69 l0 x5_1).f0).toList) == (((rd_T69 l1 x5_1).f0).toList)) || (!(((rd_T69 l0 x5_1).f1) == ((rd_T69 l1 x5_1).f1)) || (!(((rd_T69 l0 x5_1).f2) == ((rd_T69 l1 x5_1).f2))))) = true := c7
        clear c7;obtain rfl := Option.some.inj H
        have p589 : 0 ≤ (x5_1 : Int) := of_decide_eq_true (by first | (with_reducible assumption) | assumption)
        have q589 : x5_1 < (l0.length : Int) := of_decide_eq_true (by first | (with_reducible assumption) | assumption)
        obtain ⟨ad589, e589, hx589_0, hx589_1, hx589_2⟩ := at_T69 HR0.out x5_1 p589 q589
        cases e589
        replace p589 := eq_true p589
        replace q589 := eq_true q589
        have p590 : 0 ≤ (x5_1 : Int) := of_decide_eq_true (by first | (with_reducible assumption) | assumption)
        have q590 : x5_1 < (l1.length : Int) := of_decide_eq_true (by first | (with_reducible assumption) | assumption)
        obtain ⟨ad590, e590, hx590_0, hx590_1, hx590_2⟩ := at_T69 HR1.out x5_1 p590 q590
        cases e590
        replace p590 := eq_true p590
        replace q590 := eq_true q590
        go_wp2
        repeat (go_quiet (fail); try go_wp2)
        go_ret
        exact ⟨by first | rfl | (simp; done) | (simp [*]; done), by repeat (first | exact Drawn0.refl _ | apply Drawn0.step)⟩
       ·rw [if_neg c7] at H
        have c7b0 : (!((((rd_T69 l0 x5_1).f0).toList) == (((rd_T69 l1 x5_1).f0).toList)) || (!(((rd_T69 l0 x5_1).f1) == ((rd_T69 l1 x5_1).f1)) || (!(((rd_T69 l0 x5_1).f2) == ((rd_T69 l1 x5_1).f2))))) = false := by simpa using c7
        clear c7
        have H' := Aside0.mk H
        clear H
        have p589 : 0 ≤ (x5_1 : Int) := of_decide_eq_true (by first | (with_reducible assumption) | assumption)
        have q589 : x5_1 < (l0.length : Int) := of_decide_eq_true (by first | (with_reducible assumption) | assumption)
        obtain ⟨ad589, e589, hx589_0, hx589_1, hx589_2⟩ := at_T69 HR0.out x5_1 p589 q589
        cases e589
        replace p589 := eq_true p589
        replace q589 := eq_true q589
        have p590 : 0 ≤ (x5_1 : Int) := of_decide_eq_true (by first | (with_reducible assumption) | assumption)
        have q590 : x5_1 < (l1.length : Int) := of_decide_eq_true (by first | (with_reducible assumption) | assumption)
        obtain ⟨ad590, e590, hx590_0, hx590_1, hx590_2⟩ := at_T69 HR1.out x5_1 p590 q590
        cases e590
        replace p590 := eq_true p590
        replace q590 := eq_true q590
        go_wp2
        repeat (go_quiet (fail); try go_wp2)
        go_roundg k1
        case measure => have := HK1.out; omega
        case rel => exact ⟨(wrap64 (x5_1 + 1)), (by first | rfl | (rw [bl_gt] <;> rfl) | (simp; done) | (simp [*]; done)), H', ⟨by have := HK1.out; omega⟩, by repeat (first | exact Drawn0.refl _ | apply Drawn0.step)⟩
      ·rw [if_neg c6] at H
       exact absurd H (by simp)
     ·rw [if_neg c5] at H
      exact absurd H (by simp)
    ·rw [if_neg c4] at H
     have c4b0 : decide (x5_1 < (l0.length : Int)) = false := decide_eq_false c4
     clear c4;obtain rfl := Option.some.inj H
     go_wp2
     repeat (go_quiet (fail); try go_wp2)
     go_ret
     exact ⟨by first | rfl | (simp; done) | (simp [*]; done), by repeat (first | exact Drawn0.refl _ | apply Drawn0.step)⟩
 ·rw [if_neg c3] at H
  have c3b0 : ((l0.length : Int) == (l1.length : Int)) = false := beq_eq_false_iff_ne.mpr c3
  have c3b1 : ((l0.length : Int) != (l1.length : Int)) = true := bne_iff_ne.mpr c3
  have c3b2 : (l0.length == l1.length) = false := by first | simpa using c3 | (simp at c3 ⊢; omega)
  obtain rfl := Option.some.inj H
  go_enter Tryz.func29, Tryz.ntmps29
  go_wp2
  repeat (go_quiet (fail); try go_wp2)
  go_ret
  exact ⟨by first | rfl | (simp; done) | (simp [*]; done), by repeat (first | exact Drawn0.refl _ | apply Drawn0.step)⟩
end Go.Proofs.YtgmlenpcchhmbaaGreat.P
end
section
set_option linter.unusedVariables false
set_option linter.unusedSimpArgs false
namespace Go.Proofs.YtgmlenpcchhmbaaGreat.P
open Go.RowKit Go.Proofs.YtgmlenpcchhmbaaGreatW.PrintWords Go.Proofs.YtgmlenpcchhmbaaGreatW.PrintLast Go.Proofs.YtgmlenpcchhmbaaGreatW.PrintMore
attribute [local go_sem] max2_int min2_int max_two min_two max_three min_three max_four min_four   -- for this text's walks alone
def folkmootref08_Answers.l0 : Nat → List (S65) → List (S65) → Int → Option (Bool)
 | 0, _, _, _ => none
 | k + 1, x0, x1, x5 => if x5 < (x0.length : Int) then (if 0 ≤ x5 then (if x5 < (x1.length : Int) then (if (((rd_T65 x0 x5).f0) != ((rd_T65 x1 x5).f0)) = true then (some false) else (if ((rd_T65 x0 x5).f1) = ((rd_T65 x1 x5).f1) then ((folkmootref08_Pairs.f k ((rd_T65 x0 x5).f2) ((rd_T65 x1 x5).f2)).bind fun t231 => (if t231 = true then (folkmootref08_Answers.l0 k x0 x1 (wrap64 (x5 + 1))) else (some false))) else (some false))) else (none)) else (none)) else (some true)
def folkmootref08_Answers.f (k : Nat) (l0 : List (S65)) (l1 : List (S65)) : Option (Bool) := if (l0.length : Int) = (l1.length : Int) then (folkmootref08_Answers.l0 k l0 l1 0) else (some false)
def folkmootref08_Answers.T6 : Bool × List (List Nat × List Nat) := (true, [([], []), ([], []), ([0, 1], [0, 1]), ([2], [2]), ([3], [3]), ([], []), ([], []), ([5, 6], [5, 6]), ([7], [7]), ([8], [8]), ([4, 9], [4, 9]), ([10], [10]), ([11], [11]), ([11], [11]), ([12, 13, 11], [11, 12, 13]), ([14, 11], [11, 14]), ([15, 11], [11, 15]), ([11], [11]), ([11], [11]), ([17, 18, 11], [11, 17, 18]), ([19, 11], [11, 19]), ([20, 11], [11, 20]), ([16, 21, 11], [11, 16, 21]), ([11, 22], [11, 22]), ([23, 11], [23]), ([24], [24]), ([24], [24]), ([25, 26, 24], [24, 25, 26]), ([27, 24], [24, 27]), ([28, 24], [24, 28]), ([24], [24]), ([24], [24]), ([30, 31, 24], [24, 30, 31]), ([32, 24], [24, 32]), ([33, 24], [24, 33]), ([29, 34, 24, 24], [24, 29, 34]), ([35, 24], [24, 35]), ([24, 36], [24, 36])])
def folkmootref08_Answers.B6 : List Nat := [0, 0, 3, 7, 15, 0, 0, 96, 224, 480, 1023, 2047, 4095, 4095, 16383, 32767, 65535, 4095, 4095, 397311, 921599, 1970175, 4194303, 8388607, 16777215, 33554431, 33554431, 134217727, 268435455, 536870911, 33554431, 33554431, 3254779903, 7549747199, 16139681791, 34359738367, 68719476735, 137438953471]
theorem folkmootref08_Answers.tab6 : rtab .any (opsOf Tryz.f30 6) = folkmootref08_Answers.T6 := by kernel_rfl
theorem folkmootref08_Answers.bits6 : waitsOk folkmootref08_Answers.T6.2 folkmootref08_Answers.B6 = true := by kernel_rfl
set_option maxHeartbeats 8000000 in
set_option maxRecDepth 100000 in
theorem folkmootref08_Answers.calls (k : Nat) (A0 : Option Addr) (c0 : Nat) (l0 : List (S65)) (A1 : Option Addr) (c1 : Nat) (l1 : List (S65)) (r : Bool) (w : World) (hr0 : Kd.C k65 w A0 l0.length l0) (hc0 : l0.length ≤ c0) (hr1 : Kd.C k65 w A1 l1.length l1) (hc1 : l1.length ≤ c1) (h : folkmootref08_Answers.f k l0 l1 = some r) :
  Calls Tryz.prog 30 #[.slice A0 l0.length c0, .slice A1 l1.length c1] w fun e w' => e = .returned (.bool r) ∧ Below w.heap.size w w' := by
 have HR0 := Aside0.mk hr0
 have HC0 := Aside0.mk hc0
 clear hr0 hc0
 have HR1 := Aside0.mk hr1
 have HC1 := Aside0.mk hc1
 clear hr1 hc1
 have HB := Aside0.mk (Below.refl w.heap.size w)
 have H : (if (l0.length : Int) = (l1.length : Int) then (folkmootref08_Answers.l0 k l0 l1 0) else (some false)) = some r := h
 clear h
 by_cases c3 : (l0.length : Int) = (l1.length : Int)
 ·rw [if_pos c3] at H
  have c3b0 : ((l0.length : Int) == (l1.length : Int)) = true := beq_iff_eq.mpr c3
  have c3b1 : ((l0.length : Int) != (l1.length : Int)) = false := bne_eq_false_iff_eq.mpr c3
  have c3b2 : (l0.length == l1.length) = true := by first | simpa using c3 | (simp at c3 ⊢; omega)
  clear c3
  have H' := Aside0.mk H
  clear H
  go_enter Tryz.func30, Tryz.ntmps30
  go_wp2
  go_loopg [5] k (fun kq v5 w' => ∃ (x5_1 : Int), v5 = .int .i64 x5_1 ∧ Aside0 (folkmootref08_Answers.l0 kq l0 l1 x5_1 = some r) ∧ Aside0 (kq ≤ k) ∧ Aside0 (Below w.heap.size w w'))
  case atStart => exact ⟨(0), (by first | rfl | (rw [bl_gt] <;> rfl) | (simp; done) | (simp [*]; done)), H', ⟨Nat.le_refl _⟩, ⟨bB_⟩⟩
  case round =>
   clear H'
   try clear c1
   try clear p2
   try clear c3
   try clear c3b0
   try clear c3b1
   try clear c3b2
   obtain ⟨x5_1, rfl, HA, HK1, HB⟩ := hrel
   cases gk with
   | zero => exact absurd HA.out (by simp [folkmootref08_Answers.l0])
   | succ k1 =>
    have H := HA.out;clear HA
    simp only [folkmootref08_Answers.l0] at H
    by_cases c4 : x5_1 < (l0.length : Int)
    ·rw [if_pos c4] at H
     have c4b0 : decide (x5_1 < (l0.length : Int)) = true := decide_eq_true c4
     clear c4
     by_cases c5 : 0 ≤ x5_1
     ·rw [if_pos c5] at H
      have c5b0 : decide (0 ≤ x5_1) = true := decide_eq_true c5
      clear c5
      by_cases c6 : x5_1 < (l1.length : Int)
      ·rw [if_pos c6] at H
       have c6b0 : decide (x5_1 < (l1.length : Int)) = true := decide_eq_true c6
       clear c6
       by_cases c7 : (((rd_T65 l0 x5_1).f0) != ((rd_T65 l1 x5_1).f0)) = true
       ·rw [if_pos c7] at H
        have c7b0 : (((rd_T65 l0 x5_1).f0) != ((rd_T65 l1 x5_1).f0)) = true := c7
        (try (have c7b1 : decide (((rd_T65 l0 x5_1).f0) = ((rd_T65 l1 x5_1).f0)) = false := by simpa using c7))
        (try (have c7b2 : (((rd_T65 l0 x5_1).f0) == ((rd_T65 l1 x5_1).f0)) = false := by simpa using c7))
        (try (have c7b3 : ¬ (((rd_T65 l0 x5_1).f0) = ((rd_T65 l1 x5_1).f0)) := by simpa using c7))
        clear c7;obtain rfl := Option.some.inj H
        try go_wp2
        have n0_ := Aside0.mk (below_drew1 HB.out)
        clear HB;have HB := n0_;clear n0_
        have p225 : 0 ≤ (x5_1 : Int) := of_decide_eq_true (by first | (with_reducible assumption) | assumption)
        have q225 : x5_1 < (l0.length : Int) := of_decide_eq_true (by first | (with_reducible assumption) | assumption)
        obtain ⟨ad225, A225_2, c225_2, e225, hx225_0, hx225_1, hx225_2, hl225_2, hi225_2⟩ := at_T65 HR0.out x5_1 p225 q225
        have hw225_2 := hx225_2;have hw225_1 := hx225_1;have hw225_0 := hx225_0
        cases e225
        replace hx225_0 := (HB.out.cell (World.block_lt_of_cell? w _ hx225_0)).trans hx225_0
        replace hx225_1 := (HB.out.cell (World.block_lt_of_cell? w _ hx225_1)).trans hx225_1
        replace hx225_2 := (HB.out.cell (World.block_lt_of_cell? w _ hx225_2)).trans hx225_2
        have HR225_2 := Aside0.mk hi225_2
        have HC225_2 := Aside0.mk hl225_2
        clear hi225_2 hl225_2
        replace p225 := eq_true p225
        replace q225 := eq_true q225
        have p226 : 0 ≤ (x5_1 : Int) := of_decide_eq_true (by first | (with_reducible assumption) | assumption)
        have q226 : x5_1 < (l1.length : Int) := of_decide_eq_true (by first | (with_reducible assumption) | assumption)
        obtain ⟨ad226, A226_2, c226_2, e226, hx226_0, hx226_1, hx226_2, hl226_2, hi226_2⟩ := at_T65 HR1.out x5_1 p226 q226
        have hw226_2 := hx226_2;have hw226_1 := hx226_1;have hw226_0 := hx226_0
        cases e226
        replace hx226_0 := (HB.out.cell (World.block_lt_of_cell? w _ hx226_0)).trans hx226_0
        replace hx226_1 := (HB.out.cell (World.block_lt_of_cell? w _ hx226_1)).trans hx226_1
        replace hx226_2 := (HB.out.cell (World.block_lt_of_cell? w _ hx226_2)).trans hx226_2
        have HR226_2 := Aside0.mk hi226_2
        have HC226_2 := Aside0.mk hl226_2
        clear hi226_2 hl226_2
        replace p226 := eq_true p226
        replace q226 := eq_true q226
        refine start_ (n := 38) (S := fun w' => w'.cell? (ad225.add ((x5_1).toNat * 3)) = some (.bool ((rd_T65 l0 x5_1).f0)) ∧ w'.cell? ⟨(ad225.add ((x5_1).toNat * 3)).block, (ad225.add ((x5_1).toNat * 3)).off + 1, none⟩ = some (.int .u64 ((rd_T65 l0 x5_1).f1)) ∧ w'.cell? ⟨(ad225.add ((x5_1).toNat * 3)).block, (ad225.add ((x5_1).toNat * 3)).off + 2, none⟩ = some (.slice A225_2 ((rd_T65 l0 x5_1).f2).length c225_2) ∧ w'.cell? (ad226.add ((x5_1).toNat * 3)) = some (.bool ((rd_T65 l1 x5_1).f0)) ∧ w'.cell? ⟨(ad226.add ((x5_1).toNat * 3)).block, (ad226.add ((x5_1).toNat * 3)).off + 1, none⟩ = some (.int .u64 ((rd_T65 l1 x5_1).f1)) ∧ w'.cell? ⟨(ad226.add ((x5_1).toNat * 3)).block, (ad226.add ((x5_1).toNat * 3)).off + 2, none⟩ = some (.slice A226_2 ((rd_T65 l1 x5_1).f2).length c226_2)) (ds := []) #[false,false,false,false,false,false,false,false,false,false,false,false,false,false,false,false,false,false,false,false,false,false,false,false,false,false,false,false,false,false,false,false,false,false,false,false,false,false] (by kernel_rfl) rfl rfl ⟨((HB.out.cell (World.block_lt_of_cell? w _ hw225_0)).trans hw225_0), ((HB.out.cell (World.block_lt_of_cell? w _ hw225_1)).trans hw225_1), ((HB.out.cell (World.block_lt_of_cell? w _ hw225_2)).trans hw225_2), ((HB.out.cell (World.block_lt_of_cell? w _ hw226_0)).trans hw226_0), ((HB.out.cell (World.block_lt_of_cell? w _ hw226_1)).trans hw226_1), ((HB.out.cell (World.block_lt_of_cell? w _ hw226_2)).trans hw226_2)⟩ (fun hHeld => ?_); refine with_tabW folkmootref08_Answers.tab6 folkmootref08_Answers.bits6 (fun HT_ HW_ => ?_)
        generalize wr.drew = w8 at HB HR225_2 HR226_2 hx225_0 hx225_1 hx225_2 hx226_0 hx226_1 hx226_2 hHeld ⊢
        refine pu_ 0 17 ?_;refine pu_ 1 18 ?_;refine pu_ 2 19 ?_;refine pu_ 3 20 ?_;refine pu_ 5 22 ?_;refine pu_ 6 23 ?_;refine pu_ 7 24 ?_;refine pu_ 8 25 ?_;refine ta_ 4 21 hHeld ?_;refine ta_ 9 26 hHeld ?_;refine pu_ 10 27 ?_;refine pu_ 11 28 ?_;refine pure_ (i := 12) (N := some 29) (v := undef) (a' := ?_) #[true,true,true,true,true,true,true,true,true,true,true,true,true,false,false,false,false,false,false,false,false,false,false,false,false,false,false,false,false,false,false,false,false,false,false,false,false,false] rfl rfl (any_of HT_.out (by kernel_rfl)) (fun _ _ _ h => h) (Or.inr ⟨by rfl, rfl⟩) ?_ ?_;rotate_left
        ·simp only [Act.put, List.setIfInBounds_toArray, List.set_cons_zero, List.set_cons_succ, i64_w, i32_w];rfl
        refine pure_ (i := 13) (N := some 30) (v := undef) (a' := ?_) #[true,true,true,true,true,true,true,true,true,true,true,true,true,true,false,false,false,false,false,false,false,false,false,false,false,false,false,false,false,false,false,false,false,false,false,false,false,false] rfl rfl (any_of HT_.out (by kernel_rfl)) (fun _ _ _ h => h) (Or.inr ⟨by rfl, rfl⟩) ?_ ?_;rotate_left
        ·simp only [Act.put, List.setIfInBounds_toArray, List.set_cons_zero, List.set_cons_succ, i64_w, i32_w];rfl
        refine pure_ (i := 14) (N := some 31) (v := undef) (a' := ?_) #[true,true,true,true,true,true,true,true,true,true,true,true,true,true,true,false,false,false,false,false,false,false,false,false,false,false,false,false,false,false,false,false,false,false,false,false,false,false] rfl rfl (any_of HT_.out (by kernel_rfl)) (fun _ _ _ h => h) (Or.inr ⟨by rfl, rfl⟩) ?_ ?_;rotate_left
        ·simp only [Act.put, List.setIfInBounds_toArray, List.set_cons_zero, List.set_cons_succ, i64_w, i32_w];rfl
        refine pure_ (i := 15) (N := some 32) (v := undef) (a' := ?_) #[true,true,true,true,true,true,true,true,true,true,true,true,true,true,true,true,false,false,false,false,false,false,false,false,false,false,false,false,false,false,false,false,false,false,false,false,false,false] rfl rfl (any_of HT_.out (by kernel_rfl)) (fun _ _ _ h => h) (Or.inr ⟨by rfl, rfl⟩) ?_ ?_;rotate_left
        ·simp only [Act.put, List.setIfInBounds_toArray, List.set_cons_zero, List.set_cons_succ, i64_w, i32_w];rfl
        refine pure_ (i := 16) (N := some 33) (v := undef) (a' := ?_) #[true,true,true,true,true,true,true,true,true,true,true,true,true,true,true,true,true,false,false,false,false,false,false,false,false,false,false,false,false,false,false,false,false,false,false,false,false,false] rfl rfl (any_of HT_.out (by kernel_rfl)) (fun _ _ _ h => h) (Or.inr ⟨by rfl, rfl⟩) ?_ ?_;rotate_left
        ·simp only [Act.put, List.setIfInBounds_toArray, List.set_cons_zero, List.set_cons_succ, i64_w, i32_w];rfl
        refine pure_ (i := 17) (N := some 34) (v := undef) (a' := ?_) #[true,true,true,true,true,true,true,true,true,true,true,true,true,true,true,true,true,true,false,false,false,false,false,false,false,false,false,false,false,false,false,false,false,false,false,false,false,false] rfl rfl (any_of HT_.out (by kernel_rfl)) (fun _ _ _ h => h) (Or.inr ⟨by rfl, rfl⟩) ?_ ?_;rotate_left
        ·simp only [Act.put, List.setIfInBounds_toArray, List.set_cons_zero, List.set_cons_succ, i64_w, i32_w];rfl
        refine pure_ (i := 18) (N := some 35) (v := undef) (a' := ?_) #[true,true,true,true,true,true,true,true,true,true,true,true,true,true,true,true,true,true,true,false,false,false,false,false,false,false,false,false,false,false,false,false,false,false,false,false,false,false] rfl rfl (any_of HT_.out (by kernel_rfl)) (fun _ _ _ h => h) (Or.inr ⟨by rfl, rfl⟩) ?_ ?_;rotate_left
        ·simp only [Act.put, List.setIfInBounds_toArray, List.set_cons_zero, List.set_cons_succ, i64_w, i32_w];rfl
        refine pure_ (i := 19) (N := some 36) (v := undef) (a' := ?_) #[true,true,true,true,true,true,true,true,true,true,true,true,true,true,true,true,true,true,true,true,false,false,false,false,false,false,false,false,false,false,false,false,false,false,false,false,false,false] rfl rfl (any_of HT_.out (by kernel_rfl)) (fun _ _ _ h => h) (Or.inr ⟨by rfl, rfl⟩) ?_ ?_;rotate_left
        ·simp only [Act.put, List.setIfInBounds_toArray, List.set_cons_zero, List.set_cons_succ, i64_w, i32_w];rfl
        refine pure_ (i := 20) (N := some 37) (v := undef) (a' := ?_) #[true,true,true,true,true,true,true,true,true,true,true,true,true,true,true,true,true,true,true,true,true,false,false,false,false,false,false,false,false,false,false,false,false,false,false,false,false,false] rfl rfl (any_of HT_.out (by kernel_rfl)) (fun _ _ _ h => h) (Or.inr ⟨by rfl, rfl⟩) ?_ ?_;rotate_left
        ·simp only [Act.put, List.setIfInBounds_toArray, List.set_cons_zero, List.set_cons_succ, i64_w, i32_w];rfl
        refine pure_ (i := 21) (N := some 38) (v := undef) (a' := ?_) #[true,true,true,true,true,true,true,true,true,true,true,true,true,true,true,true,true,true,true,true,true,true,false,false,false,false,false,false,false,false,false,false,false,false,false,false,false,false] rfl rfl (any_of HT_.out (by kernel_rfl)) (fun _ _ _ h => h) (Or.inr ⟨by rfl, rfl⟩) ?_ ?_;rotate_left
        ·simp only [Act.put, List.setIfInBounds_toArray, List.set_cons_zero, List.set_cons_succ, i64_w, i32_w];rfl
        refine pure_ (i := 22) (N := some 39) (v := undef) (a' := ?_) #[true,true,true,true,true,true,true,true,true,true,true,true,true,true,true,true,true,true,true,true,true,true,true,false,false,false,false,false,false,false,false,false,false,false,false,false,false,false] rfl rfl (any_of HT_.out (by kernel_rfl)) (fun _ _ _ h => h) (Or.inr ⟨by rfl, rfl⟩) ?_ ?_;rotate_left
        ·simp only [Act.put, List.setIfInBounds_toArray, List.set_cons_zero, List.set_cons_succ, i64_w, i32_w];rfl
        refine pu_ 23 40 ?_;refine pu_ 24 41 ?_;refine pure_ (i := 25) (N := some 42) (v := undef) (a' := ?_) #[true,true,true,true,true,true,true,true,true,true,true,true,true,true,true,true,true,true,true,true,true,true,true,true,true,true,false,false,false,false,false,false,false,false,false,false,false,false] rfl rfl (any_of HT_.out (by kernel_rfl)) (fun _ _ _ h => h) (Or.inr ⟨by rfl, rfl⟩) ?_ ?_;rotate_left
        ·simp only [Act.put, List.setIfInBounds_toArray, List.set_cons_zero, List.set_cons_succ, i64_w, i32_w];rfl
        refine pure_ (i := 26) (N := some 43) (v := undef) (a' := ?_) #[true,true,true,true,true,true,true,true,true,true,true,true,true,true,true,true,true,true,true,true,true,true,true,true,true,true,true,false,false,false,false,false,false,false,false,false,false,false] rfl rfl (any_of HT_.out (by kernel_rfl)) (fun _ _ _ h => h) (Or.inr ⟨by rfl, rfl⟩) ?_ ?_;rotate_left
        ·simp only [Act.put, List.setIfInBounds_toArray, List.set_cons_zero, List.set_cons_succ, i64_w, i32_w];rfl
        refine pure_ (i := 27) (N := some 44) (v := undef) (a' := ?_) #[true,true,true,true,true,true,true,true,true,true,true,true,true,true,true,true,true,true,true,true,true,true,true,true,true,true,true,true,false,false,false,false,false,false,false,false,false,false] rfl rfl (any_of HT_.out (by kernel_rfl)) (fun _ _ _ h => h) (Or.inr ⟨by rfl, rfl⟩) ?_ ?_;rotate_left
        ·simp only [Act.put, List.setIfInBounds_toArray, List.set_cons_zero, List.set_cons_succ, i64_w, i32_w];rfl
        refine pure_ (i := 28) (N := some 45) (v := undef) (a' := ?_) #[true,true,true,true,true,true,true,true,true,true,true,true,true,true,true,true,true,true,true,true,true,true,true,true,true,true,true,true,true,false,false,false,false,false,false,false,false,false] rfl rfl (any_of HT_.out (by kernel_rfl)) (fun _ _ _ h => h) (Or.inr ⟨by rfl, rfl⟩) ?_ ?_;rotate_left
        ·simp only [Act.put, List.setIfInBounds_toArray, List.set_cons_zero, List.set_cons_succ, i64_w, i32_w];rfl
        refine pure_ (i := 29) (N := some 46) (v := undef) (a' := ?_) #[true,true,true,true,true,true,true,true,true,true,true,true,true,true,true,true,true,true,true,true,true,true,true,true,true,true,true,true,true,true,false,false,false,false,false,false,false,false] rfl rfl (any_of HT_.out (by kernel_rfl)) (fun _ _ _ h => h) (Or.inr ⟨by rfl, rfl⟩) ?_ ?_;rotate_left
        ·simp only [Act.put, List.setIfInBounds_toArray, List.set_cons_zero, List.set_cons_succ, i64_w, i32_w];rfl
        refine pure_ (i := 30) (N := some 47) (v := undef) (a' := ?_) #[true,true,true,true,true,true,true,true,true,true,true,true,true,true,true,true,true,true,true,true,true,true,true,true,true,true,true,true,true,true,true,false,false,false,false,false,false,false] rfl rfl (any_of HT_.out (by kernel_rfl)) (fun _ _ _ h => h) (Or.inr ⟨by rfl, rfl⟩) ?_ ?_;rotate_left
        ·simp only [Act.put, List.setIfInBounds_toArray, List.set_cons_zero, List.set_cons_succ, i64_w, i32_w];rfl
        refine pure_ (i := 31) (N := some 48) (v := undef) (a' := ?_) #[true,true,true,true,true,true,true,true,true,true,true,true,true,true,true,true,true,true,true,true,true,true,true,true,true,true,true,true,true,true,true,true,false,false,false,false,false,false] rfl rfl (any_of HT_.out (by kernel_rfl)) (fun _ _ _ h => h) (Or.inr ⟨by rfl, rfl⟩) ?_ ?_;rotate_left
        ·simp only [Act.put, List.setIfInBounds_toArray, List.set_cons_zero, List.set_cons_succ, i64_w, i32_w];rfl
        refine pure_ (i := 32) (N := some 49) (v := undef) (a' := ?_) #[true,true,true,true,true,true,true,true,true,true,true,true,true,true,true,true,true,true,true,true,true,true,true,true,true,true,true,true,true,true,true,true,true,false,false,false,false,false] rfl rfl (any_of HT_.out (by kernel_rfl)) (fun _ _ _ h => h) (Or.inr ⟨by rfl, rfl⟩) ?_ ?_;rotate_left
        ·simp only [Act.put, List.setIfInBounds_toArray, List.set_cons_zero, List.set_cons_succ, i64_w, i32_w];rfl
        refine pure_ (i := 33) (N := some 50) (v := undef) (a' := ?_) #[true,true,true,true,true,true,true,true,true,true,true,true,true,true,true,true,true,true,true,true,true,true,true,true,true,true,true,true,true,true,true,true,true,true,false,false,false,false] rfl rfl (any_of HT_.out (by kernel_rfl)) (fun _ _ _ h => h) (Or.inr ⟨by rfl, rfl⟩) ?_ ?_;rotate_left
        ·simp only [Act.put, List.setIfInBounds_toArray, List.set_cons_zero, List.set_cons_succ, i64_w, i32_w];rfl
        refine pure_ (i := 34) (N := some 51) (v := undef) (a' := ?_) #[true,true,true,true,true,true,true,true,true,true,true,true,true,true,true,true,true,true,true,true,true,true,true,true,true,true,true,true,true,true,true,true,true,true,true,false,false,false] rfl rfl (any_of HT_.out (by kernel_rfl)) (fun _ _ _ h => h) (Or.inr ⟨by rfl, rfl⟩) ?_ ?_;rotate_left
        ·simp only [Act.put, List.setIfInBounds_toArray, List.set_cons_zero, List.set_cons_succ, i64_w, i32_w];rfl
        refine pure_ (i := 35) (N := some 52) (v := undef) (a' := ?_) #[true,true,true,true,true,true,true,true,true,true,true,true,true,true,true,true,true,true,true,true,true,true,true,true,true,true,true,true,true,true,true,true,true,true,true,true,false,false] rfl rfl (any_of HT_.out (by kernel_rfl)) (fun _ _ _ h => h) (Or.inr ⟨by rfl, rfl⟩) ?_ ?_;rotate_left
        ·simp only [Act.put, List.setIfInBounds_toArray, List.set_cons_zero, List.set_cons_succ, i64_w, i32_w];rfl
        refine pure_ (i := 36) (N := some 53) (v := undef) (a' := ?_) #[true,true,true,true,true,true,true,true,true,true,true,true,true,true,true,true,true,true,true,true,true,true,true,true,true,true,true,true,true,true,true,true,true,true,true,true,true,false] rfl rfl (any_of HT_.out (by kernel_rfl)) (fun _ _ _ h => h) (Or.inr ⟨by rfl, rfl⟩) ?_ ?_;rotate_left
        ·simp only [Act.put, List.setIfInBounds_toArray, List.set_cons_zero, List.set_cons_succ, i64_w, i32_w];rfl
        refine pu_ 37 54 ?_;refine done_ (done_of HT_.out (by kernel_rfl)) ?_
        try go_wp2
        go_ret
        exact ⟨by first | rfl | (rw [bl_gt] <;> rfl) | (simp [errW_none, errW_some] <;> rfl) | (simp [*, errW_none, errW_some] <;> rfl), bB_⟩
       ·rw [if_neg c7] at H
        have c7b0 : (((rd_T65 l0 x5_1).f0) != ((rd_T65 l1 x5_1).f0)) = false := by simpa using c7
        (try (have c7b1 : decide (((rd_T65 l0 x5_1).f0) = ((rd_T65 l1 x5_1).f0)) = true := by simpa using c7))
        (try (have c7b2 : (((rd_T65 l0 x5_1).f0) == ((rd_T65 l1 x5_1).f0)) = true := by simpa using c7))
        clear c7
        by_cases c9 : ((rd_T65 l0 x5_1).f1) = ((rd_T65 l1 x5_1).f1)
        ·rw [if_pos c9] at H
         have c9b0 : (((rd_T65 l0 x5_1).f1) == ((rd_T65 l1 x5_1).f1)) = true := beq_iff_eq.mpr c9
         have c9b1 : (((rd_T65 l0 x5_1).f1) != ((rd_T65 l1 x5_1).f1)) = false := bne_eq_false_iff_eq.mpr c9
         clear c9
         replace H := Option.bind_eq_some_iff.mp H
         obtain ⟨t231, A100, H⟩ := H
         replace H : (if t231 = true then (folkmootref08_Answers.l0 k1 l0 l1 (wrap64 (x5_1 + 1))) else (some false)) = some r := H
         have A10 := Aside0.mk A100
         clear A100
         by_cases c11 : t231 = true
         ·subst c11
          have H1 : (folkmootref08_Answers.l0 k1 l0 l1 (wrap64 (x5_1 + 1))) = some r := by rw [if_pos rfl] at H; exact H
          clear H;have H := H1;clear H1
          have H' := Aside0.mk H
          clear H
          try go_wp2
          have n0_ := Aside0.mk (below_drew1 HB.out)
          clear HB;have HB := n0_;clear n0_
          have p225 : 0 ≤ (x5_1 : Int) := of_decide_eq_true (by first | (with_reducible assumption) | assumption)
          have q225 : x5_1 < (l0.length : Int) := of_decide_eq_true (by first | (with_reducible assumption) | assumption)
          obtain ⟨ad225, A225_2, c225_2, e225, hx225_0, hx225_1, hx225_2, hl225_2, hi225_2⟩ := at_T65 HR0.out x5_1 p225 q225
          have hw225_2 := hx225_2;have hw225_1 := hx225_1;have hw225_0 := hx225_0
          cases e225
          replace hx225_0 := (HB.out.cell (World.block_lt_of_cell? w _ hx225_0)).trans hx225_0
          replace hx225_1 := (HB.out.cell (World.block_lt_of_cell? w _ hx225_1)).trans hx225_1
          replace hx225_2 := (HB.out.cell (World.block_lt_of_cell? w _ hx225_2)).trans hx225_2
          have HR225_2 := Aside0.mk hi225_2
          have HC225_2 := Aside0.mk hl225_2
          clear hi225_2 hl225_2
          replace p225 := eq_true p225
          replace q225 := eq_true q225
          have p226 : 0 ≤ (x5_1 : Int) := of_decide_eq_true (by first | (with_reducible assumption) | assumption)
          have q226 : x5_1 < (l1.length : Int) := of_decide_eq_true (by first | (with_reducible assumption) | assumption)
          obtain ⟨ad226, A226_2, c226_2, e226, hx226_0, hx226_1, hx226_2, hl226_2, hi226_2⟩ := at_T65 HR1.out x5_1 p226 q226
          have hw226_2 := hx226_2;have hw226_1 := hx226_1;have hw226_0 := hx226_0
          cases e226
          replace hx226_0 := (HB.out.cell (World.block_lt_of_cell? w _ hx226_0)).trans hx226_0
          replace hx226_1 := (HB.out.cell (World.block_lt_of_cell? w _ hx226_1)).trans hx226_1
          replace hx226_2 := (HB.out.cell (World.block_lt_of_cell? w _ hx226_2)).trans hx226_2
          have HR226_2 := Aside0.mk hi226_2
          have HC226_2 := Aside0.mk hl226_2
          clear hi226_2 hl226_2
          replace p226 := eq_true p226
          replace q226 := eq_true q226
          have p227 : 0 ≤ (x5_1 : Int) := of_decide_eq_true (by first | (with_reducible assumption) | assumption)
          have q227 : x5_1 < (l0.length : Int) := of_decide_eq_true (by first | (with_reducible assumption) | assumption)
          obtain ⟨ad227, A227_2, c227_2, e227, hx227_0, hx227_1, hx227_2, hl227_2, hi227_2⟩ := at_T65 HR0.out x5_1 p227 q227
          have hw227_2 := hx227_2;have hw227_1 := hx227_1;have hw227_0 := hx227_0
          obtain rfl : ad225 = ad227 := (by injection e227)
          replace hx227_0 := (HB.out.cell (World.block_lt_of_cell? w _ hx227_0)).trans hx227_0
          replace hx227_1 := (HB.out.cell (World.block_lt_of_cell? w _ hx227_1)).trans hx227_1
          replace hx227_2 := (HB.out.cell (World.block_lt_of_cell? w _ hx227_2)).trans hx227_2
          have HR227_2 := Aside0.mk hi227_2
          have HC227_2 := Aside0.mk hl227_2
          clear hi227_2 hl227_2
          replace p227 := eq_true p227
          replace q227 := eq_true q227
          have ea_ := Option.some.inj (hx225_2.symm.trans hx227_2)
          injection ea_ with ea_ en_ ec_
          subst ea_;subst ec_;clear en_
          have p228 : 0 ≤ (x5_1 : Int) := of_decide_eq_true (by first | (with_reducible assumption) | assumption)
          have q228 : x5_1 < (l1.length : Int) := of_decide_eq_true (by first | (with_reducible assumption) | assumption)
          obtain ⟨ad228, A228_2, c228_2, e228, hx228_0, hx228_1, hx228_2, hl228_2, hi228_2⟩ := at_T65 HR1.out x5_1 p228 q228
          have hw228_2 := hx228_2;have hw228_1 := hx228_1;have hw228_0 := hx228_0
          obtain rfl : ad226 = ad228 := (by injection e228)
          replace hx228_0 := (HB.out.cell (World.block_lt_of_cell? w _ hx228_0)).trans hx228_0
          replace hx228_1 := (HB.out.cell (World.block_lt_of_cell? w _ hx228_1)).trans hx228_1
          replace hx228_2 := (HB.out.cell (World.block_lt_of_cell? w _ hx228_2)).trans hx228_2
          have HR228_2 := Aside0.mk hi228_2
          have HC228_2 := Aside0.mk hl228_2
          clear hi228_2 hl228_2
          replace p228 := eq_true p228
          replace q228 := eq_true q228
          have ea_ := Option.some.inj (hx226_2.symm.trans hx228_2)
          injection ea_ with ea_ en_ ec_
          subst ea_;subst ec_;clear en_
          have p229 : 0 ≤ (x5_1 : Int) := of_decide_eq_true (by first | (with_reducible assumption) | assumption)
          have q229 : x5_1 < (l0.length : Int) := of_decide_eq_true (by first | (with_reducible assumption) | assumption)
          obtain ⟨ad229, A229_2, c229_2, e229, hx229_0, hx229_1, hx229_2, hl229_2, hi229_2⟩ := at_T65 HR0.out x5_1 p229 q229
          have hw229_2 := hx229_2;have hw229_1 := hx229_1;have hw229_0 := hx229_0
          obtain rfl : ad225 = ad229 := (by injection e229)
          replace hx229_0 := (HB.out.cell (World.block_lt_of_cell? w _ hx229_0)).trans hx229_0
          replace hx229_1 := (HB.out.cell (World.block_lt_of_cell? w _ hx229_1)).trans hx229_1
          replace hx229_2 := (HB.out.cell (World.block_lt_of_cell? w _ hx229_2)).trans hx229_2
          have HR229_2 := Aside0.mk hi229_2
          have HC229_2 := Aside0.mk hl229_2
          clear hi229_2 hl229_2
          replace p229 := eq_true p229
          replace q229 := eq_true q229
          have ea_ := Option.some.inj (hx225_2.symm.trans hx229_2)
          injection ea_ with ea_ en_ ec_
          subst ea_;subst ec_;clear en_
          have p230 : 0 ≤ (x5_1 : Int) := of_decide_eq_true (by first | (with_reducible assumption) | assumption)
          have q230 : x5_1 < (l1.length : Int) := of_decide_eq_true (by first | (with_reducible assumption) | assumption)
          obtain ⟨ad230, A230_2, c230_2, e230, hx230_0, hx230_1, hx230_2, hl230_2, hi230_2⟩ := at_T65 HR1.out x5_1 p230 q230
          have hw230_2 := hx230_2;have hw230_1 := hx230_1;have hw230_0 := hx230_0
          obtain rfl : ad226 = ad230 := (by injection e230)
          replace hx230_0 := (HB.out.cell (World.block_lt_of_cell? w _ hx230_0)).trans hx230_0
          replace hx230_1 := (HB.out.cell (World.block_lt_of_cell? w _ hx230_1)).trans hx230_1
          replace hx230_2 := (HB.out.cell (World.block_lt_of_cell? w _ hx230_2)).trans hx230_2
          have HR230_2 := Aside0.mk hi230_2
          have HC230_2 := Aside0.mk hl230_2
          clear hi230_2 hl230_2
          replace p230 := eq_true p230
          replace q230 := eq_true q230
          have ea_ := Option.some.inj (hx226_2.symm.trans hx230_2)
          injection ea_ with ea_ en_ ec_
          subst ea_;subst ec_;clear en_;refine start_ (n := 38) (S := fun w' => w'.cell? (ad225.add ((x5_1).toNat * 3)) = some (.bool ((rd_T65 l0 x5_1).f0)) ∧ w'.cell? ⟨(ad225.add ((x5_1).toNat * 3)).block, (ad225.add ((x5_1).toNat * 3)).off + 1, none⟩ = some (.int .u64 ((rd_T65 l0 x5_1).f1)) ∧ w'.cell? ⟨(ad225.add ((x5_1).toNat * 3)).block, (ad225.add ((x5_1).toNat * 3)).off + 2, none⟩ = some (.slice A225_2 ((rd_T65 l0 x5_1).f2).length c225_2) ∧ w'.cell? (ad226.add ((x5_1).toNat * 3)) = some (.bool ((rd_T65 l1 x5_1).f0)) ∧ w'.cell? ⟨(ad226.add ((x5_1).toNat * 3)).block, (ad226.add ((x5_1).toNat * 3)).off + 1, none⟩ = some (.int .u64 ((rd_T65 l1 x5_1).f1)) ∧ w'.cell? ⟨(ad226.add ((x5_1).toNat * 3)).block, (ad226.add ((x5_1).toNat * 3)).off + 2, none⟩ = some (.slice A226_2 ((rd_T65 l1 x5_1).f2).length c226_2) ∧ w'.cell? (ad225.add ((x5_1).toNat * 3)) = some (.bool ((rd_T65 l0 x5_1).f0)) ∧ w'.cell? ⟨(ad225.add ((x5_1).toNat * 3)).block, (ad225.add ((x5_1).toNat * 3)).off + 1, none⟩ = some (.int .u64 ((rd_T65 l0 x5_1).f1)) ∧ w'.cell? ⟨(ad225.add ((x5_1).toNat * 3)).block, (ad225.add ((x5_1).toNat * 3)).off + 2, none⟩ = some (.slice A225_2 ((rd_T65 l0 x5_1).f2).length c225_2) ∧ w'.cell? (ad226.add ((x5_1).toNat * 3)) = some (.bool ((rd_T65 l1 x5_1).f0)) ∧ w'.cell? ⟨(ad226.add ((x5_1).toNat * 3)).block, (ad226.add ((x5_1).toNat * 3)).off + 1, none⟩ = some (.int .u64 ((rd_T65 l1 x5_1).f1)) ∧ w'.cell? ⟨(ad226.add ((x5_1).toNat * 3)).block, (ad226.add ((x5_1).toNat * 3)).off + 2, none⟩ = some (.slice A226_2 ((rd_T65 l1 x5_1).f2).length c226_2) ∧ w'.cell? (ad225.add ((x5_1).toNat * 3)) = some (.bool ((rd_T65 l0 x5_1).f0)) ∧ w'.cell? ⟨(ad225.add ((x5_1).toNat * 3)).block, (ad225.add ((x5_1).toNat * 3)).off + 1, none⟩ = some (.int .u64 ((rd_T65 l0 x5_1).f1)) ∧ w'.cell? ⟨(ad225.add ((x5_1).toNat * 3)).block, (ad225.add ((x5_1).toNat * 3)).off + 2, none⟩ = some (.slice A225_2 ((rd_T65 l0 x5_1).f2).length c225_2) ∧ w'.cell? (ad226.add ((x5_1).toNat * 3)) = some (.bool ((rd_T65 l1 x5_1).f0)) ∧ w'.cell? ⟨(ad226.add ((x5_1).toNat * 3)).block, (ad226.add ((x5_1).toNat * 3)).off + 1, none⟩ = some (.int .u64 ((rd_T65 l1 x5_1).f1)) ∧ w'.cell? ⟨(ad226.add ((x5_1).toNat * 3)).block, (ad226.add ((x5_1).toNat * 3)).off + 2, none⟩ = some (.slice A226_2 ((rd_T65 l1 x5_1).f2).length c226_2)) (ds := []) #[false,false,false,false,false,false,false,false,false,false,false,false,false,false,false,false,false,false,false,false,false,false,false,false,false,false,false,false,false,false,false,false,false,false,false,false,false,false] (by kernel_rfl) rfl rfl ⟨((HB.out.cell (World.block_lt_of_cell? w _ hw225_0)).trans hw225_0), ((HB.out.cell (World.block_lt_of_cell? w _ hw225_1)).trans hw225_1), ((HB.out.cell (World.block_lt_of_cell? w _ hw225_2)).trans hw225_2), ((HB.out.cell (World.block_lt_of_cell? w _ hw226_0)).trans hw226_0), ((HB.out.cell (World.block_lt_of_cell? w _ hw226_1)).trans hw226_1), ((HB.out.cell (World.block_lt_of_cell? w _ hw226_2)).trans hw226_2), ((HB.out.cell (World.block_lt_of_cell? w _ hw227_0)).trans hw227_0), ((HB.out.cell (World.block_lt_of_cell? w _ hw227_1)).trans hw227_1), ((HB.out.cell (World.block_lt_of_cell? w _ hw227_2)).trans hw227_2), ((HB.out.cell (World.block_lt_of_cell? w _ hw228_0)).trans hw228_0), ((HB.out.cell (World.block_lt_of_cell? w _ hw228_1)).trans hw228_1), ((HB.out.cell (World.block_lt_of_cell? w _ hw228_2)).trans hw228_2), ((HB.out.cell (World.block_lt_of_cell? w _ hw229_0)).trans hw229_0), ((HB.out.cell (World.block_lt_of_cell? w _ hw229_1)).trans hw229_1), ((HB.out.cell (World.block_lt_of_cell? w _ hw229_2)).trans hw229_2), ((HB.out.cell (World.block_lt_of_cell? w _ hw230_0)).trans hw230_0), ((HB.out.cell (World.block_lt_of_cell? w _ hw230_1)).trans hw230_1), ((HB.out.cell (World.block_lt_of_cell? w _ hw230_2)).trans hw230_2)⟩ (fun hHeld => ?_); refine with_tabW folkmootref08_Answers.tab6 folkmootref08_Answers.bits6 (fun HT_ HW_ => ?_)
          generalize wr.drew = w12 at HB HR225_2 HR226_2 HR227_2 HR228_2 HR229_2 HR230_2 hx225_0 hx225_1 hx225_2 hx226_0 hx226_1 hx226_2 hx227_0 hx227_1 hx227_2 hx228_0 hx228_1 hx228_2 hx229_0 hx229_1 hx229_2 hx230_0 hx230_1 hx230_2 hHeld ⊢
          refine pu_ 0 17 ?_;refine pu_ 1 18 ?_;refine pu_ 2 19 ?_;refine pu_ 3 20 ?_;refine pu_ 5 22 ?_;refine pu_ 6 23 ?_;refine pu_ 7 24 ?_;refine pu_ 8 25 ?_;refine ta_ 4 21 hHeld ?_;refine ta_ 9 26 hHeld ?_;refine pu_ 10 27 ?_;refine pu_ 11 28 ?_;refine pu_ 12 29 ?_;refine pu_ 13 30 ?_;refine pu_ 14 31 ?_;refine pu_ 15 32 ?_;refine pu_ 17 34 ?_;refine pu_ 18 35 ?_;refine pu_ 19 36 ?_;refine pu_ 20 37 ?_;refine ta_ 16 33 hHeld ?_;refine ta_ 21 38 hHeld ?_;refine pu_ 22 39 ?_;refine pu_ 23 40 ?_;refine pu_ 24 41 ?_;refine pu_ 25 42 ?_;refine pu_ 26 43 ?_;refine pu_ 27 44 ?_;refine pu_ 28 45 ?_;refine pu_ 30 47 ?_;refine pu_ 31 48 ?_;refine pu_ 32 49 ?_;refine pu_ 33 50 ?_;refine ta_ 29 46 hHeld ?_;refine ta_ 34 51 hHeld ?_;refine one_ (i := 35) (N := some 52) #[true,true,true,true,true,true,true,true,true,true,true,true,true,true,true,true,true,true,true,true,true,true,true,true,true,true,true,true,true,true,true,true,true,true,true,true,false,false] rfl rfl (one_of HT_.out (by kernel_rfl)) (by decide) (fun K hK => ?_);refine goes_ Tryz.func31 (by kernel_rfl) rfl #[.slice A225_2 ((rd_T65 l0 x5_1).f2).length c225_2, .slice A226_2 ((rd_T65 l1 x5_1).f2).length c226_2] (by rfl) rfl rfl (by (try simp only [List.map_toArray, List.map_cons, List.map_nil]); first | done | rfl | (simp only [List.length_drop, List.length_take]; rfl)) ?_
          with_reducible refine (folkmootref08_Pairs.calls k1 _ _ ((rd_T65 l0 x5_1).f2) _ _ ((rd_T65 l1 x5_1).f2) true _ ?side1 ?side2 ?side3 ?side4 A10.out).mono ?_
          (case side1 => repeat (first | exact (Kd.C_below HR229_2.out HB.out) | (with_reducible refine Kd.C_alloc ?_ _) | (with_reducible refine Kd.C_drewN ?_ _) | (with_reducible refine Kd.C_drew ?_)))
          (case side2 => exact HC229_2.out)
          (case side3 => repeat (first | exact (Kd.C_below HR230_2.out HB.out) | (with_reducible refine Kd.C_alloc ?_ _) | (with_reducible refine Kd.C_drewN ?_ _) | (with_reducible refine Kd.C_drew ?_)))
          (case side4 => exact HC230_2.out)
          rintro e w' ⟨rfl, ⟨nd, rfl⟩⟩
          refine ⟨_, rfl, ?_⟩
          refine hK.out _ _ ⟨((HB.out.cell (World.block_lt_of_cell? w _ hw225_0)).trans hw225_0), ((HB.out.cell (World.block_lt_of_cell? w _ hw225_1)).trans hw225_1), ((HB.out.cell (World.block_lt_of_cell? w _ hw225_2)).trans hw225_2), ((HB.out.cell (World.block_lt_of_cell? w _ hw226_0)).trans hw226_0), ((HB.out.cell (World.block_lt_of_cell? w _ hw226_1)).trans hw226_1), ((HB.out.cell (World.block_lt_of_cell? w _ hw226_2)).trans hw226_2), ((HB.out.cell (World.block_lt_of_cell? w _ hw227_0)).trans hw227_0), ((HB.out.cell (World.block_lt_of_cell? w _ hw227_1)).trans hw227_1), ((HB.out.cell (World.block_lt_of_cell? w _ hw227_2)).trans hw227_2), ((HB.out.cell (World.block_lt_of_cell? w _ hw228_0)).trans hw228_0), ((HB.out.cell (World.block_lt_of_cell? w _ hw228_1)).trans hw228_1), ((HB.out.cell (World.block_lt_of_cell? w _ hw228_2)).trans hw228_2), ((HB.out.cell (World.block_lt_of_cell? w _ hw229_0)).trans hw229_0), ((HB.out.cell (World.block_lt_of_cell? w _ hw229_1)).trans hw229_1), ((HB.out.cell (World.block_lt_of_cell? w _ hw229_2)).trans hw229_2), ((HB.out.cell (World.block_lt_of_cell? w _ hw230_0)).trans hw230_0), ((HB.out.cell (World.block_lt_of_cell? w _ hw230_1)).trans hw230_1), ((HB.out.cell (World.block_lt_of_cell? w _ hw230_2)).trans hw230_2)⟩ (fun hHeld => ?_);clear hK K;refine norm_ (a' := ?_) ?_ ?_;rotate_left
          ·show Act.put _ (some 52) _ = _
           simp only [Act.put, List.setIfInBounds_toArray, List.set_cons_zero, List.set_cons_succ, i64_w, i32_w];rfl
          refine pu_ 36 53 ?_;refine pu_ 37 54 ?_;refine done_ (done_of HT_.out (by kernel_rfl)) ?_
          try go_wp2
          go_roundg k1
          case measure => have := HK1.out; omega
          case rel => exact ⟨(wrap64 (x5_1 + 1)), (by first | rfl | (rw [bl_gt] <;> rfl) | (simp; done) | (simp [*]; done)), H', ⟨by have := HK1.out; omega⟩, ⟨bB_⟩⟩
         ·replace c11 := Bool.eq_false_iff.mpr c11
          subst c11
          have H1 : (some false) = some r := by rw [if_neg (show ¬ (false = true) by decide)] at H; exact H
          clear H;have H := H1;clear H1;obtain rfl := Option.some.inj H
          try go_wp2
          have n0_ := Aside0.mk (below_drew1 HB.out)
          clear HB;have HB := n0_;clear n0_
          have p225 : 0 ≤ (x5_1 : Int) := of_decide_eq_true (by first | (with_reducible assumption) | assumption)
          have q225 : x5_1 < (l0.length : Int) := of_decide_eq_true (by first | (with_reducible assumption) | assumption)
          obtain ⟨ad225, A225_2, c225_2, e225, hx225_0, hx225_1, hx225_2, hl225_2, hi225_2⟩ := at_T65 HR0.out x5_1 p225 q225
          have hw225_2 := hx225_2;have hw225_1 := hx225_1;have hw225_0 := hx225_0
          cases e225
          replace hx225_0 := (HB.out.cell (World.block_lt_of_cell? w _ hx225_0)).trans hx225_0
          replace hx225_1 := (HB.out.cell (World.block_lt_of_cell? w _ hx225_1)).trans hx225_1
          replace hx225_2 := (HB.out.cell (World.block_lt_of_cell? w _ hx225_2)).trans hx225_2
          have HR225_2 := Aside0.mk hi225_2
          have HC225_2 := Aside0.mk hl225_2
          clear hi225_2 hl225_2
          replace p225 := eq_true p225
          replace q225 := eq_true q225
          have p226 : 0 ≤ (x5_1 : Int) := of_decide_eq_true (by first | (with_reducible assumption) | assumption)
          have q226 : x5_1 < (l1.length : Int) := of_decide_eq_true (by first | (with_reducible assumption) | assumption)
          obtain ⟨ad226, A226_2, c226_2, e226, hx226_0, hx226_1, hx226_2, hl226_2, hi226_2⟩ := at_T65 HR1.out x5_1 p226 q226
          have hw226_2 := hx226_2;have hw226_1 := hx226_1;have hw226_0 := hx226_0
          cases e226
          replace hx226_0 := (HB.out.cell (World.block_lt_of_cell? w _ hx226_0)).trans hx226_0
          replace hx226_1 := (HB.out.cell (World.block_lt_of_cell? w _ hx226_1)).trans hx226_1
          replace hx226_2 := (HB.out.cell (World.block_lt_of_cell? w _ hx226_2)).trans hx226_2
          have HR226_2 := Aside0.mk hi226_2
          have HC226_2 := Aside0.mk hl226_2
          clear hi226_2 hl226_2
          replace p226 := eq_true p226
          replace q226 := eq_true q226
          have p227 : 0 ≤ (x5_1 : Int) := of_decide_eq_true (by first | (with_reducible assumption) | assumption)
          have q227 : x5_1 < (l0.length : Int) := of_decide_eq_true (by first | (with_reducible assumption) | assumption)
          obtain ⟨ad227, A227_2, c227_2, e227, hx227_0, hx227_1, hx227_2, hl227_2, hi227_2⟩ := at_T65 HR0.out x5_1 p227 q227
          have hw227_2 := hx227_2;have hw227_1 := hx227_1;have hw227_0 := hx227_0
          obtain rfl : ad225 = ad227 := (by injection e227)
          replace hx227_0 := (HB.out.cell (World.block_lt_of_cell? w _ hx227_0)).trans hx227_0
          replace hx227_1 := (HB.out.cell (World.block_lt_of_cell? w _ hx227_1)).trans hx227_1
          replace hx227_2 := (HB.out.cell (World.block_lt_of_cell? w _ hx227_2)).trans hx227_2
          have HR227_2 := Aside0.mk hi227_2
          have HC227_2 := Aside0.mk hl227_2
          clear hi227_2 hl227_2
          replace p227 := eq_true p227
          replace q227 := eq_true q227
          have ea_ := Option.some.inj (hx225_2.symm.trans hx227_2)
          injection ea_ with ea_ en_ ec_
          subst ea_;subst ec_;clear en_
          have p228 : 0 ≤ (x5_1 : Int) := of_decide_eq_true (by first | (with_reducible assumption) | assumption)
          have q228 : x5_1 < (l1.length : Int) := of_decide_eq_true (by first | (with_reducible assumption) | assumption)
          obtain ⟨ad228, A228_2, c228_2, e228, hx228_0, hx228_1, hx228_2, hl228_2, hi228_2⟩ := at_T65 HR1.out x5_1 p228 q228
          have hw228_2 := hx228_2;have hw228_1 := hx228_1;have hw228_0 := hx228_0
          obtain rfl : ad226 = ad228 := (by injection e228)
          replace hx228_0 := (HB.out.cell (World.block_lt_of_cell? w _ hx228_0)).trans hx228_0
          replace hx228_1 := (HB.out.cell (World.block_lt_of_cell? w _ hx228_1)).trans hx228_1
          replace hx228_2 := (HB.out.cell (World.block_lt_of_cell? w _ hx228_2)).trans hx228_2
          have HR228_2 := Aside0.mk hi228_2
          have HC228_2 := Aside0.mk hl228_2
          clear hi228_2 hl228_2
          replace p228 := eq_true p228
          replace q228 := eq_true q228
          have ea_ := Option.some.inj (hx226_2.symm.trans hx228_2)
          injection ea_ with ea_ en_ ec_
          subst ea_;subst ec_;clear en_
          have p229 : 0 ≤ (x5_1 : Int) := of_decide_eq_true (by first | (with_reducible assumption) | assumption)
          have q229 : x5_1 < (l0.length : Int) := of_decide_eq_true (by first | (with_reducible assumption) | assumption)
          obtain ⟨ad229, A229_2, c229_2, e229, hx229_0, hx229_1, hx229_2, hl229_2, hi229_2⟩ := at_T65 HR0.out x5_1 p229 q229
          have hw229_2 := hx229_2;have hw229_1 := hx229_1;have hw229_0 := hx229_0
          obtain rfl : ad225 = ad229 := (by injection e229)
          replace hx229_0 := (HB.out.cell (World.block_lt_of_cell? w _ hx229_0)).trans hx229_0
          replace hx229_1 := (HB.out.cell (World.block_lt_of_cell? w _ hx229_1)).trans hx229_1
          replace hx229_2 := (HB.out.cell (World.block_lt_of_cell? w _ hx229_2)).trans hx229_2
          have HR229_2 := Aside0.mk hi229_2
          have HC229_2 := Aside0.mk hl229_2
          clear hi229_2 hl229_2
          replace p229 := eq_true p229
          replace q229 := eq_true q229
          have ea_ := Option.some.inj (hx225_2.symm.trans hx229_2)
          injection ea_ with ea_ en_ ec_
          subst ea_;subst ec_;clear en_
          have p230 : 0 ≤ (x5_1 : Int) := of_decide_eq_true (by first | (with_reducible assumption) | assumption)
          have q230 : x5_1 < (l1.length : Int) := of_decide_eq_true (by first | (with_reducible assumption) | assumption)
          obtain ⟨ad230, A230_2, c230_2, e230, hx230_0, hx230_1, hx230_2, hl230_2, hi230_2⟩ := at_T65 HR1.out x5_1 p230 q230
          have hw230_2 := hx230_2;have hw230_1 := hx230_1;have hw230_0 := hx230_0
          obtain rfl : ad226 = ad230 := (by injection e230)
          replace hx230_0 := (HB.out.cell (World.block_lt_of_cell? w _ hx230_0)).trans hx230_0
          replace hx230_1 := (HB.out.cell (World.block_lt_of_cell? w _ hx230_1)).trans hx230_1
          replace hx230_2 := (HB.out.cell (World.block_lt_of_cell? w _ hx230_2)).trans hx230_2
          have HR230_2 := Aside0.mk hi230_2
          have HC230_2 := Aside0.mk hl230_2
          clear hi230_2 hl230_2
          replace p230 := eq_true p230
          replace q230 := eq_true q230
          have ea_ := Option.some.inj (hx226_2.symm.trans hx230_2)
          injection ea_ with ea_ en_ ec_
          subst ea_;subst ec_;clear en_;refine start_ (n := 38) (S := fun w' => w'.cell? (ad225.add ((x5_1).toNat * 3)) = some (.bool ((rd_T65 l0 x5_1).f0)) ∧ w'.cell? ⟨(ad225.add ((x5_1).toNat * 3)).block, (ad225.add ((x5_1).toNat * 3)).off + 1, none⟩ = some (.int .u64 ((rd_T65 l0 x5_1).f1)) ∧ w'.cell? ⟨(ad225.add ((x5_1).toNat * 3)).block, (ad225.add ((x5_1).toNat * 3)).off + 2, none⟩ = some (.slice A225_2 ((rd_T65 l0 x5_1).f2).length c225_2) ∧ w'.cell? (ad226.add ((x5_1).toNat * 3)) = some (.bool ((rd_T65 l1 x5_1).f0)) ∧ w'.cell? ⟨(ad226.add ((x5_1).toNat * 3)).block, (ad226.add ((x5_1).toNat * 3)).off + 1, none⟩ = some (.int .u64 ((rd_T65 l1 x5_1).f1)) ∧ w'.cell? ⟨(ad226.add ((x5_1).toNat * 3)).block, (ad226.add ((x5_1).toNat * 3)).off + 2, none⟩ = some (.slice A226_2 ((rd_T65 l1 x5_1).f2).length c226_2) ∧ w'.cell? (ad225.add ((x5_1).toNat * 3)) = some (.bool ((rd_T65 l0 x5_1).f0)) ∧ w'.cell? ⟨(ad225.add ((x5_1).toNat * 3)).block, (ad225.add ((x5_1).toNat * 3)).off + 1, none⟩ = some (.int .u64 ((rd_T65 l0 x5_1).f1)) ∧ w'.cell? ⟨(ad225.add ((x5_1).toNat * 3)).block, (ad225.add ((x5_1).toNat * 3)).off + 2, none⟩ = some (.slice A225_2 ((rd_T65 l0 x5_1).f2).length c225_2) ∧ w'.cell? (ad226.add ((x5_1).toNat * 3)) = some (.bool ((rd_T65 l1 x5_1).f0)) ∧ w'.cell? ⟨(ad226.add ((x5_1).toNat * 3)).block, (ad226.add ((x5_1).toNat * 3)).off + 1, none⟩ = some (.int .u64 ((rd_T65 l1 x5_1).f1)) ∧ w'.cell? ⟨(ad226.add ((x5_1).toNat * 3)).block, (ad226.add ((x5_1).toNat * 3)).off + 2, none⟩ = some (.slice A226_2 ((rd_T65 l1 x5_1).f2).length c226_2) ∧ w'.cell? (ad225.add ((x5_1).toNat * 3)) = some (.bool ((rd_T65 l0 x5_1).f0)) ∧ w'.cell? ⟨(ad225.add ((x5_1).toNat * 3)).block, (ad225.add ((x5_1).toNat * 3)).off + 1, none⟩ = some (.int .u64 ((rd_T65 l0 x5_1).f1)) ∧ w'.cell? ⟨(ad225.add ((x5_1).toNat * 3)).block, (ad225.add ((x5_1).toNat * 3)).off + 2, none⟩ = some (.slice A225_2 ((rd_T65 l0 x5_1).f2).length c225_2) ∧ w'.cell? (ad226.add ((x5_1).toNat * 3)) = some (.bool ((rd_T65 l1 x5_1).f0)) ∧ w'.cell? ⟨(ad226.add ((x5_1).toNat * 3)).block, (ad226.add ((x5_1).toNat * 3)).off + 1, none⟩ = some (.int .u64 ((rd_T65 l1 x5_1).f1)) ∧ w'.cell? ⟨(ad226.add ((x5_1).toNat * 3)).block, (ad226.add ((x5_1).toNat * 3)).off + 2, none⟩ = some (.slice A226_2 ((rd_T65 l1 x5_1).f2).length c226_2)) (ds := []) #[false,false,false,false,false,false,false,false,false,false,false,false,false,false,false,false,false,false,false,false,false,false,false,false,false,false,false,false,false,false,false,false,false,false,false,false,false,false] (by kernel_rfl) rfl rfl ⟨((HB.out.cell (World.block_lt_of_cell? w _ hw225_0)).trans hw225_0), ((HB.out.cell (World.block_lt_of_cell? w _ hw225_1)).trans hw225_1), ((HB.out.cell (World.block_lt_of_cell? w _ hw225_2)).trans hw225_2), ((HB.out.cell (World.block_lt_of_cell? w _ hw226_0)).trans hw226_0), ((HB.out.cell (World.block_lt_of_cell? w _ hw226_1)).trans hw226_1), ((HB.out.cell (World.block_lt_of_cell? w _ hw226_2)).trans hw226_2), ((HB.out.cell (World.block_lt_of_cell? w _ hw227_0)).trans hw227_0), ((HB.out.cell (World.block_lt_of_cell? w _ hw227_1)).trans hw227_1), ((HB.out.cell (World.block_lt_of_cell? w _ hw227_2)).trans hw227_2), ((HB.out.cell (World.block_lt_of_cell? w _ hw228_0)).trans hw228_0), ((HB.out.cell (World.block_lt_of_cell? w _ hw228_1)).trans hw228_1), ((HB.out.cell (World.block_lt_of_cell? w _ hw228_2)).trans hw228_2), ((HB.out.cell (World.block_lt_of_cell? w _ hw229_0)).trans hw229_0), ((HB.out.cell (World.block_lt_of_cell? w _ hw229_1)).trans hw229_1), ((HB.out.cell (World.block_lt_of_cell? w _ hw229_2)).trans hw229_2), ((HB.out.cell (World.block_lt_of_cell? w _ hw230_0)).trans hw230_0), ((HB.out.cell (World.block_lt_of_cell? w _ hw230_1)).trans hw230_1), ((HB.out.cell (World.block_lt_of_cell? w _ hw230_2)).trans hw230_2)⟩ (fun hHeld => ?_); refine with_tabW folkmootref08_Answers.tab6 folkmootref08_Answers.bits6 (fun HT_ HW_ => ?_)
          generalize wr.drew = w13 at HB HR225_2 HR226_2 HR227_2 HR228_2 HR229_2 HR230_2 hx225_0 hx225_1 hx225_2 hx226_0 hx226_1 hx226_2 hx227_0 hx227_1 hx227_2 hx228_0 hx228_1 hx228_2 hx229_0 hx229_1 hx229_2 hx230_0 hx230_1 hx230_2 hHeld ⊢
          refine pu_ 0 17 ?_;refine pu_ 1 18 ?_;refine pu_ 2 19 ?_;refine pu_ 3 20 ?_;refine pu_ 5 22 ?_;refine pu_ 6 23 ?_;refine pu_ 7 24 ?_;refine pu_ 8 25 ?_;refine ta_ 4 21 hHeld ?_;refine ta_ 9 26 hHeld ?_;refine pu_ 10 27 ?_;refine pu_ 11 28 ?_;refine pu_ 12 29 ?_;refine pu_ 13 30 ?_;refine pu_ 14 31 ?_;refine pu_ 15 32 ?_;refine pu_ 17 34 ?_;refine pu_ 18 35 ?_;refine pu_ 19 36 ?_;refine pu_ 20 37 ?_;refine ta_ 16 33 hHeld ?_;refine ta_ 21 38 hHeld ?_;refine pu_ 22 39 ?_;refine pu_ 23 40 ?_;refine pu_ 24 41 ?_;refine pu_ 25 42 ?_;refine pu_ 26 43 ?_;refine pu_ 27 44 ?_;refine pu_ 28 45 ?_;refine pu_ 30 47 ?_;refine pu_ 31 48 ?_;refine pu_ 32 49 ?_;refine pu_ 33 50 ?_;refine ta_ 29 46 hHeld ?_;refine ta_ 34 51 hHeld ?_;refine one_ (i := 35) (N := some 52) #[true,true,true,true,true,true,true,true,true,true,true,true,true,true,true,true,true,true,true,true,true,true,true,true,true,true,true,true,true,true,true,true,true,true,true,true,false,false] rfl rfl (one_of HT_.out (by kernel_rfl)) (by decide) (fun K hK => ?_);refine goes_ Tryz.func31 (by kernel_rfl) rfl #[.slice A225_2 ((rd_T65 l0 x5_1).f2).length c225_2, .slice A226_2 ((rd_T65 l1 x5_1).f2).length c226_2] (by rfl) rfl rfl (by (try simp only [List.map_toArray, List.map_cons, List.map_nil]); first | done | rfl | (simp only [List.length_drop, List.length_take]; rfl)) ?_
          with_reducible refine (folkmootref08_Pairs.calls k1 _ _ ((rd_T65 l0 x5_1).f2) _ _ ((rd_T65 l1 x5_1).f2) false _ ?side1 ?side2 ?side3 ?side4 A10.out).mono ?_
          (case side1 => repeat (first | exact (Kd.C_below HR229_2.out HB.out) | (with_reducible refine Kd.C_alloc ?_ _) | (with_reducible refine Kd.C_drewN ?_ _) | (with_reducible refine Kd.C_drew ?_)))
          (case side2 => exact HC229_2.out)
          (case side3 => repeat (first | exact (Kd.C_below HR230_2.out HB.out) | (with_reducible refine Kd.C_alloc ?_ _) | (with_reducible refine Kd.C_drewN ?_ _) | (with_reducible refine Kd.C_drew ?_)))
          (case side4 => exact HC230_2.out)
          rintro e w' ⟨rfl, ⟨nd, rfl⟩⟩
          refine ⟨_, rfl, ?_⟩
          refine hK.out _ _ ⟨((HB.out.cell (World.block_lt_of_cell? w _ hw225_0)).trans hw225_0), ((HB.out.cell (World.block_lt_of_cell? w _ hw225_1)).trans hw225_1), ((HB.out.cell (World.block_lt_of_cell? w _ hw225_2)).trans hw225_2), ((HB.out.cell (World.block_lt_of_cell? w _ hw226_0)).trans hw226_0), ((HB.out.cell (World.block_lt_of_cell? w _ hw226_1)).trans hw226_1), ((HB.out.cell (World.block_lt_of_cell? w _ hw226_2)).trans hw226_2), ((HB.out.cell (World.block_lt_of_cell? w _ hw227_0)).trans hw227_0), ((HB.out.cell (World.block_lt_of_cell? w _ hw227_1)).trans hw227_1), ((HB.out.cell (World.block_lt_of_cell? w _ hw227_2)).trans hw227_2), ((HB.out.cell (World.block_lt_of_cell? w _ hw228_0)).trans hw228_0), ((HB.out.cell (World.block_lt_of_cell? w _ hw228_1)).trans hw228_1), ((HB.out.cell (World.block_lt_of_cell? w _ hw228_2)).trans hw228_2), ((HB.out.cell (World.block_lt_of_cell? w _ hw229_0)).trans hw229_0), ((HB.out.cell (World.block_lt_of_cell? w _ hw229_1)).trans hw229_1), ((HB.out.cell (World.block_lt_of_cell? w _ hw229_2)).trans hw229_2), ((HB.out.cell (World.block_lt_of_cell? w _ hw230_0)).trans hw230_0), ((HB.out.cell (World.block_lt_of_cell? w _ hw230_1)).trans hw230_1), ((HB.out.cell (World.block_lt_of_cell? w _ hw230_2)).trans hw230_2)⟩ (fun hHeld => ?_);clear hK K;refine norm_ (a' := ?_) ?_ ?_;rotate_left
          ·show Act.put _ (some 52) _ = _
           simp only [Act.put, List.setIfInBounds_toArray, List.set_cons_zero, List.set_cons_succ, i64_w, i32_w];rfl
          refine pu_ 36 53 ?_;refine pu_ 37 54 ?_;refine done_ (done_of HT_.out (by kernel_rfl)) ?_
          try go_wp2
          go_ret
          exact ⟨by first | rfl | (rw [bl_gt] <;> rfl) | (simp [errW_none, errW_some] <;> rfl) | (simp [*, errW_none, errW_some] <;> rfl), bB_⟩
        ·rw [if_neg c9] at H
         have c9b0 : (((rd_T65 l0 x5_1).f1) == ((rd_T65 l1 x5_1).f1)) = false := beq_eq_false_iff_ne.mpr c9
         have c9b1 : (((rd_T65 l0 x5_1).f1) != ((rd_T65 l1 x5_1).f1)) = true := bne_iff_ne.mpr c9
         obtain rfl := Option.some.inj H
         try go_wp2
         have n0_ := Aside0.mk (below_drew1 HB.out)
         clear HB;have HB := n0_;clear n0_
         have p225 : 0 ≤ (x5_1 : Int) := of_decide_eq_true (by first | (with_reducible assumption) | assumption)
         have q225 : x5_1 < (l0.length : Int) := of_decide_eq_true (by first | (with_reducible assumption) | assumption)
         obtain ⟨ad225, A225_2, c225_2, e225, hx225_0, hx225_1, hx225_2, hl225_2, hi225_2⟩ := at_T65 HR0.out x5_1 p225 q225
         have hw225_2 := hx225_2;have hw225_1 := hx225_1;have hw225_0 := hx225_0
         cases e225
         replace hx225_0 := (HB.out.cell (World.block_lt_of_cell? w _ hx225_0)).trans hx225_0
         replace hx225_1 := (HB.out.cell (World.block_lt_of_cell? w _ hx225_1)).trans hx225_1
         replace hx225_2 := (HB.out.cell (World.block_lt_of_cell? w _ hx225_2)).trans hx225_2
         have HR225_2 := Aside0.mk hi225_2
         have HC225_2 := Aside0.mk hl225_2
         clear hi225_2 hl225_2
         replace p225 := eq_true p225
         replace q225 := eq_true q225
         have p226 : 0 ≤ (x5_1 : Int) := of_decide_eq_true (by first | (with_reducible assumption) | assumption)
         have q226 : x5_1 < (l1.length : Int) := of_decide_eq_true (by first | (with_reducible assumption) | assumption)
         obtain ⟨ad226, A226_2, c226_2, e226, hx226_0, hx226_1, hx226_2, hl226_2, hi226_2⟩ := at_T65 HR1.out x5_1 p226 q226
         have hw226_2 := hx226_2;have hw226_1 := hx226_1;have hw226_0 := hx226_0
         cases e226
         replace hx226_0 := (HB.out.cell (World.block_lt_of_cell? w _ hx226_0)).trans hx226_0
         replace hx226_1 := (HB.out.cell (World.block_lt_of_cell? w _ hx226_1)).trans hx226_1
         replace hx226_2 := (HB.out.cell (World.block_lt_of_cell? w _ hx226_2)).trans hx226_2
         have HR226_2 := Aside0.mk hi226_2
         have HC226_2 := Aside0.mk hl226_2
         clear hi226_2 hl226_2
         replace p226 := eq_true p226
         replace q226 := eq_true q226
         have p227 : 0 ≤ (x5_1 : Int) := of_decide_eq_true (by first | (with_reducible assumption) | assumption)
         have q227 : x5_1 < (l0.length : Int) := of_decide_eq_true (by first | (with_reducible assumption) | assumption)
         obtain ⟨ad227, A227_2, c227_2, e227, hx227_0, hx227_1, hx227_2, hl227_2, hi227_2⟩ := at_T65 HR0.out x5_1 p227 q227
         have hw227_2 := hx227_2;have hw227_1 := hx227_1;have hw227_0 := hx227_0
         obtain rfl : ad225 = ad227 := (by injection e227)
         replace hx227_0 := (HB.out.cell (World.block_lt_of_cell? w _ hx227_0)).trans hx227_0
         replace hx227_1 := (HB.out.cell (World.block_lt_of_cell? w _ hx227_1)).trans hx227_1
         replace hx227_2 := (HB.out.cell (World.block_lt_of_cell? w _ hx227_2)).trans hx227_2
         have HR227_2 := Aside0.mk hi227_2
         have HC227_2 := Aside0.mk hl227_2
         clear hi227_2 hl227_2
         replace p227 := eq_true p227
         replace q227 := eq_true q227
         have ea_ := Option.some.inj (hx225_2.symm.trans hx227_2)
         injection ea_ with ea_ en_ ec_
         subst ea_;subst ec_;clear en_
         have p228 : 0 ≤ (x5_1 : Int) := of_decide_eq_true (by first | (with_reducible assumption) | assumption)
         have q228 : x5_1 < (l1.length : Int) := of_decide_eq_true (by first | (with_reducible assumption) | assumption)
         obtain ⟨ad228, A228_2, c228_2, e228, hx228_0, hx228_1, hx228_2, hl228_2, hi228_2⟩ := at_T65 HR1.out x5_1 p228 q228
         have hw228_2 := hx228_2;have hw228_1 := hx228_1;have hw228_0 := hx228_0
         obtain rfl : ad226 = ad228 := (by injection e228)
         replace hx228_0 := (HB.out.cell (World.block_lt_of_cell? w _ hx228_0)).trans hx228_0
         replace hx228_1 := (HB.out.cell (World.block_lt_of_cell? w _ hx228_1)).trans hx228_1
         replace hx228_2 := (HB.out.cell (World.block_lt_of_cell? w _ hx228_2)).trans hx228_2
         have HR228_2 := Aside0.mk hi228_2
         have HC228_2 := Aside0.mk hl228_2
         clear hi228_2 hl228_2
         replace p228 := eq_true p228
         replace q228 := eq_true q228
         have ea_ := Option.some.inj (hx226_2.symm.trans hx228_2)
         injection ea_ with ea_ en_ ec_
         subst ea_;subst ec_;clear en_;refine start_ (n := 38) (S := fun w' => w'.cell? (ad225.add ((x5_1).toNat * 3)) = some (.bool ((rd_T65 l0 x5_1).f0)) ∧ w'.cell? ⟨(ad225.add ((x5_1).toNat * 3)).block, (ad225.add ((x5_1).toNat * 3)).off + 1, none⟩ = some (.int .u64 ((rd_T65 l0 x5_1).f1)) ∧ w'.cell? ⟨(ad225.add ((x5_1).toNat * 3)).block, (ad225.add ((x5_1).toNat * 3)).off + 2, none⟩ = some (.slice A225_2 ((rd_T65 l0 x5_1).f2).length c225_2) ∧ w'.cell? (ad226.add ((x5_1).toNat * 3)) = some (.bool ((rd_T65 l1 x5_1).f0)) ∧ w'.cell? ⟨(ad226.add ((x5_1).toNat * 3)).block, (ad226.add ((x5_1).toNat * 3)).off + 1, none⟩ = some (.int .u64 ((rd_T65 l1 x5_1).f1)) ∧ w'.cell? ⟨(ad226.add ((x5_1).toNat * 3)).block, (ad226.add ((x5_1).toNat * 3)).off + 2, none⟩ = some (.slice A226_2 ((rd_T65 l1 x5_1).f2).length c226_2) ∧ w'.cell? (ad225.add ((x5_1).toNat * 3)) = some (.bool ((rd_T65 l0 x5_1).f0)) ∧ w'.cell? ⟨(ad225.add ((x5_1).toNat * 3)).block, (ad225.add ((x5_1).toNat * 3)).off + 1, none⟩ = some (.int .u64 ((rd_T65 l0 x5_1).f1)) ∧ w'.cell? ⟨(ad225.add ((x5_1).toNat * 3)).block, (ad225.add ((x5_1).toNat * 3)).off + 2, none⟩ = some (.slice A225_2 ((rd_T65 l0 x5_1).f2).length c225_2) ∧ w'.cell? (ad226.add ((x5_1).toNat * 3)) = some (.bool ((rd_T65 l1 x5_1).f0)) ∧ w'.cell? ⟨(ad226.add ((x5_1).toNat * 3)).block, (ad226.add ((x5_1).toNat * 3)).off + 1, none⟩ = some (.int .u64 ((rd_T65 l1 x5_1).f1)) ∧ w'.cell? ⟨(ad226.add ((x5_1).toNat * 3)).block, (ad226.add ((x5_1).toNat * 3)).off + 2, none⟩ = some (.slice A226_2 ((rd_T65 l1 x5_1).f2).length c226_2)) (ds := []) #[false,false,false,false,false,false,false,false,false,false,false,false,false,false,false,false,false,false,false,false,false,false,false,false,false,false,false,false,false,false,false,false,false,false,false,false,false,false] (by kernel_rfl) rfl rfl ⟨((HB.out.cell (World.block_lt_of_cell? w _ hw225_0)).trans hw225_0), ((HB.out.cell (World.block_lt_of_cell? w _ hw225_1)).trans hw225_1), ((HB.out.cell (World.block_lt_of_cell? w _ hw225_2)).trans hw225_2), ((HB.out.cell (World.block_lt_of_cell? w _ hw226_0)).trans hw226_0), ((HB.out.cell (World.block_lt_of_cell? w _ hw226_1)).trans hw226_1), ((HB.out.cell (World.block_lt_of_cell? w _ hw226_2)).trans hw226_2), ((HB.out.cell (World.block_lt_of_cell? w _ hw227_0)).trans hw227_0), ((HB.out.cell (World.block_lt_of_cell? w _ hw227_1)).trans hw227_1), ((HB.out.cell (World.block_lt_of_cell? w _ hw227_2)).trans hw227_2), ((HB.out.cell (World.block_lt_of_cell? w _ hw228_0)).trans hw228_0), ((HB.out.cell (World.block_lt_of_cell? w _ hw228_1)).trans hw228_1), ((HB.out.cell (World.block_lt_of_cell? w _ hw228_2)).trans hw228_2)⟩ (fun hHeld => ?_); refine with_tabW folkmootref08_Answers.tab6 folkmootref08_Answers.bits6 (fun HT_ HW_ => ?_)
         generalize wr.drew = w14 at HB HR225_2 HR226_2 HR227_2 HR228_2 hx225_0 hx225_1 hx225_2 hx226_0 hx226_1 hx226_2 hx227_0 hx227_1 hx227_2 hx228_0 hx228_1 hx228_2 hHeld ⊢
         refine pu_ 0 17 ?_;refine pu_ 1 18 ?_;refine pu_ 2 19 ?_;refine pu_ 3 20 ?_;refine pu_ 5 22 ?_;refine pu_ 6 23 ?_;refine pu_ 7 24 ?_;refine pu_ 8 25 ?_;refine ta_ 4 21 hHeld ?_;refine ta_ 9 26 hHeld ?_;refine pu_ 10 27 ?_;refine pu_ 11 28 ?_;refine pu_ 12 29 ?_;refine pu_ 13 30 ?_;refine pu_ 14 31 ?_;refine pu_ 15 32 ?_;refine pu_ 17 34 ?_;refine pu_ 18 35 ?_;refine pu_ 19 36 ?_;refine pu_ 20 37 ?_;refine ta_ 16 33 hHeld ?_;refine ta_ 21 38 hHeld ?_;refine pu_ 22 39 ?_;refine pu_ 23 40 ?_;refine pu_ 24 41 ?_;refine pure_ (i := 25) (N := some 42) (v := undef) (a' := ?_) #[true,true,true,true,true,true,true,true,true,true,true,true,true,true,true,true,true,true,true,true,true,true,true,true,true,true,false,false,false,false,false,false,false,false,false,false,false,false] rfl rfl (any_of HT_.out (by kernel_rfl)) (fun _ _ _ h => h) (Or.inr ⟨by rfl, rfl⟩) ?_ ?_;rotate_left
         ·simp only [Act.put, List.setIfInBounds_toArray, List.set_cons_zero, List.set_cons_succ, i64_w, i32_w];rfl
         refine pure_ (i := 26) (N := some 43) (v := undef) (a' := ?_) #[true,true,true,true,true,true,true,true,true,true,true,true,true,true,true,true,true,true,true,true,true,true,true,true,true,true,true,false,false,false,false,false,false,false,false,false,false,false] rfl rfl (any_of HT_.out (by kernel_rfl)) (fun _ _ _ h => h) (Or.inr ⟨by rfl, rfl⟩) ?_ ?_;rotate_left
         ·simp only [Act.put, List.setIfInBounds_toArray, List.set_cons_zero, List.set_cons_succ, i64_w, i32_w];rfl
         refine pure_ (i := 27) (N := some 44) (v := undef) (a' := ?_) #[true,true,true,true,true,true,true,true,true,true,true,true,true,true,true,true,true,true,true,true,true,true,true,true,true,true,true,true,false,false,false,false,false,false,false,false,false,false] rfl rfl (any_of HT_.out (by kernel_rfl)) (fun _ _ _ h => h) (Or.inr ⟨by rfl, rfl⟩) ?_ ?_;rotate_left
         ·simp only [Act.put, List.setIfInBounds_toArray, List.set_cons_zero, List.set_cons_succ, i64_w, i32_w];rfl
         refine pure_ (i := 28) (N := some 45) (v := undef) (a' := ?_) #[true,true,true,true,true,true,true,true,true,true,true,true,true,true,true,true,true,true,true,true,true,true,true,true,true,true,true,true,true,false,false,false,false,false,false,false,false,false] rfl rfl (any_of HT_.out (by kernel_rfl)) (fun _ _ _ h => h) (Or.inr ⟨by rfl, rfl⟩) ?_ ?_;rotate_left
         ·simp only [Act.put, List.setIfInBounds_toArray, List.set_cons_zero, List.set_cons_succ, i64_w, i32_w];rfl
         refine pure_ (i := 29) (N := some 46) (v := undef) (a' := ?_) #[true,true,true,true,true,true,true,true,true,true,true,true,true,true,true,true,true,true,true,true,true,true,true,true,true,true,true,true,true,true,false,false,false,false,false,false,false,false] rfl rfl (any_of HT_.out (by kernel_rfl)) (fun _ _ _ h => h) (Or.inr ⟨by rfl, rfl⟩) ?_ ?_;rotate_left
         ·simp only [Act.put, List.setIfInBounds_toArray, List.set_cons_zero, List.set_cons_succ, i64_w, i32_w];rfl
         refine pure_ (i := 30) (N := some 47) (v := undef) (a' := ?_) #[true,true,true,true,true,true,true,true,true,true,true,true,true,true,true,true,true,true,true,true,true,true,true,true,true,true,true,true,true,true,true,false,false,false,false,false,false,false] rfl rfl (any_of HT_.out (by kernel_rfl)) (fun _ _ _ h => h) (Or.inr ⟨by rfl, rfl⟩) ?_ ?_;rotate_left
         ·simp only [Act.put, List.setIfInBounds_toArray, List.set_cons_zero, List.set_cons_succ, i64_w, i32_w];rfl
         refine pure_ (i := 31) (N := some 48) (v := undef) (a' := ?_) #[true,true,true,true,true,true,true,true,true,true,true,true,true,true,true,true,true,true,true,true,true,true,true,true,true,true,true,true,true,true,true,true,false,false,false,false,false,false] rfl rfl (any_of HT_.out (by kernel_rfl)) (fun _ _ _ h => h) (Or.inr ⟨by rfl, rfl⟩) ?_ ?_;rotate_left
         ·simp only [Act.put, List.setIfInBounds_toArray, List.set_cons_zero, List.set_cons_succ, i64_w, i32_w];rfl
         refine pure_ (i := 32) (N := some 49) (v := undef) (a' := ?_) #[true,true,true,true,true,true,true,true,true,true,true,true,true,true,true,true,true,true,true,true,true,true,true,true,true,true,true,true,true,true,true,true,true,false,false,false,false,false] rfl rfl (any_of HT_.out (by kernel_rfl)) (fun _ _ _ h => h) (Or.inr ⟨by rfl, rfl⟩) ?_ ?_;rotate_left
         ·simp only [Act.put, List.setIfInBounds_toArray, List.set_cons_zero, List.set_cons_succ, i64_w, i32_w];rfl
         refine pure_ (i := 33) (N := some 50) (v := undef) (a' := ?_) #[true,true,true,true,true,true,true,true,true,true,true,true,true,true,true,true,true,true,true,true,true,true,true,true,true,true,true,true,true,true,true,true,true,true,false,false,false,false] rfl rfl (any_of HT_.out (by kernel_rfl)) (fun _ _ _ h => h) (Or.inr ⟨by rfl, rfl⟩) ?_ ?_;rotate_left
         ·simp only [Act.put, List.setIfInBounds_toArray, List.set_cons_zero, List.set_cons_succ, i64_w, i32_w];rfl
         refine pure_ (i := 34) (N := some 51) (v := undef) (a' := ?_) #[true,true,true,true,true,true,true,true,true,true,true,true,true,true,true,true,true,true,true,true,true,true,true,true,true,true,true,true,true,true,true,true,true,true,true,false,false,false] rfl rfl (any_of HT_.out (by kernel_rfl)) (fun _ _ _ h => h) (Or.inr ⟨by rfl, rfl⟩) ?_ ?_;rotate_left
         ·simp only [Act.put, List.setIfInBounds_toArray, List.set_cons_zero, List.set_cons_succ, i64_w, i32_w];rfl
         refine pure_ (i := 35) (N := some 52) (v := undef) (a' := ?_) #[true,true,true,true,true,true,true,true,true,true,true,true,true,true,true,true,true,true,true,true,true,true,true,true,true,true,true,true,true,true,true,true,true,true,true,true,false,false] rfl rfl (any_of HT_.out (by kernel_rfl)) (fun _ _ _ h => h) (Or.inr ⟨by rfl, rfl⟩) ?_ ?_;rotate_left
         ·simp only [Act.put, List.setIfInBounds_toArray, List.set_cons_zero, List.set_cons_succ, i64_w, i32_w];rfl
         refine pure_ (i := 36) (N := some 53) (v := undef) (a' := ?_) #[true,true,true,true,true,true,true,true,true,true,true,true,true,true,true,true,true,true,true,true,true,true,true,true,true,true,true,true,true,true,true,true,true,true,true,true,true,false] rfl rfl (any_of HT_.out (by kernel_rfl)) (fun _ _ _ h => h) (Or.inr ⟨by rfl, rfl⟩) ?_ ?_;rotate_left
         ·simp only [Act.put, List.setIfInBounds_toArray, List.set_cons_zero, List.set_cons_succ, i64_w, i32_w];rfl
         refine pu_ 37 54 ?_;refine done_ (done_of HT_.out (by kernel_rfl)) ?_
         try go_wp2
         go_ret
         exact ⟨by first | rfl | (rw [bl_gt] <;> rfl) | (simp [errW_none, errW_some] <;> rfl) | (simp [*, errW_none, errW_some] <;> rfl), bB_⟩
      ·rw [if_neg c6] at H
       exact absurd H (by simp)
     ·rw [if_neg c5] at H
      exact absurd H (by simp)
    ·rw [if_neg c4] at H
     have c4b0 : decide (x5_1 < (l0.length : Int)) = false := decide_eq_false c4
     clear c4;obtain rfl := Option.some.inj H
     go_wp2
     go_ret
     exact ⟨by first | rfl | (rw [bl_gt] <;> rfl) | (simp [errW_none, errW_some] <;> rfl) | (simp [*, errW_none, errW_some] <;> rfl), bB_⟩
 ·rw [if_neg c3] at H
  have c3b0 : ((l0.length : Int) == (l1.length : Int)) = false := beq_eq_false_iff_ne.mpr c3
  have c3b1 : ((l0.length : Int) != (l1.length : Int)) = true := bne_iff_ne.mpr c3
  have c3b2 : (l0.length == l1.length) = false := by first | simpa using c3 | (simp at c3 ⊢; omega)
  obtain rfl := Option.some.inj H
  go_enter Tryz.func30, Tryz.ntmps30
  go_wp2
  go_ret
  exact ⟨by first | rfl | (rw [bl_gt] <;> rfl) | (simp [errW_none, errW_some] <;> rfl) | (simp [*, errW_none, errW_some] <;> rfl), bB_⟩
end Go.Proofs.YtgmlenpcchhmbaaGreat.P
end
section
set_option linter.unusedVariables false
set_option linter.unusedSimpArgs false
namespace Go.Proofs.YtgmlenpcchhmbaaGreat.P
open Go.RowKit Go.Proofs.YtgmlenpcchhmbaaGreatW.PrintWords Go.Proofs.YtgmlenpcchhmbaaGreatW.PrintLast Go.Proofs.YtgmlenpcchhmbaaGreatW.PrintMore
attribute [local go_sem] max2_int min2_int max_two min_two max_three min_three max_four min_four   -- for this text's walks alone
theorem eqA63 (d : Nat) (w : World) (x0 y0 : Int) (x1 y1 : ByteArray) (x2 y2 : ByteArray) (x3 y3 : Int) :
  (Op.equalIn (d + 2) 63 (.agg #[.int .i64 x0, .string x1, .string x2, .int .u64 x3]) (.agg #[.int .i64 y0, .string y1, .string y2, .int .u64 y3])).run Tryz.prog w = .ok (x0 == y0 && (x1.toList == y1.toList && (x2.toList == y2.toList && (x3 == y3)))) w := by
 refine eqA_of Tryz.underlying63 (by kernel_rfl) ?_;refine eqf_cons (by rfl) (by go_simp; rfl) (by go_simp; rfl) (by go_simp) ?_;refine eqf_cons (by rfl) (by go_simp; rfl) (by go_simp; rfl) (by go_simp) ?_;refine eqf_cons (by rfl) (by go_simp; rfl) (by go_simp; rfl) (by go_simp) ?_
 exact eqf_last (by rfl) (by go_simp; rfl) (by go_simp; rfl) (by go_simp)
end Go.Proofs.YtgmlenpcchhmbaaGreat.P
end
