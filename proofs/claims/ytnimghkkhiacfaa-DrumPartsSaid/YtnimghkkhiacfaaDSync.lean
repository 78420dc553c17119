/- A drum: Sync. -/
import Derived.Test.YtnimghkkhiacfaaDAppB
import Derived.Test.YtnimghkkhiacfaaPBL
import Derived.Deep.RegionHeld3
namespace Go.Proofs.Ytnimghkkhiacfaa.P
open Go.RowKit Go.Proofs.YtnimghkkhiacfaaW.PrintWords Go.Proofs.YtnimghkkhiacfaaW.PrintLast Go.Proofs.YtnimghkkhiacfaaW.PrintMore
theorem reads_row {w : World} {A : Option Addr} {n : Nat} {xs : List Int} (h : ReadsInt w .u8 A n xs) : ReadsRow (fun x cs => cs = [.int .u8 x]) 1 w A n xs := by
  obtain ⟨h1, h2, h3⟩ := h
  refine ⟨h1, h2, fun hp => ?_⟩
  obtain ⟨ad, e, hc⟩ := h3 hp
  refine ⟨ad, e, fun j p hj => ⟨[.int .u8 p], rfl, rfl, fun i u hu => ?_⟩⟩
  rcases i with _ | i
  · simp only [List.getElem?_cons_zero, Option.some.injEq] at hu
    subst hu
    have hlt := (List.getElem?_eq_some_iff.1 hj).1
    have := hc j (by omega)
    rw [Nat.mul_one, Nat.add_zero, this, List.getD_eq_getElem?_getD, hj]
    rfl
  · simp at hu
/-- append of bytes that are read, in a region that draws its order. -/
theorem row_append_step {P : Program} {ops : Array Oper} {o : Oper} {a : Go.Act} {Q : Exit → Go.Act → World → Prop} {Kc : Go.Act → World → Prop} {W : World} (hw : Region.wanted o (yielded ops a.tmps) = true) (s x : Operand) (t e : TypeId)
    (ho : o.op = .call { callee := .builtin .append, args := #[s, x], argTypes := #[t, t] }) (ht : P.underlying t = some (.slice e)) (hinfo : (P.info? e).map (fun i => (i.zero, i.size, i.bytes)) = some (some (.int .u8 0), 1, 1))
    (v : Value) (xs ys : List Int) (A : Option Addr) (m c : Nat) (hs : a.eval s = v) (hx : a.eval x = .slice A m c) (HO : W.ownsRow 0 e 1 v xs.length (nums .u8 xs)) (HR : ReadsInt W .u8 A m ys) (hl : (xs.length + m) * 1 ≤ 140737488355328)
    (h : ∀ v1 w1, w1.ownsRow 0 e 1 v1 (xs ++ ys).length (nums .u8 (xs ++ ys)) → W.grownBy w1 v.ownBlock → (v1.ownBlock = v.ownBlock ∨ ∃ b, v1.ownBlock = some b ∧ W.heap.size ≤ b) → Kc (a.put o.dst v1) w1) :
    if Region.wanted o (yielded ops a.tmps) = true then Oper.wp P o a W Kc Q else Kc (a.put o.dst undef) W :=
  Kd.R_append_rows_step (Kd.int .u8) (w0 := W) 0 hw s x t e (.int .u8 0) 1 ho ht hinfo rfl (by decide) (by decide) v xs ys A m c (fun _ => True) (fun _ => False) hs hx (Kd.R_of_own HO (fun _ _ => trivial)) (reads_row HR) (fun x cs h => h) (fun _ h => h.elim) (fun _ _ => trivial) (Below.refl _ _) (Nat.zero_le _) hl
    (fun v1 w1 hR hb hg hat => h v1 w1 (Kd.own_of_R hR) hg hat)
section
variable {w : World} {o : Nat → Int} {g mb : Nat} {F : Files} {room : Nat} {left ops : Int} {dead : Bool}
theorem ptrs_same {fb : Int → Nat} {n : Int} {x : List Int × List Int} (hF : F n = some x) : (fun y => if y = n then some (.pointer (some ⟨fb n, 0, none⟩)) else ptrs F fb y) = ptrs F fb := by
  funext y
  by_cases e : y = n
  · subst e; rw [if_pos rfl]; simp [ptrs, hF]
  · rw [if_neg e]
theorem sync_done (h : DrumIs w o g mb F room left dead ops) {fb : Int → Nat} (hfs : ∀ n x, F n = some x → FileAt w o n (fb n) x.1 x.2) {n : Int} (hn : 1 ≤ n ∧ n ≤ 1000) {s r : List Int} (hF : F n = some (s, r)) (hm : MI w mb (ptrs F fb)) {As Ar A5 : Option Addr} {cs cr c5 : Nat} {w5 : World}
    (hBf : Blk w (fb n) 70 #[.slice As s.length cs, .slice Ar r.length cr]) (hRs : Row w (.slice As s.length cs) s)
    (hq : o (fb n) = n ∧ (∀ k, (Value.slice As s.length cs).ownBlock = some k → o k = n ∧ k ≠ fb n) ∧ (∀ k, (Value.slice Ar r.length cr).ownBlock = some k → o k = n ∧ k ≠ fb n) ∧ (∀ k, (Value.slice As s.length cs).ownBlock = some k → (Value.slice Ar r.length cr).ownBlock ≠ some k) ∧ sumF F ≤ room ∧ room ≤ 4194304 ∧ s.length + r.length ≤ sumF F)
    (hO5 : w5.ownsRow 0 5 1 (.slice A5 (s.length + r.length) c5) (s.length + r.length) (nums .u8 (s ++ r))) (hg5 : w.drew.drew.grownBy w5 (Value.slice As s.length cs).ownBlock) (hat5 : (Value.slice A5 (s ++ r).length c5).ownBlock = (Value.slice As s.length cs).ownBlock ∨ ∃ b, (Value.slice A5 (s ++ r).length c5).ownBlock = some b ∧ w.drew.drew.heap.size ≤ b)
    (hB6 : Blk (w5.setCell ⟨fb n, 0, none⟩ (.slice A5 (s.length + r.length) c5)) (fb n) 70 #[.slice A5 (s.length + r.length) c5, .slice Ar r.length cr]) :
    Did w ((w5.setCell ⟨fb n, 0, none⟩ (.slice A5 (s.length + r.length) c5)).setCell ⟨fb n, 1, none⟩ (.slice none 0 0)) o g mb (upF F n (some (s ++ r, []))) room left dead ops := by
  obtain ⟨hofn, hos, hor, hsr, hfit, hbig, hszr⟩ := hq
  rw [List.length_append] at hat5
  generalize hv5 : Value.slice A5 (s.length + r.length) c5 = v5 at *
  have hsd : w.drew.drew.heap.size = w.heap.size := rfl
  rw [hsd] at hat5
  have hu5' := Upd.of_grown hg5 (S := fun k => (Value.slice As s.length cs).ownBlock = some k) (fun k hk => hk)
  have hu5 : Upd w w5 (fun k => (Value.slice As s.length cs).ownBlock = some k) := ((Upd.refl w _).drew.drew).trans hu5'
  have hu6 := (Upd.refl w5 (· = fb n)).setCell (p := ⟨fb n, 0, none⟩) (.inl rfl) v5
  have hs6 : (w5.setCell ⟨fb n, 0, none⟩ v5).heap.size = w5.heap.size := by simp [World.setCell]
  have hu7 := (Upd.refl (w5.setCell ⟨fb n, 0, none⟩ v5) (· = fb n)).setCell (p := ⟨fb n, 1, none⟩) (.inl rfl) (.slice none 0 0)
  have hs7 : ((w5.setCell ⟨fb n, 0, none⟩ v5).setCell ⟨fb n, 1, none⟩ (.slice none 0 0)).heap.size = w5.heap.size := by simp [World.setCell]
  have hu67 := hu6.trans hu7
  have hg := h.glt; have hmb := h.mlt
  have hbf : fb n < w.heap.size := hBf.lt
  have hgo : ∀ k, o k = n → k ≠ g := fun k hk e => by have := h.zg; subst e; omega
  have hmo : ∀ k, o k = n → k ≠ mb := fun k hk e => by have := h.zm; subst e; omega
  have hR5 : Row w5 v5 (s ++ r) := by unfold Row; rw [List.length_append]; exact hO5
  have hvl := hR5.lt
  have hown : ∀ k, v5.ownBlock = some k → (o k = n ∨ w.heap.size ≤ k) ∧ k ≠ fb n := fun k hk => by
    rcases hat5 with e | ⟨b, e, hbb⟩
    · rw [e] at hk; exact ⟨.inl (hos k hk).1, (hos k hk).2⟩
    · rw [e] at hk
      injection hk with hk
      exact ⟨.inr (by omega), by omega⟩
  have hlo : ∀ k, o k = n ∨ w.heap.size ≤ k → k < w5.heap.size → oN w.heap.size w5.heap.size n o k = n := fun k hk hlt => by
    rcases hk with hk | hk
    · exact oN_of hk
    · exact oN_new hk hlt
  have hsum := sumF_up F (n := n) (by omega) (by omega) (some (s ++ r, []))
  rw [hF] at hsum
  simp only [szF, List.length_append, List.length_nil, Nat.add_zero] at hsum
  refine file_done h hfs hn ((hu5.mono fun k _ hk => .inr (.inr (.inl (hos k hk).1))).trans (hu67.mono fun k _ hk => .inr (.inr (.inl (hk ▸ hofn))))) ?_ (by omega) (by rw [ptrs_same hF]; exact (hm.upd hu5 (fun e => hmo _ (hos _ e).1 rfl)).upd hu67 (fun e => hmo _ hofn e.symm)) ?_
  · rw [show ((sumF (upF F n (some (s ++ r, []))) : Nat) : Int) = sumF F by omega]
    exact (h.blk.upd hu5 (fun e => hgo _ (hos _ e).1 rfl)).upd hu67 (fun e => hgo _ hofn e.symm)
  · rw [hs7]
    refine ⟨hlo (fb n) (.inl hofn) (Nat.lt_of_lt_of_le hbf hu5.size), v5, .slice none 0 0, hB6.set_ 1 (.slice none 0 0), hR5.upd hu67 (fun k hk e => (hown k hk).2 e), Row.nil _, fun k hk => ⟨hlo k (hown k hk).1 (hvl k hk), (hown k hk).2⟩, fun k hk => (by cases hk), fun k hk e => (by cases e)⟩
theorem sync1_none (h : DrumIs w o g mb F room left dead ops) {n : Int} (hn : 1 ≤ n ∧ n ≤ 1000) {bD bN : Nat} (h2 : Boxed w o g mb bD (dptr g)) (h3 : Boxed w o g mb bN (.int .i64 n)) (hF : F n = none) :
    Calls Try.prog 33 #[dptr bD, dptr bN] w fun e w' => e = .returned (.int .i64 7) ∧ Did w w' o g mb F room left dead ops := by
  have H := Lib.hid h
  obtain ⟨fb, hm, hfs⟩ := h.ex
  have hc0 : w.cell? ⟨g, 0, none⟩ = some (.map (some mb)) := h.blk.cell 0
  have hld := (hm.below (below_drew (Below.refl _ w))).look (x := n) (WalkArith.wf_i64 (by omega))
  have hl1 : (ptrs F fb n) = none := by simp [ptrs, hF]
  rw [hl1] at hld
  simp only [Option.getD_none, Option.isSome_none] at hld
  have hx2 := h2.1; have hx3 := h3.1
  clear h hm hfs h2 h3
  go_enter Try.func33, Try.ntmps33
  go_upto_region 1 with fail
  refine wp_region_held (S := (fun W => W.cell? ⟨bD, 0, none⟩ = some (dptr g) ∧ W.cell? ⟨g, 0, none⟩ = some (.map (some mb)) ∧ W.cell? ⟨bN, 0, none⟩ = some (.int .i64 n) ∧ (Instr.lookup 62 (.map (some mb)) (.int .i64 n) true).run Try.prog W = .ok (.tuple #[.pointer none, .bool false]) W)) (by kernel_rfl) ?_
  simp only [List.size_toArray, List.length_cons, List.length_nil, Nat.zero_add, Nat.reduceAdd]
  have hHeld : ((fun W => W.cell? ⟨bD, 0, none⟩ = some (dptr g) ∧ W.cell? ⟨g, 0, none⟩ = some (.map (some mb)) ∧ W.cell? ⟨bN, 0, none⟩ = some (.int .i64 n) ∧ (Instr.lookup 62 (.map (some mb)) (.int .i64 n) true).run Try.prog W = .ok (.tuple #[.pointer none, .bool false]) W)) w.drew := ⟨hx2, hc0, hx3, hld⟩
  refine wpAnyH_take (i := 0) (v := ?_) rfl (by kernel_rfl) (by kernel_rfl) (by kernel_rfl) (fun _ _ _ h => h) (Or.inl ⟨by rfl, ?_⟩) (by assumption) ?_
  rotate_left
  · (intro w hSw; (try dsimp only at hSw); go_split_ands; go_simp; try with_reducible rfl)
  try simp only [List.getElem_toArray, List.getElem_cons_succ, List.getElem_cons_zero, Act.put, List.setIfInBounds_toArray, List.set_cons_zero, List.set_cons_succ]
  refine wpAnyH_take (i := 1) (v := ?_) rfl (by kernel_rfl) (by kernel_rfl) (by kernel_rfl) (fun _ _ _ h => h) (Or.inl ⟨by rfl, ?_⟩) (by assumption) ?_
  rotate_left
  · (intro w hSw; (try dsimp only at hSw); go_split_ands; go_simp; try with_reducible rfl)
  try simp only [List.getElem_toArray, List.getElem_cons_succ, List.getElem_cons_zero, Act.put, List.setIfInBounds_toArray, List.set_cons_zero, List.set_cons_succ]
  refine wpAnyH_take (i := 2) (v := ?_) rfl (by kernel_rfl) (by kernel_rfl) (by kernel_rfl) (fun _ _ _ h => h) (Or.inl ⟨by rfl, ?_⟩) (by assumption) ?_
  rotate_left
  · (intro w hSw; (try dsimp only at hSw); go_split_ands; go_simp; try with_reducible rfl)
  try simp only [List.getElem_toArray, List.getElem_cons_succ, List.getElem_cons_zero, Act.put, List.setIfInBounds_toArray, List.set_cons_zero, List.set_cons_succ]
  refine wpAnyH_take (i := 3) (v := ?_) rfl (by kernel_rfl) (by kernel_rfl) (by kernel_rfl) (fun _ _ _ h => h) (Or.inl ⟨by rfl, ?_⟩) (by assumption) ?_
  rotate_left
  · (intro w hSw; (try dsimp only at hSw); go_split_ands; go_simp; try with_reducible rfl)
  try simp only [List.getElem_toArray, List.getElem_cons_succ, List.getElem_cons_zero, Act.put, List.setIfInBounds_toArray, List.set_cons_zero, List.set_cons_succ]
  refine wpAnyH_take (i := 4) (v := ?_) rfl (by kernel_rfl) (by kernel_rfl) (by kernel_rfl) (fun _ _ _ h => h) (Or.inl ⟨by rfl, ?_⟩) (by assumption) ?_
  rotate_left
  · (intro w hSw; (try dsimp only at hSw); go_split_ands; go_simp; try with_reducible rfl)
  try simp only [List.getElem_toArray, List.getElem_cons_succ, List.getElem_cons_zero, Act.put, List.setIfInBounds_toArray, List.set_cons_zero, List.set_cons_succ]
  refine wpAnyH_take (i := 5) (v := ?_) rfl (by kernel_rfl) (by kernel_rfl) (by kernel_rfl) (fun _ _ _ h => h) (Or.inl ⟨by rfl, ?_⟩) (by assumption) ?_
  rotate_left
  · (intro w hSw; (try dsimp only at hSw); go_split_ands; go_simp; try with_reducible rfl)
  try simp only [List.getElem_toArray, List.getElem_cons_succ, List.getElem_cons_zero, Act.put, List.setIfInBounds_toArray, List.set_cons_zero, List.set_cons_succ]
  refine wpAnyH_take (i := 6) (v := ?_) rfl (by kernel_rfl) (by kernel_rfl) (by kernel_rfl) (fun _ _ _ h => h) (Or.inl ⟨by rfl, ?_⟩) (by assumption) ?_
  rotate_left
  · (intro w hSw; (try dsimp only at hSw); go_split_ands; go_simp; try with_reducible rfl)
  try simp only [List.getElem_toArray, List.getElem_cons_succ, List.getElem_cons_zero, Act.put, List.setIfInBounds_toArray, List.set_cons_zero, List.set_cons_succ]
  refine wpAnyH_take (i := 7) (v := ?_) rfl (by kernel_rfl) (by kernel_rfl) (by kernel_rfl) (fun _ _ _ h => h) (Or.inl ⟨by rfl, ?_⟩) (by assumption) ?_
  rotate_left
  · (intro w hSw; (try dsimp only at hSw); go_split_ands; go_simp; try with_reducible rfl)
  try simp only [List.getElem_toArray, List.getElem_cons_succ, List.getElem_cons_zero, Act.put, List.setIfInBounds_toArray, List.set_cons_zero, List.set_cons_succ]
  refine wpAnyH_take (i := 8) (v := ?_) rfl (by kernel_rfl) (by kernel_rfl) (by kernel_rfl) (fun _ _ _ h => h) (Or.inl ⟨by rfl, ?_⟩) (by assumption) ?_
  rotate_left
  · (intro w hSw; (try dsimp only at hSw); go_split_ands; go_simp; try with_reducible rfl)
  try simp only [List.getElem_toArray, List.getElem_cons_succ, List.getElem_cons_zero, Act.put, List.setIfInBounds_toArray, List.set_cons_zero, List.set_cons_succ]
  refine wpAnyH_take (i := 9) (v := ?_) rfl (by kernel_rfl) (by kernel_rfl) (by kernel_rfl) (fun _ _ _ h => h) (Or.inl ⟨by rfl, ?_⟩) (by assumption) ?_
  rotate_left
  · (intro w hSw; (try dsimp only at hSw); go_split_ands; go_simp; try with_reducible rfl)
  try simp only [List.getElem_toArray, List.getElem_cons_succ, List.getElem_cons_zero, Act.put, List.setIfInBounds_toArray, List.set_cons_zero, List.set_cons_succ]
  refine wpAnyH_take (i := 10) (v := ?_) rfl (by kernel_rfl) (by kernel_rfl) (by kernel_rfl) (fun _ _ _ h => h) (Or.inl ⟨by rfl, ?_⟩) (by assumption) ?_
  rotate_left
  · (intro w hSw; (try dsimp only at hSw); go_split_ands; go_simp; try with_reducible rfl)
  try simp only [List.getElem_toArray, List.getElem_cons_succ, List.getElem_cons_zero, Act.put, List.setIfInBounds_toArray, List.set_cons_zero, List.set_cons_succ]
  refine wpAnyH_done (by kernel_rfl) ?_ _
  go_wp2
  go_ret
  exact ⟨rfl, o, H.out.below (below_drew (Below.refl _ _)), fun _ _ => rfl, (Upd.refl _ _).drew⟩
set_option maxHeartbeats 1000000 in
set_option maxRecDepth 100000 in
theorem sync1_some (h : DrumIs w o g mb F room left dead ops) {n : Int} (hn : 1 ≤ n ∧ n ≤ 1000) {bD bN : Nat} (h2 : Boxed w o g mb bD (dptr g)) (h3 : Boxed w o g mb bN (.int .i64 n)) {s r : List Int} (hF : F n = some (s, r)) :
    Calls Try.prog 33 #[dptr bD, dptr bN] w fun e w' => e = .returned (.int .i64 0) ∧ Did w w' o g mb (upF F n (some (s ++ r, []))) room left dead ops := by
  have H := Lib.hid h
  obtain ⟨fb, hm, hfs⟩ := h.ex
  have HFS := Lib.hid hfs
  have hc0 : w.cell? ⟨g, 0, none⟩ = some (.map (some mb)) := h.blk.cell 0
  have hld := (hm.below (below_drew (Below.refl _ w))).look (x := n) (WalkArith.wf_i64 (by omega))
  have hl1 : (ptrs F fb n) = some (.pointer (some ⟨fb n, 0, none⟩)) := by simp [ptrs, hF]
  rw [hl1] at hld
  simp only [Option.getD_some, Option.isSome_some] at hld
  have hx2 := h2.1; have hx3 := h3.1
  have HM := Lib.hid hm
  have hszr := szF_le F (n := n) (by omega) (by omega)
  rw [hF] at hszr
  simp only [szF] at hszr
  have hfit := h.fit; have hbig := h.big
  have hbl : (s.length + r.length) * 1 ≤ 140737488355328 := by omega
  obtain ⟨hofn, vs, vr, hBf, hRs, hRr, hos, hor, hsr⟩ := hfs n (s, r) hF
  obtain ⟨Ar, cr, rfl, hrd⟩ := hRr.reads
  obtain ⟨As, cs, rfl, _⟩ := hRs.reads
  have HBL := Lib.hid hbl; have HRS := Lib.hid hRs; have HRD := Lib.hid hrd; have HBF := Lib.hid hBf
  have HQ := Lib.hid (And.intro hofn (And.intro hos (And.intro hor (And.intro hsr (And.intro hfit (And.intro hbig hszr))))))
  have hf0 : w.cell? ⟨fb n, 0, none⟩ = some (.slice As s.length cs) := hBf.cell 0
  have hf1 : w.cell? ⟨fb n, 1, none⟩ = some (.slice Ar r.length cr) := hBf.cell 1
  have hneS : some (fb n) ≠ (Value.slice As s.length cs).ownBlock := fun e => (hos _ e.symm).2 rfl
  have HNE := Lib.hid hneS
  clear h hm hfs h2 h3 hbl hRs hRr hrd hBf hofn hos hor hsr hfit hbig hszr hneS
  go_enter Try.func33, Try.ntmps33
  go_upto_region 1 with fail
  refine wp_region_held (S := (fun W => W.cell? ⟨bD, 0, none⟩ = some (dptr g) ∧ W.cell? ⟨g, 0, none⟩ = some (.map (some mb)) ∧ W.cell? ⟨bN, 0, none⟩ = some (.int .i64 n) ∧ (Instr.lookup 62 (.map (some mb)) (.int .i64 n) true).run Try.prog W = .ok (.tuple #[.pointer (some ⟨fb n, 0, none⟩), .bool true]) W)) (by kernel_rfl) ?_
  simp only [List.size_toArray, List.length_cons, List.length_nil, Nat.zero_add, Nat.reduceAdd]
  have hHeld : ((fun W => W.cell? ⟨bD, 0, none⟩ = some (dptr g) ∧ W.cell? ⟨g, 0, none⟩ = some (.map (some mb)) ∧ W.cell? ⟨bN, 0, none⟩ = some (.int .i64 n) ∧ (Instr.lookup 62 (.map (some mb)) (.int .i64 n) true).run Try.prog W = .ok (.tuple #[.pointer (some ⟨fb n, 0, none⟩), .bool true]) W)) w.drew := ⟨hx2, hc0, hx3, hld⟩
  refine wpAnyH_take (i := 0) (v := ?_) rfl (by kernel_rfl) (by kernel_rfl) (by kernel_rfl) (fun _ _ _ h => h) (Or.inl ⟨by rfl, ?_⟩) (by assumption) ?_
  rotate_left
  · (intro w hSw; (try dsimp only at hSw); go_split_ands; go_simp; try with_reducible rfl)
  try simp only [List.getElem_toArray, List.getElem_cons_succ, List.getElem_cons_zero, Act.put, List.setIfInBounds_toArray, List.set_cons_zero, List.set_cons_succ]
  refine wpAnyH_take (i := 1) (v := ?_) rfl (by kernel_rfl) (by kernel_rfl) (by kernel_rfl) (fun _ _ _ h => h) (Or.inl ⟨by rfl, ?_⟩) (by assumption) ?_
  rotate_left
  · (intro w hSw; (try dsimp only at hSw); go_split_ands; go_simp; try with_reducible rfl)
  try simp only [List.getElem_toArray, List.getElem_cons_succ, List.getElem_cons_zero, Act.put, List.setIfInBounds_toArray, List.set_cons_zero, List.set_cons_succ]
  refine wpAnyH_take (i := 2) (v := ?_) rfl (by kernel_rfl) (by kernel_rfl) (by kernel_rfl) (fun _ _ _ h => h) (Or.inl ⟨by rfl, ?_⟩) (by assumption) ?_
  rotate_left
  · (intro w hSw; (try dsimp only at hSw); go_split_ands; go_simp; try with_reducible rfl)
  try simp only [List.getElem_toArray, List.getElem_cons_succ, List.getElem_cons_zero, Act.put, List.setIfInBounds_toArray, List.set_cons_zero, List.set_cons_succ]
  refine wpAnyH_take (i := 3) (v := ?_) rfl (by kernel_rfl) (by kernel_rfl) (by kernel_rfl) (fun _ _ _ h => h) (Or.inl ⟨by rfl, ?_⟩) (by assumption) ?_
  rotate_left
  · (intro w hSw; (try dsimp only at hSw); go_split_ands; go_simp; try with_reducible rfl)
  try simp only [List.getElem_toArray, List.getElem_cons_succ, List.getElem_cons_zero, Act.put, List.setIfInBounds_toArray, List.set_cons_zero, List.set_cons_succ]
  refine wpAnyH_take (i := 4) (v := ?_) rfl (by kernel_rfl) (by kernel_rfl) (by kernel_rfl) (fun _ _ _ h => h) (Or.inl ⟨by rfl, ?_⟩) (by assumption) ?_
  rotate_left
  · (intro w hSw; (try dsimp only at hSw); go_split_ands; go_simp; try with_reducible rfl)
  try simp only [List.getElem_toArray, List.getElem_cons_succ, List.getElem_cons_zero, Act.put, List.setIfInBounds_toArray, List.set_cons_zero, List.set_cons_succ]
  refine wpAnyH_take (i := 5) (v := ?_) rfl (by kernel_rfl) (by kernel_rfl) (by kernel_rfl) (fun _ _ _ h => h) (Or.inl ⟨by rfl, ?_⟩) (by assumption) ?_
  rotate_left
  · (intro w hSw; (try dsimp only at hSw); go_split_ands; go_simp; try with_reducible rfl)
  try simp only [List.getElem_toArray, List.getElem_cons_succ, List.getElem_cons_zero, Act.put, List.setIfInBounds_toArray, List.set_cons_zero, List.set_cons_succ]
  refine wpAnyH_take (i := 6) (v := ?_) rfl (by kernel_rfl) (by kernel_rfl) (by kernel_rfl) (fun _ _ _ h => h) (Or.inl ⟨by rfl, ?_⟩) (by assumption) ?_
  rotate_left
  · (intro w hSw; (try dsimp only at hSw); go_split_ands; go_simp; try with_reducible rfl)
  try simp only [List.getElem_toArray, List.getElem_cons_succ, List.getElem_cons_zero, Act.put, List.setIfInBounds_toArray, List.set_cons_zero, List.set_cons_succ]
  refine wpAnyH_take (i := 7) (v := ?_) rfl (by kernel_rfl) (by kernel_rfl) (by kernel_rfl) (fun _ _ _ h => h) (Or.inl ⟨by rfl, ?_⟩) (by assumption) ?_
  rotate_left
  · (intro w hSw; (try dsimp only at hSw); go_split_ands; go_simp; try with_reducible rfl)
  try simp only [List.getElem_toArray, List.getElem_cons_succ, List.getElem_cons_zero, Act.put, List.setIfInBounds_toArray, List.set_cons_zero, List.set_cons_succ]
  refine wpAnyH_take (i := 8) (v := ?_) rfl (by kernel_rfl) (by kernel_rfl) (by kernel_rfl) (fun _ _ _ h => h) (Or.inl ⟨by rfl, ?_⟩) (by assumption) ?_
  rotate_left
  · (intro w hSw; (try dsimp only at hSw); go_split_ands; go_simp; try with_reducible rfl)
  try simp only [List.getElem_toArray, List.getElem_cons_succ, List.getElem_cons_zero, Act.put, List.setIfInBounds_toArray, List.set_cons_zero, List.set_cons_succ]
  refine wpAnyH_take (i := 9) (v := ?_) rfl (by kernel_rfl) (by kernel_rfl) (by kernel_rfl) (fun _ _ _ h => h) (Or.inl ⟨by rfl, ?_⟩) (by assumption) ?_
  rotate_left
  · (intro w hSw; (try dsimp only at hSw); go_split_ands; go_simp; try with_reducible rfl)
  try simp only [List.getElem_toArray, List.getElem_cons_succ, List.getElem_cons_zero, Act.put, List.setIfInBounds_toArray, List.set_cons_zero, List.set_cons_succ]
  refine wpAnyH_take (i := 10) (v := ?_) rfl (by kernel_rfl) (by kernel_rfl) (by kernel_rfl) (fun _ _ _ h => h) (Or.inl ⟨by rfl, ?_⟩) (by assumption) ?_
  rotate_left
  · (intro w hSw; (try dsimp only at hSw); go_split_ands; go_simp; try with_reducible rfl)
  try simp only [List.getElem_toArray, List.getElem_cons_succ, List.getElem_cons_zero, Act.put, List.setIfInBounds_toArray, List.set_cons_zero, List.set_cons_succ]
  refine wpAnyH_done (by kernel_rfl) ?_ _
  clear hHeld hx2 hx3 hc0 hld
  go_upto_region 4 with fail
  refine wp_region_last1_held (S := (fun _ => True)) (l := [_, _, _, _, _, _, _, _, _, _, _, _, _, _, _, _]) (o := _) (by kernel_rfl) (by kernel_rfl) ?_
  simp only [List.size_toArray, List.length_cons, List.length_nil, Nat.zero_add, Nat.reduceAdd]
  have hHeld : ((fun _ => True)) w.drew.drew := trivial
  refine wpAnyH_take (i := 0) (v := ?_) rfl (by kernel_rfl) (by kernel_rfl) (by kernel_rfl) (fun _ _ _ h => h) (Or.inl ⟨by rfl, ?_⟩) (by assumption) ?_
  rotate_left
  · (intro w hSw; (try dsimp only at hSw); go_split_ands; go_simp; try with_reducible rfl)
  try simp only [List.getElem_toArray, List.getElem_cons_succ, List.getElem_cons_zero, Act.put, List.setIfInBounds_toArray, List.set_cons_zero, List.set_cons_succ]
  refine wpAnyH_take (i := 1) (v := ?_) rfl (by kernel_rfl) (by kernel_rfl) (by kernel_rfl) (fun _ _ _ h => h) (Or.inl ⟨by rfl, ?_⟩) (by assumption) ?_
  rotate_left
  · (intro w hSw; (try dsimp only at hSw); go_split_ands; go_simp; try with_reducible rfl)
  try simp only [List.getElem_toArray, List.getElem_cons_succ, List.getElem_cons_zero, Act.put, List.setIfInBounds_toArray, List.set_cons_zero, List.set_cons_succ]
  refine wpAnyH_take (i := 2) (v := ?_) rfl (by kernel_rfl) (by kernel_rfl) (by kernel_rfl) (fun _ _ _ h => h) (Or.inl ⟨by rfl, ?_⟩) (by assumption) ?_
  rotate_left
  · (intro w hSw; (try dsimp only at hSw); go_split_ands; go_simp; try with_reducible rfl)
  try simp only [List.getElem_toArray, List.getElem_cons_succ, List.getElem_cons_zero, Act.put, List.setIfInBounds_toArray, List.set_cons_zero, List.set_cons_succ]
  refine wpAnyH_take (i := 3) (v := ?_) rfl (by kernel_rfl) (by kernel_rfl) (by kernel_rfl) (fun _ _ _ h => h) (Or.inl ⟨by rfl, ?_⟩) (by assumption) ?_
  rotate_left
  · (intro w hSw; (try dsimp only at hSw); go_split_ands; go_simp; try with_reducible rfl)
  try simp only [List.getElem_toArray, List.getElem_cons_succ, List.getElem_cons_zero, Act.put, List.setIfInBounds_toArray, List.set_cons_zero, List.set_cons_succ]
  refine wpAnyH_take (i := 4) (v := ?_) rfl (by kernel_rfl) (by kernel_rfl) (by kernel_rfl) (fun _ _ _ h => h) (Or.inl ⟨by rfl, ?_⟩) (by assumption) ?_
  rotate_left
  · (intro w hSw; (try dsimp only at hSw); go_split_ands; go_simp; try with_reducible rfl)
  try simp only [List.getElem_toArray, List.getElem_cons_succ, List.getElem_cons_zero, Act.put, List.setIfInBounds_toArray, List.set_cons_zero, List.set_cons_succ]
  refine wpAnyH_take (i := 6) (v := ?_) rfl (by kernel_rfl) (by kernel_rfl) (by kernel_rfl) (fun _ _ _ h => h) (Or.inl ⟨by rfl, ?_⟩) (by assumption) ?_
  rotate_left
  · (intro w hSw; (try dsimp only at hSw); go_split_ands; go_simp; try with_reducible rfl)
  try simp only [List.getElem_toArray, List.getElem_cons_succ, List.getElem_cons_zero, Act.put, List.setIfInBounds_toArray, List.set_cons_zero, List.set_cons_succ]
  refine wpAnyH_take (i := 7) (v := ?_) rfl (by kernel_rfl) (by kernel_rfl) (by kernel_rfl) (fun _ _ _ h => h) (Or.inl ⟨by rfl, ?_⟩) (by assumption) ?_
  rotate_left
  · (intro w hSw; (try dsimp only at hSw); go_split_ands; go_simp; try with_reducible rfl)
  try simp only [List.getElem_toArray, List.getElem_cons_succ, List.getElem_cons_zero, Act.put, List.setIfInBounds_toArray, List.set_cons_zero, List.set_cons_succ]
  refine wpAnyH_take (i := 8) (v := ?_) rfl (by kernel_rfl) (by kernel_rfl) (by kernel_rfl) (fun _ _ _ h => h) (Or.inl ⟨by rfl, ?_⟩) (by assumption) ?_
  rotate_left
  · (intro w hSw; (try dsimp only at hSw); go_split_ands; go_simp; try with_reducible rfl)
  try simp only [List.getElem_toArray, List.getElem_cons_succ, List.getElem_cons_zero, Act.put, List.setIfInBounds_toArray, List.set_cons_zero, List.set_cons_succ]
  refine wpAnyH_ready (rs := [5, 9]) (by kernel_rfl) (by simp) ?_
  refine (AllReadyH.cons rfl (fun K hK => ?_) (AllReadyH.cons rfl (fun K hK => ?_) AllReadyH.nil))
  · go_simp
    refine hK.out _ _ ?_ (fun hHeld => ?_)
    · trivial
    clear hK K
    try simp only [List.getElem_toArray, List.getElem_cons_succ, List.getElem_cons_zero, Act.put, List.setIfInBounds_toArray, List.set_cons_zero, List.set_cons_succ]
    refine wpAnyH_ready (rs := [9]) (by kernel_rfl) (by simp) ?_
    refine (AllReadyH.cons rfl (fun K hK => ?_) AllReadyH.nil)
    go_simp
    refine hK.out _ _ ?_ (fun hHeld => ?_)
    · trivial
    clear hK K
    try simp only [List.getElem_toArray, List.getElem_cons_succ, List.getElem_cons_zero, Act.put, List.setIfInBounds_toArray, List.set_cons_zero, List.set_cons_succ]
    refine wpAnyH_ready (rs := [10]) (by kernel_rfl) (by simp) ?_
    refine (AllReadyH.cons rfl (fun K hK => ?_) AllReadyH.nil)
    refine row_append_step (by rfl) (.tmp 21) (.tmp 25) 22 5 rfl Try.underlying22 infoB (.slice As s.length cs) s r Ar r.length cr (by rfl) (by rfl) HRS.out HRD.out HBL.out ?_
    intro v5 w5 hO5 hg5 hat5
    obtain ⟨A5, c5, rfl, _⟩ := own_reads hO5
    have hB5 := HBF.out.drew.drew.grown hg5 HNE.out
    have hz5 := hB5.frozen 0
    have hc5 : w5.cell? ⟨fb n, 0, none⟩ = some (.slice As s.length cs) := hB5.cell 0
    refine hK.out _ _ ?_ (fun hHeld => ?_)
    · trivial
    clear hK K
    try simp only [List.getElem_toArray, List.getElem_cons_succ, List.getElem_cons_zero, Act.put, List.setIfInBounds_toArray, List.set_cons_zero, List.set_cons_succ]
    refine wpAnyH_take (i := 11) (v := ?_) rfl (by kernel_rfl) (by kernel_rfl) (by kernel_rfl) (fun _ _ _ h => h) (Or.inl ⟨by rfl, ?_⟩) (by assumption) ?_
    rotate_left
    · (intro w hSw; (try dsimp only at hSw); go_split_ands; go_simp; try with_reducible rfl)
    try simp only [List.getElem_toArray, List.getElem_cons_succ, List.getElem_cons_zero, Act.put, List.setIfInBounds_toArray, List.set_cons_zero, List.set_cons_succ]
    refine wpAnyH_take (i := 12) (v := ?_) rfl (by kernel_rfl) (by kernel_rfl) (by kernel_rfl) (fun _ _ _ h => h) (Or.inl ⟨by rfl, ?_⟩) (by assumption) ?_
    rotate_left
    · (intro w hSw; (try dsimp only at hSw); go_split_ands; go_simp; try with_reducible rfl)
    try simp only [List.getElem_toArray, List.getElem_cons_succ, List.getElem_cons_zero, Act.put, List.setIfInBounds_toArray, List.set_cons_zero, List.set_cons_succ]
    refine wpAnyH_ready (rs := [13]) (by kernel_rfl) (by simp) ?_
    refine (AllReadyH.cons rfl (fun K hK => ?_) AllReadyH.nil)
    go_simp
    refine hK.out _ _ ?_ (fun hHeld => ?_)
    · trivial
    clear hK K
    try simp only [List.getElem_toArray, List.getElem_cons_succ, List.getElem_cons_zero, Act.put, List.setIfInBounds_toArray, List.set_cons_zero, List.set_cons_succ]
    refine wpAnyH_take (i := 14) (v := ?_) rfl (by kernel_rfl) (by kernel_rfl) (by kernel_rfl) (fun _ _ _ h => h) (Or.inl ⟨by rfl, ?_⟩) (by assumption) ?_
    rotate_left
    · (intro w hSw; (try dsimp only at hSw); go_split_ands; go_simp; try with_reducible rfl)
    try simp only [List.getElem_toArray, List.getElem_cons_succ, List.getElem_cons_zero, Act.put, List.setIfInBounds_toArray, List.set_cons_zero, List.set_cons_succ]
    refine wpAnyH_take (i := 15) (v := ?_) rfl (by kernel_rfl) (by kernel_rfl) (by kernel_rfl) (fun _ _ _ h => h) (Or.inl ⟨by rfl, ?_⟩) (by assumption) ?_
    rotate_left
    · (intro w hSw; (try dsimp only at hSw); go_split_ands; go_simp; try with_reducible rfl)
    try simp only [List.getElem_toArray, List.getElem_cons_succ, List.getElem_cons_zero, Act.put, List.setIfInBounds_toArray, List.set_cons_zero, List.set_cons_succ]
    refine wpAnyH_done (by kernel_rfl) ?_ _
    refine lastPost_wp ?_
    simp only [List.length_append] at hO5 ⊢
    have hB6 := hB5.set_ 0 (.slice A5 (s.length + r.length) c5)
    have hz6 := hB6.frozen 1
    have hc6 : (w5.setCell ⟨fb n, 0, none⟩ (.slice A5 (s.length + r.length) c5)).cell? ⟨fb n, 1, none⟩ = some (.slice Ar r.length cr) := hB6.cell 1
    have HB6 := Lib.hid hB6; have HO5 := Lib.hid hO5; have HG5 := Lib.hid hg5; have HAT5 := Lib.hid hat5
    clear hB6 hO5 hg5 hat5 hB5 hz5 hc5
    go_wp2
    go_ret
    refine ⟨rfl, ?_⟩
    exact sync_done H.out HFS.out hn hF HM.out HBF.out HRS.out HQ.out HO5.out HG5.out HAT5.out HB6.out
  · go_simp
    refine hK.out _ _ ?_ (fun hHeld => ?_)
    · trivial
    clear hK K
    try simp only [List.getElem_toArray, List.getElem_cons_succ, List.getElem_cons_zero, Act.put, List.setIfInBounds_toArray, List.set_cons_zero, List.set_cons_succ]
    refine wpAnyH_ready (rs := [5]) (by kernel_rfl) (by simp) ?_
    refine (AllReadyH.cons rfl (fun K hK => ?_) AllReadyH.nil)
    go_simp
    refine hK.out _ _ ?_ (fun hHeld => ?_)
    · trivial
    clear hK K
    try simp only [List.getElem_toArray, List.getElem_cons_succ, List.getElem_cons_zero, Act.put, List.setIfInBounds_toArray, List.set_cons_zero, List.set_cons_succ]
    refine wpAnyH_ready (rs := [10]) (by kernel_rfl) (by simp) ?_
    refine (AllReadyH.cons rfl (fun K hK => ?_) AllReadyH.nil)
    refine row_append_step (by rfl) (.tmp 21) (.tmp 25) 22 5 rfl Try.underlying22 infoB (.slice As s.length cs) s r Ar r.length cr (by rfl) (by rfl) HRS.out HRD.out HBL.out ?_
    intro v5 w5 hO5 hg5 hat5
    obtain ⟨A5, c5, rfl, _⟩ := own_reads hO5
    have hB5 := HBF.out.drew.drew.grown hg5 HNE.out
    have hz5 := hB5.frozen 0
    have hc5 : w5.cell? ⟨fb n, 0, none⟩ = some (.slice As s.length cs) := hB5.cell 0
    refine hK.out _ _ ?_ (fun hHeld => ?_)
    · trivial
    clear hK K
    try simp only [List.getElem_toArray, List.getElem_cons_succ, List.getElem_cons_zero, Act.put, List.setIfInBounds_toArray, List.set_cons_zero, List.set_cons_succ]
    refine wpAnyH_take (i := 11) (v := ?_) rfl (by kernel_rfl) (by kernel_rfl) (by kernel_rfl) (fun _ _ _ h => h) (Or.inl ⟨by rfl, ?_⟩) (by assumption) ?_
    rotate_left
    · (intro w hSw; (try dsimp only at hSw); go_split_ands; go_simp; try with_reducible rfl)
    try simp only [List.getElem_toArray, List.getElem_cons_succ, List.getElem_cons_zero, Act.put, List.setIfInBounds_toArray, List.set_cons_zero, List.set_cons_succ]
    refine wpAnyH_take (i := 12) (v := ?_) rfl (by kernel_rfl) (by kernel_rfl) (by kernel_rfl) (fun _ _ _ h => h) (Or.inl ⟨by rfl, ?_⟩) (by assumption) ?_
    rotate_left
    · (intro w hSw; (try dsimp only at hSw); go_split_ands; go_simp; try with_reducible rfl)
    try simp only [List.getElem_toArray, List.getElem_cons_succ, List.getElem_cons_zero, Act.put, List.setIfInBounds_toArray, List.set_cons_zero, List.set_cons_succ]
    refine wpAnyH_ready (rs := [13]) (by kernel_rfl) (by simp) ?_
    refine (AllReadyH.cons rfl (fun K hK => ?_) AllReadyH.nil)
    go_simp
    refine hK.out _ _ ?_ (fun hHeld => ?_)
    · trivial
    clear hK K
    try simp only [List.getElem_toArray, List.getElem_cons_succ, List.getElem_cons_zero, Act.put, List.setIfInBounds_toArray, List.set_cons_zero, List.set_cons_succ]
    refine wpAnyH_take (i := 14) (v := ?_) rfl (by kernel_rfl) (by kernel_rfl) (by kernel_rfl) (fun _ _ _ h => h) (Or.inl ⟨by rfl, ?_⟩) (by assumption) ?_
    rotate_left
    · (intro w hSw; (try dsimp only at hSw); go_split_ands; go_simp; try with_reducible rfl)
    try simp only [List.getElem_toArray, List.getElem_cons_succ, List.getElem_cons_zero, Act.put, List.setIfInBounds_toArray, List.set_cons_zero, List.set_cons_succ]
    refine wpAnyH_take (i := 15) (v := ?_) rfl (by kernel_rfl) (by kernel_rfl) (by kernel_rfl) (fun _ _ _ h => h) (Or.inl ⟨by rfl, ?_⟩) (by assumption) ?_
    rotate_left
    · (intro w hSw; (try dsimp only at hSw); go_split_ands; go_simp; try with_reducible rfl)
    try simp only [List.getElem_toArray, List.getElem_cons_succ, List.getElem_cons_zero, Act.put, List.setIfInBounds_toArray, List.set_cons_zero, List.set_cons_succ]
    refine wpAnyH_done (by kernel_rfl) ?_ _
    refine lastPost_wp ?_
    simp only [List.length_append] at hO5 ⊢
    have hB6 := hB5.set_ 0 (.slice A5 (s.length + r.length) c5)
    have hz6 := hB6.frozen 1
    have hc6 : (w5.setCell ⟨fb n, 0, none⟩ (.slice A5 (s.length + r.length) c5)).cell? ⟨fb n, 1, none⟩ = some (.slice Ar r.length cr) := hB6.cell 1
    have HB6 := Lib.hid hB6; have HO5 := Lib.hid hO5; have HG5 := Lib.hid hg5; have HAT5 := Lib.hid hat5
    clear hB6 hO5 hg5 hat5 hB5 hz5 hc5
    go_wp2
    go_ret
    refine ⟨rfl, ?_⟩
    exact sync_done H.out HFS.out hn hF HM.out HBF.out HRS.out HQ.out HO5.out HG5.out HAT5.out HB6.out
end
end Go.Proofs.Ytnimghkkhiacfaa.P
