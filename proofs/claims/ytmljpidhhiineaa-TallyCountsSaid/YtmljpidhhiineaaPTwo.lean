/- Tallies side by side: one, two. -/
import Derived.Test.YtmljpidhhiineaaPLive
namespace Go.Proofs.Ytmljpidhhiineaa.P
open Go.RowKit Go.Proofs.YtmljpidhhiineaaW.PrintWords Go.Proofs.YtmljpidhhiineaaW.PrintLast
def addP (all N : List Int) (x : Int) : List Int := if x ∉ N ∧ x ∈ all then N ++ [x] else N
def addsP (all N a : List Int) : List Int := a.foldl (addP all) N
theorem addsP_snoc (all N a : List Int) (x : Int) : addsP all N (a ++ [x]) = addP all (addsP all N a) x := by unfold addsP; rw [List.foldl_append]; rfl
theorem addP_len (all N : List Int) (x : Int) : (addP all N x).length ≤ N.length + 1 := by unfold addP; split <;> simp
theorem addsP_len (all : List Int) : ∀ (a N : List Int), (addsP all N a).length ≤ N.length + a.length
  | [], N => by simp [addsP]
  | x :: a, N => by
    have h1 := addsP_len all a (addP all N x)
    have h2 := addP_len all N x
    show (addsP all (addP all N x) a).length ≤ _
    simp only [List.length_cons]
    omega
theorem mem_addP (all N : List Int) (x y : Int) : y ∈ addP all N x ↔ y ∈ N ∨ (y = x ∧ x ∈ all) := by
  unfold addP
  by_cases h : x ∉ N ∧ x ∈ all
  · rw [if_pos h]; simp [h.2]
  · rw [if_neg h]
    constructor
    · exact .inl
    · rintro (h1 | ⟨rfl, h2⟩)
      · exact h1
      · exact Decidable.byContradiction fun h3 => h ⟨h3, h2⟩
theorem mem_addsP (all : List Int) (y : Int) : ∀ (a N : List Int), y ∈ addsP all N a ↔ y ∈ N ∨ (y ∈ a ∧ y ∈ all)
  | [], N => by simp [addsP]
  | x :: a, N => by
    show y ∈ addsP all (addP all N x) a ↔ _
    rw [mem_addsP all y a, mem_addP]
    constructor
    · rintro ((h | ⟨rfl, h⟩) | ⟨h, h2⟩)
      · exact .inl h
      · exact .inr ⟨List.mem_cons_self .., h⟩
      · exact .inr ⟨List.mem_cons_of_mem _ h, h2⟩
    · rintro (h | ⟨h, h2⟩)
      · exact .inl (.inl h)
      · rcases List.mem_cons.1 h with rfl | h
        · exact .inl (.inr ⟨rfl, h2⟩)
        · exact .inr ⟨h, h2⟩
theorem Tal.bound {w : World} {ok : Nat → Prop} {g mb : Nat} {shs : List S40} {all N : List Int} (h : Tal w ok g mb shs all N) : Tal w (fun k => ok k ∧ k < w.heap.size) g mb shs all N := by
  obtain ⟨A1, c1, A2, c2, hb, h1, h2, hS, hk1, hk2⟩ := h
  exact ⟨A1, c1, A2, c2, hb, Kd.F_bound h1, Kd.F_bound h2, hS, hk1, hk2⟩
theorem heap_shard : Kd.Heap k40 := Kd.heap_iso _ (Kd.heap_pair (Kd.heap_iso _ (Kd.heap_pair Kd.heap_string Kd.heap_string)) (Kd.heap_slice 3 (Kd.heap_int _)))
/-- what holds of the arguments' tallies. -/
structure Good2 (shs : List S40) (all : List Int) : Prop where
  wf : ∀ s ∈ shs, ∀ x ∈ s.f1, wfI x
  len : ∀ s ∈ shs, s.f1.length * 8 ≤ 140737488355328
  wfa : ∀ x ∈ all, wfI x
  lena : all.length * 8 ≤ 140737488355328
def One (w W : World) (g mb : Nat) (shs : List S40) (all N : List Int) : Prop := Below w.heap.size w W ∧ w.heap.size ≤ mb ∧ w.heap.size ≤ g ∧ ∃ ok, (¬ ok mb) ∧ Tal W ok g mb shs all N
def Two (w W : World) (g mb g' mb' : Nat) (shs : List S40) (all N : List Int) (shs' : List S40) (all' N' : List Int) : Prop :=
  Below w.heap.size w W ∧ w.heap.size ≤ mb ∧ w.heap.size ≤ mb' ∧ w.heap.size ≤ g ∧ ∃ ok ok', (¬ ok mb) ∧ (¬ ok' mb') ∧ (¬ ok mb') ∧ (¬ ok' mb) ∧ g ≠ mb' ∧ g' ≠ mb ∧ mb ≠ mb' ∧ Tal W ok g mb shs all N ∧ Tal W ok' g' mb' shs' all' N'
section
variable {w W W' : World} {g mb g' mb' : Nat} {shs shs' : List S40} {all N all' N' : List Int}
theorem One.below (h : One w W g mb shs all N) (hb : Below W.heap.size W W') : One w W' g mb shs all N := by
  obtain ⟨h1, h2, h2', ok, h3, h4⟩ := h
  exact ⟨h1.trans (hb.mono h1.size), h2, h2', ok, h3, h4.below hb⟩
theorem One.lt (h : One w W g mb shs all N) : mb < W.heap.size := by
  obtain ⟨_, _, _, _, _, h⟩ := h
  exact h.lt.2.1
theorem Two.below (h : Two w W g mb g' mb' shs all N shs' all' N') (hb : Below W.heap.size W W') : Two w W' g mb g' mb' shs all N shs' all' N' := by
  obtain ⟨h1, h2, h3, h3', ok, ok', a, b, c, d, e, f, i, t, t'⟩ := h
  exact ⟨h1.trans (hb.mono h1.size), h2, h3, h3', ok, ok', a, b, c, d, e, f, i, t.below hb, t'.below hb⟩
theorem Two.left (h : Two w W g mb g' mb' shs all N shs' all' N') : One w W g mb shs all N := by
  obtain ⟨h1, h2, h3, h3', ok, ok', a, b, c, d, e, f, i, t, t'⟩ := h
  exact ⟨h1, h2, h3', ok, a, t⟩
theorem Two.swapR (h : Two w W g mb g' mb' shs all N shs' all' N') : ∃ ok', (¬ ok' mb') ∧ Tal W ok' g' mb' shs' all' N' := by
  obtain ⟨h1, h2, h3, h3', ok, ok', a, b, c, d, e, f, i, t, t'⟩ := h
  exact ⟨ok', b, t'⟩
/-- a tally that is new, made of arguments. -/
theorem one_new {A : Option Addr} {c : Nat} {l : List S40} {B : Option Addr} {d : Nat} {sh : List Int} {v : World} (hr : Kd.C k40 w A l.length l) (hb : Below w.heap.size w v) (hs : Kd.C (Kd.int .i64) v B sh.length sh) (hs8 : sh.length * 56 ≤ 140737488355272) :
    Calls Try.prog 11 #[.slice A l.length c, .slice B sh.length d] v fun e w' => ∃ g mb, e = .returned (.pointer (some ⟨g, 0, none⟩)) ∧ One w w' g mb (pickS l (sortC sh)) (nodesP l sh) [] := by
  have hF : Kd.F k40 w (fun k => k < w.heap.size) A l.length l := Kd.C_F heap_shard hr
  refine (tyNew_any A c l B d sh v (fun k => k < w.heap.size) (fun k hk => Nat.lt_of_lt_of_le hk hb.size) (Kd.F_below hF hb) hs hs8).mono ?_
  rintro e w' ⟨g, mb, rfl, hg, hmb, hB, hT⟩
  exact ⟨g, mb, rfl, hb.trans (hB.mono hb.size), Nat.le_trans hb.size hmb, Nat.le_trans hb.size hg, _, fun h => h.1.2 rfl, hT⟩
/-- a second one behind it. -/
theorem two_new {A : Option Addr} {c : Nat} {l : List S40} {B : Option Addr} {d : Nat} {sh : List Int} (h1 : One w W g mb shs all N) (hr : Kd.C k40 w A l.length l) (hs : Kd.C (Kd.int .i64) W B sh.length sh) (hs8 : sh.length * 56 ≤ 140737488355272) :
    Calls Try.prog 11 #[.slice A l.length c, .slice B sh.length d] W fun e w' => ∃ g' mb', e = .returned (.pointer (some ⟨g', 0, none⟩)) ∧ Two w w' g mb g' mb' shs all N (pickS l (sortC sh)) (nodesP l sh) [] := by
  have hF : Kd.F k40 w (fun k => k < w.heap.size) A l.length l := Kd.C_F heap_shard hr
  obtain ⟨hb, h2, h2', ok, h3, h4⟩ := h1
  refine (tyNew_any A c l B d sh W (fun k => k < w.heap.size) (fun k hk => Nat.lt_of_lt_of_le hk hb.size) (Kd.F_below hF hb) hs hs8).mono ?_
  rintro e w' ⟨g', mb', rfl, hg, hmb, hB, hT⟩
  have hlt := h4.lt
  exact ⟨g', mb', rfl, hb.trans (hB.mono hb.size), h2, Nat.le_trans hb.size hmb, h2', _, _, fun h => h3 h.1, fun h => h.1.2 rfl, fun h => by have := h.2; omega, fun h => by have := h.1.1; omega, by omega, by omega, by omega, h4.bound.below hB, hT⟩
theorem One.add (h : One w W g mb shs all N) {x : Int} (hx : wfI x) (hN : N.length < 1000000000) : Calls Try.prog 26 #[.pointer (some ⟨g, 0, none⟩), .int .i64 x] W fun e w' => e = .returned (.bool (decide (x ∉ N ∧ x ∈ all))) ∧ One w w' g mb shs all (addP all N x) := by
  obtain ⟨h1, h2, h2', ok, h3, h4⟩ := h
  refine (tyAdd_any h4 h3 hx hN).mono ?_
  rintro e w' ⟨he, hT, hU⟩
  exact ⟨he, h1.trans (hU.below h1.size (fun k hk e => by omega)), h2, h2', ok, h3, hT⟩
theorem Two.add1 (h : Two w W g mb g' mb' shs all N shs' all' N') {x : Int} (hx : wfI x) (hN : N.length < 1000000000) : Calls Try.prog 26 #[.pointer (some ⟨g, 0, none⟩), .int .i64 x] W fun e w' => e = .returned (.bool (decide (x ∉ N ∧ x ∈ all))) ∧ Two w w' g mb g' mb' shs all (addP all N x) shs' all' N' := by
  obtain ⟨h1, h2, h3, h3', ok, ok', a, b, c, d, e1, f, i, t, t'⟩ := h
  refine (tyAdd_any t a hx hN).mono ?_
  rintro e w' ⟨he, hT, hU⟩
  exact ⟨he, h1.trans (hU.below h1.size (fun k hk e => by omega)), h2, h3, h3', ok, ok', a, b, c, d, e1, f, i, hT, t'.upd hU (fun k hk e => d (e ▸ hk)) f (Ne.symm i)⟩
theorem Two.add2 (h : Two w W g mb g' mb' shs all N shs' all' N') {x : Int} (hx : wfI x) (hN : N'.length < 1000000000) : Calls Try.prog 26 #[.pointer (some ⟨g', 0, none⟩), .int .i64 x] W fun e w' => e = .returned (.bool (decide (x ∉ N' ∧ x ∈ all'))) ∧ Two w w' g mb g' mb' shs all N shs' all' (addP all' N' x) := by
  obtain ⟨h1, h2, h3, h3', ok, ok', a, b, c, d, e1, f, i, t, t'⟩ := h
  refine (tyAdd_any t' b hx hN).mono ?_
  rintro e w' ⟨he, hT, hU⟩
  exact ⟨he, h1.trans (hU.below h1.size (fun k hk e => by omega)), h2, h3, h3', ok, ok', a, b, c, d, e1, f, i, t.upd hU (fun k hk e => c (e ▸ hk)) e1 i, hT⟩
end
/-- what the others answer: a tally in its world. -/
def TalX (W : World) (g mb : Nat) (shs : List S40) (all N : List Int) : Prop := ∃ ok, Tal W ok g mb shs all N
section
variable {w W : World} {g mb g' mb' : Nat} {shs shs' : List S40} {all N all' N' : List Int}
theorem One.x (h : One w W g mb shs all N) : TalX W g mb shs all N := by
  obtain ⟨_, _, _, ok, _, t⟩ := h
  exact ⟨ok, t⟩
theorem Two.x (h : Two w W g mb g' mb' shs all N shs' all' N') : TalX W g mb shs all N := h.left.x
theorem Two.y (h : Two w W g mb g' mb' shs all N shs' all' N') : TalX W g' mb' shs' all' N' := by
  obtain ⟨ok, _, t⟩ := h.swapR
  exact ⟨ok, t⟩
theorem TalX.has (h : TalX W g mb shs all N) {x : Int} (hx : wfI x) : Calls Try.prog 24 #[.pointer (some ⟨g, 0, none⟩), .int .i64 x] W fun e w' => e = .returned (.bool (decide (x ∈ N))) ∧ w' = W := by
  obtain ⟨ok, t⟩ := h
  exact tyHas_any t hx
theorem TalX.quorum (h : TalX W g mb shs all N) (hg : Good2 shs all) : Calls Try.prog 13 #[.pointer (some ⟨g, 0, none⟩)] W fun e w' => e = .returned (.bool (shs.all (enoughB enQ N))) ∧ Below W.heap.size W w' := by
  obtain ⟨ok, t⟩ := h
  exact tyQuorum_any t hg.wf hg.len
theorem TalX.every (h : TalX W g mb shs all N) (hg : Good2 shs all) : Calls Try.prog 15 #[.pointer (some ⟨g, 0, none⟩)] W fun e w' => e = .returned (.bool (shs.all (enoughB enA N))) ∧ Below W.heap.size W w' := by
  obtain ⟨ok, t⟩ := h
  exact tyAll_any t hg.wf hg.len
theorem TalX.each (h : TalX W g mb shs all N) (hg : Good2 shs all) : Calls Try.prog 17 #[.pointer (some ⟨g, 0, none⟩)] W fun e w' => e = .returned (.bool (shs.all (enoughB enE N))) ∧ Below W.heap.size W w' := by
  obtain ⟨ok, t⟩ := h
  exact tyEach_any t hg.wf hg.len
theorem TalX.nodes (h : TalX W g mb shs all N) (hN : N.length < 1000000000) : Calls Try.prog 20 #[.pointer (some ⟨g, 0, none⟩)] W fun e w' => ∃ A c, e = .returned (.slice A (N.mergeSort fun x y => decide (x ≤ y)).length c) ∧ (N.mergeSort fun x y => decide (x ≤ y)).length ≤ c ∧ Kd.C (Kd.int .i64) w' A (N.mergeSort fun x y => decide (x ≤ y)).length (N.mergeSort fun x y => decide (x ≤ y)) ∧ Below W.heap.size W w' := by
  obtain ⟨ok, t⟩ := h
  refine (tyNodes_any t hN).mono ?_
  rintro e w' ⟨v, rfl, ho, hb⟩
  rw [show N.length = (N.mergeSort fun x y => decide (x ≤ y)).length by simp] at ho
  obtain ⟨A, c, rfl, hc, hC⟩ := own_C ho
  exact ⟨A, c, rfl, hc, hC, hb⟩
theorem TalX.waiting (h : TalX W g mb shs all N) (hg : Good2 shs all) : Calls Try.prog 22 #[.pointer (some ⟨g, 0, none⟩)] W fun e w' => ∃ A c, e = .returned (.slice A (all.filter fun x => !decide (x ∈ N)).length c) ∧ (all.filter fun x => !decide (x ∈ N)).length ≤ c ∧ Kd.C (Kd.int .i64) w' A (all.filter fun x => !decide (x ∈ N)).length (all.filter fun x => !decide (x ∈ N)) ∧ Below W.heap.size W w' := by
  obtain ⟨ok, t⟩ := h
  refine (tyWaiting_any t hg.wfa hg.lena).mono ?_
  rintro e w' ⟨v, rfl, ho, hb⟩
  obtain ⟨A, c, rfl, hc, hC⟩ := own_C ho
  exact ⟨A, c, rfl, hc, hC, hb⟩
end
end Go.Proofs.Ytmljpidhhiineaa.P
