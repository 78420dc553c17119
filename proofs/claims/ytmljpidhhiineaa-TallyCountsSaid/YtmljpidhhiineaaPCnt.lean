/- A tally beside the reference's: plain laws, and what both answer. -/
import Derived.Test.YtmljpidhhiineaaPLawB
import Derived.Test.YtmljpidhhiineaaPRefT
import Derived.Test.YtmljpidhhiineaaPOthers
namespace Go.Proofs.Ytmljpidhhiineaa.P
open Go.RowKit Go.Proofs.YtmljpidhhiineaaW.PrintWords Go.Proofs.YtmljpidhhiineaaW.PrintLast
theorem mem_refP (n : Nat) (x : Int) : ∀ (sh P : List Int), x ∈ sh.foldl (fun (P : List Int) (i : Int) => if 0 ≤ i ∧ i < n ∧ i ∉ P then P ++ [i] else P) P ↔ x ∈ P ∨ (x ∈ sh ∧ 0 ≤ x ∧ x < n)
  | [], P => by simp
  | a :: sh, P => by
    rw [List.foldl_cons, mem_refP n x sh]
    by_cases h : 0 ≤ a ∧ a < n ∧ a ∉ P
    · rw [if_pos h]
      simp only [List.mem_append, List.mem_cons, List.not_mem_nil, or_false]
      constructor
      · rintro ((h1 | rfl) | h1)
        · exact .inl h1
        · exact .inr ⟨.inl rfl, h.1, h.2.1⟩
        · exact .inr ⟨.inr h1.1, h1.2⟩
      · rintro (h1 | ⟨rfl | h1, h2⟩)
        · exact .inl (.inl h1)
        · exact .inl (.inr rfl)
        · exact .inr ⟨h1, h2⟩
    · rw [if_neg h]
      simp only [List.mem_cons]
      constructor
      · rintro (h1 | h1)
        · exact .inl h1
        · exact .inr ⟨.inr h1.1, h1.2⟩
      · rintro (h1 | ⟨rfl | h1, h2⟩)
        · exact .inl h1
        · by_cases hp : x ∈ P
          · exact .inl hp
          · exact absurd ⟨h2.1, h2.2, hp⟩ h
        · exact .inr ⟨h1, h2⟩
theorem mem_refP' (n : Nat) (sh : List Int) (x : Int) : x ∈ refP n sh ↔ x ∈ sh ∧ 0 ≤ x ∧ x < n := by
  unfold refP
  rw [mem_refP]
  simp
/-- what is known of a topology, places, and what is made of them. -/
structure CG (l : List S40) (shs : List S40) (al P : List Int) : Prop where
  g2 : Good2 shs al
  pr : ∀ p ∈ P, 0 ≤ p ∧ p < l.length
  pl : P.length ≤ 1000000000
  sl : ∀ s ∈ l, s.f1.length < 1000000000000000
  nd : nodesP l P = al
  nl : al.length < 1000000000
  ri : al.Pairwise (· < ·)
  q : ∀ N, P.all (atP l N 2 1) = shs.all (enoughB enQ N)
  e : ∀ N, P.all (atP l N 1 0) = shs.all (enoughB enE N)
  v : ∀ N, decide ((pickP N false al).length = 0) = shs.all (enoughB enA N)
def atB (N : List Int) (t o : Int) (s : S40) : Bool := !decide (t * (cntP N s.f1 : Int) ≤ o * (s.f1.length : Int))
theorem all_refP {l : List S40} (sh N : List Int) (t o : Int) (en : S40 → Int) (h : ∀ s : S40, atB N t o s = enoughB en N s) : (refP l.length sh).all (atP l N t o) = (pickS l (sortC sh)).all (enoughB en N) := by
  rw [Bool.eq_iff_iff, all_pick, List.all_eq_true]
  constructor
  · intro hh i hi h0 h1
    rw [← h]; exact hh i ((mem_refP' _ _ _).2 ⟨hi, h0, h1⟩)
  · intro hh i hi
    obtain ⟨h2, h0, h1⟩ := (mem_refP' _ _ _).1 hi
    have := hh i h2 h0 h1
    rw [← h] at this; exact this
theorem cg_of {l : List S40} (hg : Good l) (sh : List Int) (hsh : sh.length ≤ 40) : CG l (pickS l (sortC sh)) (nodesP l sh) (refP l.length sh) where
  g2 := good2 hg sh
  pr p hp := ((mem_refP' _ _ _).1 hp).2
  pl := by have := refP_len l.length sh; omega
  sl s hs := by have := hg.flen hs; omega
  nd := rise_ext _ _ (nodesP_rise _ _) (nodesP_rise _ _) fun x => by
    rw [mem_nodesP, mem_nodesP]
    constructor
    · rintro ⟨h, i, hi, h0, h1, hm⟩
      exact ⟨h, i, ((mem_refP' _ _ _).1 hi).1, h0, h1, hm⟩
    · rintro ⟨h, i, hi, h0, h1, hm⟩
      exact ⟨h, i, (mem_refP' _ _ _).2 ⟨hi, h0, h1⟩, h0, h1, hm⟩
  nl := by have := nodesP_le l sh; omega
  ri := nodesP_rise l sh
  q N := all_refP sh N 2 1 enQ fun s => by
    rw [enough_cnt]; unfold atB enQ
    have := cntP_le N s.f1
    rw [← decide_not]; exact decide_eq_decide.2 (by omega)
  e N := all_refP sh N 1 0 enE fun s => by
    rw [enough_cnt]; unfold atB enE
    rw [← decide_not]; exact decide_eq_decide.2 (by omega)
  v N := by
    rw [all_waiting hg]
    have : pickP N false (nodesP l sh) = (nodesP l sh).filter fun x => !decide (x ∈ N) := by
      unfold pickP; congr 1; funext x; simp
    rw [this]
    exact decide_eq_decide.2 (by omega)
theorem pick_wait (N al : List Int) : pickP N false al = al.filter fun x => !decide (x ∈ N) := by unfold pickP; congr 1; funext x; simp
theorem pick_sort {N al : List Int} (hn : N.Nodup) (hs : ∀ x ∈ N, x ∈ al) (hr : al.Pairwise (· < ·)) : pickP N true al = sortP N := by
  refine rise_ext _ _ (hr.filter _) (sortP_rise N hn) fun x => ?_
  rw [mem_sortP]; unfold pickP
  simp only [List.mem_filter, beq_true, decide_eq_true_eq]
  exact ⟨fun h => h.2, fun h => ⟨hs x h, h⟩⟩
/-- both, in one world. -/
def Both (w W : World) (g mb g' B : Nat) (shs : List S40) (al N : List Int) (l : List S40) (P N' : List Int) : Prop :=
  Below w.heap.size w W ∧ w.heap.size ≤ mb ∧ w.heap.size ≤ g ∧ mb < B ∧ g < B ∧ w.heap.size ≤ B ∧ (∃ ok, (¬ ok mb) ∧ (∀ k, ok k → k < B) ∧ Tal W ok g mb shs al N) ∧ RTal W B (fun k => k < w.heap.size) g' l P N'
theorem Upd.of_from {B : Nat} {a b : World} (h : Below B a b) : Upd a b (fun k => B ≤ k) := ⟨h.os, h.tape, h.output, h.size, fun i _ hs => h.block i (by omega)⟩
section
variable {w W W' : World} {g mb g' B : Nat} {shs : List S40} {al N : List Int} {l : List S40} {P N' : List Int}
theorem Both.below (h : Both w W g mb g' B shs al N l P N') (hb : Below W.heap.size W W') : Both w W' g mb g' B shs al N l P N' := by
  obtain ⟨h1, h2, h3, h4, h5, h6, ⟨ok, h7, h8, h9⟩, h10⟩ := h
  exact ⟨h1.trans (hb.mono h1.size), h2, h3, h4, h5, h6, ⟨ok, h7, h8, h9.below hb⟩, h10.below hb⟩
theorem Both.x (h : Both w W g mb g' B shs al N l P N') : TalX W g mb shs al N := by
  obtain ⟨h1, h2, h3, h4, h5, h6, ⟨ok, h7, h8, h9⟩, h10⟩ := h
  exact ⟨ok, h9⟩
theorem Both.r (h : Both w W g mb g' B shs al N l P N') : RTal W B (fun k => k < w.heap.size) g' l P N' := h.2.2.2.2.2.2.2
theorem both_new {A : Option Addr} {c : Nat} {D : Option Addr} {d : Nat} {sh : List Int} (h1 : One w W g mb shs al []) (hr : Kd.C k40 w A l.length l) (hc : l.length ≤ c) (hs : Kd.C (Kd.int .i64) W D sh.length sh) (hs8 : sh.length * 56 ≤ 140737488355272) :
    Calls Try.prog 12 #[.slice A l.length c, .slice D sh.length d] W fun e w' => ∃ g' B, e = .returned (.pointer (some ⟨g', 0, none⟩)) ∧ Both w w' g mb g' B shs al [] l (refP l.length sh) [] := by
  have hF : Kd.F k40 w (fun k => k < w.heap.size) A l.length l := Kd.C_F heap_shard hr
  obtain ⟨hb, h2, h2', ok, h3, h4⟩ := h1
  refine (rtNew_any A c l D d sh W (fun k => k < w.heap.size) (fun k hk => Nat.lt_of_lt_of_le hk hb.size) (Kd.F_below hF hb) hc hs hs8).mono ?_
  rintro e w' ⟨g', rfl, hR, hB⟩
  have hlt := h4.lt
  exact ⟨g', W.heap.size, rfl, hb.trans (hB.mono hb.size), h2, h2', hlt.2.1, hlt.1, hb.size, ⟨_, fun h => h3 h.1, fun k hk => hk.2, h4.bound.below hB⟩, hR⟩
theorem Both.addT (h : Both w W g mb g' B shs al N l P N') {x : Int} (hx : wfI x) (hN : N.length < 1000000000) : Calls Try.prog 26 #[.pointer (some ⟨g, 0, none⟩), .int .i64 x] W fun e w' => e = .returned (.bool (decide (x ∉ N ∧ x ∈ al))) ∧ Both w w' g mb g' B shs al (addP al N x) l P N' ∧ Upd W w' (· = mb) := by
  obtain ⟨h1, h2, h3, h4, h5, h6, ⟨ok, h7, h8, h9⟩, h10⟩ := h
  refine (tyAdd_any h9 h7 hx hN).mono ?_
  rintro e w' ⟨he, hT, hU⟩
  exact ⟨he, ⟨h1.trans (hU.below h1.size (fun k hk e => by omega)), h2, h3, h4, h5, h6, ⟨ok, h7, h8, hT⟩, h10.upd hU (fun k hk => by subst hk; exact ⟨h4, by omega⟩)⟩, hU⟩
theorem Both.addR (h : Both w W g mb g' B shs al N l P N') (hG : CG l shs al P) (hN : N'.length ≤ 1000000000) (x : Int) : Calls Try.prog 27 #[.pointer (some ⟨g', 0, none⟩), .int .i64 x] W fun e w' => e = .returned (.bool (decide (x ∉ N' ∧ x ∈ al))) ∧ Both w w' g mb g' B shs al N l P (addP al N' x) := by
  obtain ⟨h1, h2, h3, h4, h5, h6, ⟨ok, h7, h8, h9⟩, h10⟩ := h
  refine (rtAdd_any h10 (fun k hk => Nat.lt_of_lt_of_le hk h6) hG.pl hG.sl hN x).mono ?_
  rintro e w' ⟨he, hR, hB⟩
  rw [hG.nd] at he hR
  exact ⟨he, h1.trans (hB.mono h6), h2, h3, h4, h5, h6, ⟨ok, h7, h8, h9.upd (Upd.of_from hB) (fun k hk h => by have := h8 k hk; omega) (by omega) (by omega)⟩, hR⟩
theorem Both.rq (h : Both w W g mb g' B shs al N l P N) (hG : CG l shs al P) : Calls Try.prog 14 #[.pointer (some ⟨g', 0, none⟩)] W fun e w' => e = .returned (.bool (shs.all (enoughB enQ N))) ∧ Both w w' g mb g' B shs al N l P N :=
  (rtQuorum_any h.r hG.pr hG.sl).mono fun _ _ ⟨he, hd⟩ => ⟨by rw [he, hG.q], h.below hd.below⟩
theorem Both.re (h : Both w W g mb g' B shs al N l P N) (hG : CG l shs al P) : Calls Try.prog 18 #[.pointer (some ⟨g', 0, none⟩)] W fun e w' => e = .returned (.bool (shs.all (enoughB enE N))) ∧ Both w w' g mb g' B shs al N l P N :=
  (rtEach_any h.r hG.pr hG.sl).mono fun _ _ ⟨he, hd⟩ => ⟨by rw [he, hG.e], h.below hd.below⟩
theorem Both.rv (h : Both w W g mb g' B shs al N l P N) (hG : CG l shs al P) : Calls Try.prog 16 #[.pointer (some ⟨g', 0, none⟩)] W fun e w' => e = .returned (.bool (shs.all (enoughB enA N))) ∧ Both w w' g mb g' B shs al N l P N :=
  (rtAll_any h.r hG.pl hG.sl (by rw [hG.nd]; exact hG.nl)).mono fun _ _ ⟨he, hd⟩ => ⟨by rw [he, hG.nd, hG.v], h.below hd⟩
theorem Both.tq (h : Both w W g mb g' B shs al N l P N) (hG : CG l shs al P) : Calls Try.prog 13 #[.pointer (some ⟨g, 0, none⟩)] W fun e w' => e = .returned (.bool (shs.all (enoughB enQ N))) ∧ Both w w' g mb g' B shs al N l P N :=
  (h.x.quorum hG.g2).mono fun _ _ ⟨he, hd⟩ => ⟨he, h.below hd⟩
theorem Both.te (h : Both w W g mb g' B shs al N l P N) (hG : CG l shs al P) : Calls Try.prog 17 #[.pointer (some ⟨g, 0, none⟩)] W fun e w' => e = .returned (.bool (shs.all (enoughB enE N))) ∧ Both w w' g mb g' B shs al N l P N :=
  (h.x.each hG.g2).mono fun _ _ ⟨he, hd⟩ => ⟨he, h.below hd⟩
theorem Both.tv (h : Both w W g mb g' B shs al N l P N) (hG : CG l shs al P) : Calls Try.prog 15 #[.pointer (some ⟨g, 0, none⟩)] W fun e w' => e = .returned (.bool (shs.all (enoughB enA N))) ∧ Both w w' g mb g' B shs al N l P N :=
  (h.x.every hG.g2).mono fun _ _ ⟨he, hd⟩ => ⟨he, h.below hd⟩
def AnsL (w : World) (g mb g' B : Nat) (shs : List S40) (al N : List Int) (l : List S40) (P X : List Int) (W : World) (e : Ending) (w' : World) : Prop :=
  ∃ A c, e = .returned (.slice A X.length c) ∧ X.length ≤ c ∧ Kd.C (Kd.int .i64) w' A X.length X ∧ Below W.heap.size W w' ∧ Both w w' g mb g' B shs al N l P N
theorem Both.tn (h : Both w W g mb g' B shs al N l P N) (hN : N.length < 1000000000) : Calls Try.prog 20 #[.pointer (some ⟨g, 0, none⟩)] W (AnsL w g mb g' B shs al N l P (sortP N) W) :=
  (h.x.sorted hN).mono fun _ _ ⟨A, c, he, hc, hC, hb⟩ => ⟨A, c, he, hc, hC, hb, h.below hb⟩
theorem Both.tw (h : Both w W g mb g' B shs al N l P N) (hG : CG l shs al P) : Calls Try.prog 22 #[.pointer (some ⟨g, 0, none⟩)] W (AnsL w g mb g' B shs al N l P (pickP N false al) W) :=
  (h.x.waiting hG.g2).mono fun _ _ ⟨A, c, he, hc, hC, hb⟩ => by rw [← pick_wait] at he hc hC; exact ⟨A, c, he, hc, hC, hb, h.below hb⟩
theorem Both.rn (h : Both w W g mb g' B shs al N l P N) (hG : CG l shs al P) (hn : N.Nodup) (hs : ∀ x ∈ N, x ∈ al) : Calls Try.prog 21 #[.pointer (some ⟨g', 0, none⟩)] W (AnsL w g mb g' B shs al N l P (sortP N) W) :=
  (rtNodes_any h.r hG.pl hG.sl (by rw [hG.nd]; exact hG.nl)).mono fun _ _ ⟨A, c, he, hc, hC, hb⟩ => by rw [hG.nd, pick_sort hn hs hG.ri] at he hc hC; exact ⟨A, c, he, hc, hC, hb, h.below hb⟩
theorem Both.rw_ (h : Both w W g mb g' B shs al N l P N) (hG : CG l shs al P) : Calls Try.prog 23 #[.pointer (some ⟨g', 0, none⟩)] W (AnsL w g mb g' B shs al N l P (pickP N false al) W) :=
  (rtWaiting_any h.r hG.pl hG.sl (by rw [hG.nd]; exact hG.nl)).mono fun _ _ ⟨A, c, he, hc, hC, hb⟩ => by rw [hG.nd] at he hc hC; exact ⟨A, c, he, hc, hC, hb, h.below hb⟩
end
end Go.Proofs.Ytmljpidhhiineaa.P
