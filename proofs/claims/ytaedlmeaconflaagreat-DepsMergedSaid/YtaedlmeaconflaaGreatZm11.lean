/- what the claim's row stands on, part 11. -/
import Derived.Test.YtaedlmeaconflaaGreatZm10
import Derived.Test.YtaedlmeaconflaaGreatZm9
section
set_option linter.unusedVariables false
set_option linter.unusedSimpArgs false
namespace Go.Proofs.YtaedlmeaconflaaGreat.P
open Go.RowKit Go.Sort Go.Shelf Go.Proofs.YtaedlmeaconflaaGreatW.PrintWords Go.Proofs.YtaedlmeaconflaaGreatW.PrintLast Go.Proofs.YtaedlmeaconflaaGreatW.PrintMore
def RdD (w : World) (A : Option Addr) (c : Nat) (d : List S26) : Prop := d.length ≤ c ∧ Kd.C k26 w A d.length d
theorem RdD.below {w w' : World} {A : Option Addr} {c : Nat} {d : List S26} (h : RdD w A c d) (hb : Below w.heap.size w w') : RdD w' A c d := ⟨h.1, Kd.C_below h.2 hb⟩
theorem smallC (A : Option Addr) (c : Nat) (d : List S26) (w : World) (h : RdD w A c d) (q : Bool) (hq : decide (d.length ≤ 20 ∧ wsum d ≤ 100) = q) : Calls Tryz.prog 17 #[.slice A d.length c] w fun e w' => e = .returned (.bool q) ∧ Below w.heap.size w w' := by
 obtain ⟨k, hk⟩ := (ev_small d).get
 rw [hq] at hk
 exact (folkmootlaw06_small.calls k A c d q w h.2 h.1 hk).mono fun e w' ⟨he, hd⟩ => ⟨he, hd.below⟩
theorem chk6C (A : Option Addr) (c : Nat) (d : List S26) (w : World) (h : RdD w A c d) (hd : d.length ≤ 9223372036854775807) (hk : ∀ x ∈ d, x.f1.length ≤ 9223372036854775807) (n : Int) (hn : chkD d = n) : Calls Tryz.prog 13 #[.slice A d.length c] w fun e w' => e = .returned (.int .i64 n) ∧ Below w.heap.size w w' := by
 obtain ⟨k, hk⟩ := (ev_check6 d hk hd).get
 rw [hn] at hk
 exact folkmootref06_Check.calls k A c d n w h.2 h.1 hk
theorem mergeL (w : World) (cs : Array Value) (ls : List (List S26)) (x : List S26) (hC : ∀ (j : Nat) (l : List S26), ls[j]? = some l → ∃ A c, cs[j]? = some (.slice A l.length c) ∧ RdD w A c l) (hlow : Lows ls.flatten) (hn : ls.flatten.length ≤ 1000000) (hi : (allD ls.flatten).length ≤ 1000000) (hx : mergeD ls.flatten = x) (h3 : ls.length ≤ 100) :
  Calls Tryz.prog 25 #[.slice (some ⟨w.heap.size, 0, none⟩) ls.length ls.length] (w.alloc (.cells cs 22)) fun e w' => ∃ A c, e = .returned (.slice A x.length c) ∧ RdD w' A c x ∧ Below w.heap.size w w' := by
 have hB := Blk.new w 22 cs
 have hb1 : Below w.heap.size w (w.alloc (.cells cs 22)) := (Below.refl _ _).alloc (Nat.le_refl _) _
 generalize w.alloc (.cells cs 22) = w1 at *
 have hCl : Kd.C kDs w1 (some ⟨w.heap.size, 0, none⟩) ls.length ls := by
  refine ⟨rfl, by omega, fun _ => ⟨_, rfl, fun j l hj => ?_⟩⟩
  obtain ⟨A, c, hcs, hr⟩ := hC j l hj
  refine ⟨[.slice A l.length c], rfl, ⟨A, c, rfl, hr.1, Kd.C_below hr.2 hb1⟩, fun i u hu => ?_⟩
  rcases i with _ | i
  ·have := hB.cell j
   rw [show (⟨w.heap.size, 0, none⟩ : Addr).add (j * (kDs).sz + 0) = ⟨w.heap.size, j, none⟩ by rw [show j * (Kd.slice 26 k26).sz + 0 = j from by show j * 1 + 0 = j; omega, add_plain], this, hcs]
   simpa using hu
  ·simp at hu
 have h := merge_any (some ⟨w.heap.size, 0, none⟩) ls.length ls w1 hCl hlow (by omega) (by unfold allD at hi; omega)
 rw [hx] at h
 refine h.mono fun e w' ⟨v, he, hS, hb⟩ => ?_
 obtain ⟨A, c, rfl⟩ := Kd.S_slice hS
 obtain ⟨_, hc, hC2⟩ := Kd.S_reads' hS
 exact ⟨A, c, he, ⟨hc, hC2⟩, hb1.trans (hb.mono hb1.size)⟩
theorem merge2 (w : World) (A0 : Option Addr) (c0 : Nat) (a : List S26) (A1 : Option Addr) (c1 : Nat) (b x : List S26) (h0 : RdD w A0 c0 a) (h1 : RdD w A1 c1 b) {n m : Nat} (g0 : Good a n) (g1 : Good b m) (hnm : n ≤ 10000 ∧ m ≤ 10000) (hx : mergeD [a, b].flatten = x) :
  Calls Tryz.prog 25 #[.slice (some ⟨w.heap.size, 0, none⟩) 2 2] (w.alloc (.cells #[.slice A0 a.length c0, .slice A1 b.length c1] 22)) fun e w' => ∃ A c, e = .returned (.slice A x.length c) ∧ RdD w' A c x ∧ Below w.heap.size w w' := by
 refine mergeL w _ [a, b] x (fun j l hj => ?_) ?_ ?_ ?_ hx (by simp)
 ·rcases j with _ | _ | j
  ·obtain rfl : a = l := by simpa using hj
   exact ⟨A0, c0, rfl, h0⟩
  ·obtain rfl : b = l := by simpa using hj
   exact ⟨A1, c1, rfl, h1⟩
  ·simp at hj
 ·simp only [List.flatten_cons, List.flatten_nil, List.append_nil]
  exact lows_app g0.lows g1.lows
 ·have := g0.len; have := g1.len
  simp; omega
 ·have := g0.all; have := g1.all
  unfold allD at *
  simp only [List.flatten_cons, List.flatten_nil, List.append_nil, List.flatMap_append, List.length_append]
  omega
theorem merge3 (w : World) (A0 : Option Addr) (c0 : Nat) (a : List S26) (A1 : Option Addr) (c1 : Nat) (b : List S26) (A2 : Option Addr) (c2 : Nat) (d x : List S26) (h0 : RdD w A0 c0 a) (h1 : RdD w A1 c1 b) (h2 : RdD w A2 c2 d) {n m o : Nat} (g0 : Good a n) (g1 : Good b m) (g2 : Good d o) (hnm : n ≤ 10000 ∧ m ≤ 10000 ∧ o ≤ 10000) (hx : mergeD [a, b, d].flatten = x) :
  Calls Tryz.prog 25 #[.slice (some ⟨w.heap.size, 0, none⟩) 3 3] (w.alloc (.cells #[.slice A0 a.length c0, .slice A1 b.length c1, .slice A2 d.length c2] 22)) fun e w' => ∃ A c, e = .returned (.slice A x.length c) ∧ RdD w' A c x ∧ Below w.heap.size w w' := by
 refine mergeL w _ [a, b, d] x (fun j l hj => ?_) ?_ ?_ ?_ hx (by simp)
 ·rcases j with _ | _ | _ | j
  ·obtain rfl : a = l := by simpa using hj
   exact ⟨A0, c0, rfl, h0⟩
  ·obtain rfl : b = l := by simpa using hj
   exact ⟨A1, c1, rfl, h1⟩
  ·obtain rfl : d = l := by simpa using hj
   exact ⟨A2, c2, rfl, h2⟩
  ·simp at hj
 ·simp only [List.flatten_cons, List.flatten_nil, List.append_nil]
  exact lows_app g0.lows (lows_app g1.lows g2.lows)
 ·have := g0.len; have := g1.len; have := g2.len
  simp; omega
 ·have := g0.all; have := g1.all; have := g2.all
  unfold allD at *
  simp only [List.flatten_cons, List.flatten_nil, List.append_nil, List.flatMap_append, List.length_append]
  omega
theorem belowG (A : Option Addr) (c : Nat) (d : List S26) (a b : Int) (w : World) (h : RdD w A c d) {n : Nat} (g : Good d n) (hn : n ≤ 10000) (y : List S26) (hy : mapD (·.filter (lessS ⟨a, b⟩)) d = y) :
  Calls Tryz.prog 18 #[.slice A d.length c, .agg #[.int .i64 a, .int .i64 b]] w fun e w' => ∃ A c, e = .returned (.slice A y.length c) ∧ RdD w' A c y ∧ Below w.heap.size w w' := by
 have hf := below_f g (by omega) a b
 rw [hy] at hf
 refine (deps_Below.calls A c d a b y w h.2 h.1 hf).mono fun e w' ⟨v, he, hS, hb⟩ => ?_
 obtain ⟨A, c, rfl⟩ := Kd.S_slice hS
 obtain ⟨_, hc, hC2⟩ := Kd.S_reads' hS
 exact ⟨A, c, he, ⟨hc, hC2⟩, hb⟩
theorem withoutG (A : Option Addr) (c : Nat) (d : List S26) (A2 : Option Addr) (c2 : Nat) (ids : List S41) (w : World) (h : RdD w A c d) (hi : Kd.C k41 w A2 ids.length ids) (hic : ids.length ≤ c2) {n : Nat} (g : Good d n) (hn : n ≤ 10000) (y : List S26) (hy : mapD (fun l => l.filter fun x => !decide (x ∈ ids)) d = y) :
  Calls Tryz.prog 26 #[.slice A d.length c, .slice A2 ids.length c2] w fun e w' => ∃ A c, e = .returned (.slice A y.length c) ∧ RdD w' A c y ∧ Below w.heap.size w w' := by
 have hf := without_f g (by omega) ids
 rw [hy] at hf
 refine (deps_Without.calls A c d A2 c2 ids y w h.2 h.1 hi hic hf).mono fun e w' ⟨v, he, hS, hb⟩ => ?_
 obtain ⟨A, c, rfl⟩ := Kd.S_slice hS
 obtain ⟨_, hc, hC2⟩ := Kd.S_reads' hS
 exact ⟨A, c, he, ⟨hc, hC2⟩, hb⟩
theorem allG (A : Option Addr) (c : Nat) (d : List S26) (w : World) (h : RdD w A c d) {n : Nat} (g : Good d n) (hn : n ≤ 10000) (l : List S41) (hl : setS (allD d) = l) :
  Calls Tryz.prog 20 #[.slice A d.length c] w fun e w' => ∃ A' c', e = .returned (.slice A' l.length c') ∧ l.length ≤ c' ∧ Kd.C k41 w' A' l.length l ∧ Below w.heap.size w w' := by
 obtain ⟨k, hk⟩ := (g.ev_all (by omega)).get
 rw [hl] at hk
 refine (deps_All.calls k A c d l w h.2 h.1 hk).mono fun e w' ⟨v, he, hR, hb⟩ => ?_
 obtain ⟨A', c', rfl, hc', hC⟩ := Kd.R_reads hR
 exact ⟨A', c', he, hc', hC, hb⟩
theorem hasG (A : Option Addr) (c : Nat) (l : List S41) (s : S41) (w : World) (h : Kd.C k41 w A l.length l) (hc : l.length ≤ c) (q : Bool) (hq : decide (s ∈ l) = q) :
  Calls Tryz.prog 27 #[.slice A l.length c, .agg #[.int .i64 s.f0, .int .i64 s.f1]] w fun e w' => e = .returned (.bool q) ∧ Below w.heap.size w w' := by
 obtain ⟨k, hk⟩ := (ev_has l s.f0 s.f1 (Kd.C_max h)).get
 have e : decide ((⟨s.f0, s.f1⟩ : S41) ∈ l) = q := hq
 rw [e] at hk
 exact folkmootref01_Has.calls k A c l s.f0 s.f1 q w h hc hk
theorem sameG (A : Option Addr) (c : Nat) (A' : Option Addr) (c' : Nat) (x : List S26) (w : World) (h : RdD w A c x) (h' : RdD w A' c' x) {n : Nat} (g : Good x n) (hn : n ≤ 10000) :
  Calls Tryz.prog 23 #[.slice A x.length c, .slice A' x.length c'] w fun e w' => e = .returned (.bool true) ∧ Below w.heap.size w w' :=
 deps_Same.calls A c x A' c' x true w h.2 h.1 h'.2 h'.1 (by rw [dsame_f g (by omega)]; simp)
theorem same6G (A : Option Addr) (c : Nat) (A' : Option Addr) (c' : Nat) (x : List S26) (w : World) (h : RdD w A c x) (h' : RdD w A' c' x) {n : Nat} (g : Good x n) (hn : n ≤ 10000) :
  Calls Tryz.prog 14 #[.slice A x.length c, .slice A' x.length c'] w fun e w' => e = .returned (.bool true) ∧ Below w.heap.size w w' := by
 obtain ⟨k, hk⟩ := (ev_sameD x x (by have := g.len; omega) (fun y hy => by have := g.one hy; omega)).get
 exact (folkmootref06_Same.calls k A c x A' c' x _ w h.2 h.1 h'.2 h'.1 hk).mono fun e w' ⟨he, hd⟩ => ⟨by rw [he]; simp, hd.below⟩
theorem dchkG (A : Option Addr) (c : Nat) (x : List S26) (w : World) (h : RdD w A c x) (g : Good x 512) :
  Calls Tryz.prog 12 #[.slice A x.length c] w fun e w' => e = .returned (.int .i64 0) ∧ Below w.heap.size w w' := by
 obtain ⟨k, hk⟩ := (ev_dcheck x (fun y hy => by have := g.one hy; omega) (by have := g.len; omega)).get
 rw [good_chk g] at hk
 exact deps_Check.calls k A c x 0 w h.2 h.1 hk
set_option maxHeartbeats 4000000 in
set_option maxRecDepth 100000 in
theorem merged_any (A0 : Option Addr) (c0 : Nat) (a : List S26) (A1 : Option Addr) (c1 : Nat) (b : List S26) (A2 : Option Addr) (c2 : Nat) (d : List S26) (s0 s1 : Int) (w : World) (ha : RdD w A0 c0 a) (hb : RdD w A1 c1 b) (hd : RdD w A2 c2 d)
  (pa : a.length ≤ 9223372036854775807 ∧ ∀ s ∈ a, s.f1.length ≤ 9223372036854775807) (pb : b.length ≤ 9223372036854775807 ∧ ∀ s ∈ b, s.f1.length ≤ 9223372036854775807) (pd : d.length ≤ 9223372036854775807 ∧ ∀ s ∈ d, s.f1.length ≤ 9223372036854775807) :
  Calls Tryz.prog 6 #[.slice A0 a.length c0, .slice A1 b.length c1, .slice A2 d.length c2, .agg #[.int .i64 s0, .int .i64 s1]] w fun e w' => e = .returned (.bool true) ∧ Below w.heap.size w w' := by
 obtain ⟨w1, hw1⟩ : ∃ w1, w.alloc (.cells #[.int .i64 s0, .int .i64 s1] 41) = w1 := ⟨_, rfl⟩
 have hB1 : Below w.heap.size w w1 := hw1 ▸ (Below.refl _ _).alloc (Nat.le_refl _) _
 have hT : Blk w1 w.heap.size 41 #[.int .i64 s0, .int .i64 s1] := hw1 ▸ Blk.new w 41 _
 have HT := Lib.hid hT
 have HF := Lib.hid (fun (W : World) (h : Below w1.heap.size w1 W) => And.intro ((ha.below hB1).below h) (And.intro ((hb.below hB1).below h) ((hd.below hB1).below h)))
 have HB1 := Lib.hid hB1
 have HBk := Lib.hid (Below.refl w1.heap.size w1)
 obtain ⟨qa, hqa⟩ : ∃ q, decide (a.length ≤ 20 ∧ wsum a ≤ 100) = q := ⟨_, rfl⟩
 obtain ⟨qb, hqb⟩ : ∃ q, decide (b.length ≤ 20 ∧ wsum b ≤ 100) = q := ⟨_, rfl⟩
 obtain ⟨qd, hqd⟩ : ∃ q, decide (d.length ≤ 20 ∧ wsum d ≤ 100) = q := ⟨_, rfl⟩
 obtain ⟨na, hna⟩ : ∃ n, chkD a = n := ⟨_, rfl⟩
 obtain ⟨nb, hnb⟩ : ∃ n, chkD b = n := ⟨_, rfl⟩
 obtain ⟨nd, hnd⟩ : ∃ n, chkD d = n := ⟨_, rfl⟩
 have HQ := Lib.hid (And.intro hqa (And.intro hqb (And.intro hqd (And.intro hna (And.intro hnb hnd)))))
 have HP := Lib.hid (And.intro pa (And.intro pb pd))
 clear ha hb hd hT hB1 hqa hqb hqd hna hnb hnd pa pb pd
 go_enter Tryz.func6, Tryz.ntmps6
 go_wp2_with fail
 refine (smallC A0 c0 a _ (HF.out _ HBk.out).1 qa HQ.out.1).mono ?_
 rintro e w2 ⟨rfl, hb⟩
 have HBk := Lib.hid (HBk.out.trans (hb.mono HBk.out.size))
 clear hb
 cases qa with
 | false =>
  go_wp2_with fail
  refine (live6_any _).mono ?_
  rintro e wl ⟨rfl, hbl⟩
  have HBl := Lib.hid (HB1.out.trans ((HBk.out.trans (hbl.mono HBk.out.size)).mono HB1.out.size))
  clear hbl
  go_wp2
  go_ret
  exact ⟨rfl, HBl.out⟩
 | true =>
 go_wp2_with fail
 refine (smallC A1 c1 b _ (HF.out _ HBk.out).2.1 qb HQ.out.2.1).mono ?_
 rintro e w3 ⟨rfl, hb⟩
 have HBk := Lib.hid (HBk.out.trans (hb.mono HBk.out.size))
 clear hb
 cases qb with
 | false =>
  go_wp2_with fail
  refine (live6_any _).mono ?_
  rintro e wl ⟨rfl, hbl⟩
  have HBl := Lib.hid (HB1.out.trans ((HBk.out.trans (hbl.mono HBk.out.size)).mono HB1.out.size))
  clear hbl
  go_wp2
  go_ret
  exact ⟨rfl, HBl.out⟩
 | true =>
 go_wp2_with fail
 refine (smallC A2 c2 d _ (HF.out _ HBk.out).2.2 qd HQ.out.2.2.1).mono ?_
 rintro e w4 ⟨rfl, hb⟩
 have HBk := Lib.hid (HBk.out.trans (hb.mono HBk.out.size))
 clear hb
 cases qd with
 | false =>
  go_wp2_with fail
  refine (live6_any _).mono ?_
  rintro e wl ⟨rfl, hbl⟩
  have HBl := Lib.hid (HB1.out.trans ((HBk.out.trans (hbl.mono HBk.out.size)).mono HB1.out.size))
  clear hbl
  go_wp2
  go_ret
  exact ⟨rfl, HBl.out⟩
 | true =>
 go_wp2_with fail
 refine (chk6C A0 c0 a _ (HF.out _ HBk.out).1 HP.out.1.1 HP.out.1.2 na HQ.out.2.2.2.1).mono ?_
 rintro e w5 ⟨rfl, hb⟩
 have HBk := Lib.hid (HBk.out.trans (hb.mono HBk.out.size))
 clear hb
 by_cases ea : na = 0
 case neg =>
  have e1 : (na == 0) = false := beq_eq_false_iff_ne.2 ea
  have e2 : (na != 0) = true := bne_iff_ne.2 ea
  go_wp2_with fail
  refine (live6_any _).mono ?_
  rintro e wl ⟨rfl, hbl⟩
  have HBl := Lib.hid (HB1.out.trans ((HBk.out.trans (hbl.mono HBk.out.size)).mono HB1.out.size))
  clear hbl
  go_wp2
  go_ret
  exact ⟨rfl, HBl.out⟩
 subst ea
 go_wp2_with fail
 refine (chk6C A1 c1 b _ (HF.out _ HBk.out).2.1 HP.out.2.1.1 HP.out.2.1.2 nb HQ.out.2.2.2.2.1).mono ?_
 rintro e w6 ⟨rfl, hb⟩
 have HBk := Lib.hid (HBk.out.trans (hb.mono HBk.out.size))
 clear hb
 by_cases eb : nb = 0
 case neg =>
  have e1 : (nb == 0) = false := beq_eq_false_iff_ne.2 eb
  have e2 : (nb != 0) = true := bne_iff_ne.2 eb
  go_wp2_with fail
  refine (live6_any _).mono ?_
  rintro e wl ⟨rfl, hbl⟩
  have HBl := Lib.hid (HB1.out.trans ((HBk.out.trans (hbl.mono HBk.out.size)).mono HB1.out.size))
  clear hbl
  go_wp2
  go_ret
  exact ⟨rfl, HBl.out⟩
 subst eb
 go_wp2_with fail
 refine (chk6C A2 c2 d _ (HF.out _ HBk.out).2.2 HP.out.2.2.1 HP.out.2.2.2 nd HQ.out.2.2.2.2.2).mono ?_
 rintro e w7 ⟨rfl, hb⟩
 have HBk := Lib.hid (HBk.out.trans (hb.mono HBk.out.size))
 clear hb
 by_cases ed : nd = 0
 case neg =>
  have e1 : (nd == 0) = false := beq_eq_false_iff_ne.2 ed
  have e2 : (nd != 0) = true := bne_iff_ne.2 ed
  go_wp2_with fail
  refine (live6_any _).mono ?_
  rintro e wl ⟨rfl, hbl⟩
  have HBl := Lib.hid (HB1.out.trans ((HBk.out.trans (hbl.mono HBk.out.size)).mono HB1.out.size))
  clear hbl
  go_wp2
  go_ret
  exact ⟨rfl, HBl.out⟩
 subst ed
 obtain ⟨x, hx⟩ : ∃ x, mergeD [a, b, d].flatten = x := ⟨_, rfl⟩
 have gx : Three a b d x := by
  obtain ⟨h1, h2, h3, h4, h5, h6⟩ := HQ.out
  obtain ⟨g1, e1⟩ := good_of h4
  obtain ⟨g2, e2⟩ := good_of h5
  obtain ⟨g3, e3⟩ := good_of h6
  have k1 := (of_decide_eq_true h1).2
  have k2 := (of_decide_eq_true h2).2
  have k3 := (of_decide_eq_true h3).2
  exact ⟨g1.mono (by omega), g2.mono (by omega), g3.mono (by omega), hx⟩
 have HX := Lib.hid gx
 clear gx hx
 go_wp2_with fail
 refine (merge3 _ A0 c0 a A1 c1 b A2 c2 d x (HF.out _ HBk.out).1 (HF.out _ HBk.out).2.1 (HF.out _ HBk.out).2.2 HX.out.ga HX.out.gb HX.out.gc (by omega) HX.out.eqx).mono ?_
 rintro e w8 ⟨Ax, cx, rfl, hX8, hb⟩
 have HBk := Lib.hid (HBk.out.trans (hb.mono HBk.out.size))
 clear hb
 have HX8 := Lib.hid hX8
 clear hX8
 obtain ⟨y, hy⟩ : ∃ y, mergeD [b, a].flatten = y := ⟨_, rfl⟩
 have HY := Lib.hid hy
 clear hy
 have HGY := Lib.hid (show Good y 200 from by
  rw [← HY.out]
  have h1 := HX.out.ga; have h2 := HX.out.gb
  refine good_merge (fun e he => ?_) (fun e he => ?_) ?_
  ·simp only [List.flatten_cons, List.flatten_nil, List.append_nil, List.mem_append] at he
   exact he.elim (h2.low e) (h1.low e)
  ·simp only [List.flatten_cons, List.flatten_nil, List.append_nil, List.mem_append] at he
   exact he.elim (h2.is e) (h1.is e)
  ·have k1 := h1.all; have k2 := h2.all
   unfold allD at *
   simp only [List.flatten_cons, List.flatten_nil, List.append_nil, List.flatMap_append, List.length_append]
   omega)
 go_wp2_with fail
 refine (merge2 _ A1 c1 b A0 c0 a y (HF.out _ HBk.out).2.1 (HF.out _ HBk.out).1 HX.out.gb HX.out.ga (by omega) HY.out).mono ?_
 rintro e w9 ⟨Ay, cy, rfl, hY9, hb⟩
 have HX9 := Lib.hid (HX8.out.below hb)
 have HBk := Lib.hid (HBk.out.trans (hb.mono HBk.out.size))
 clear hb
 have HY9 := Lib.hid hY9
 clear hY9
 go_wp2_with fail
 refine (merge2 _ A2 c2 d Ay cy y x (HF.out _ HBk.out).2.2 HY9.out HX.out.gc HGY.out (by omega) (by rw [← HY.out]; exact HX.out.turned)).mono ?_
 rintro e wa ⟨Az, cz, rfl, hYa, hb⟩
 have HXa := Lib.hid (And.intro (HX9.out.below hb) hYa)
 have HBk := Lib.hid (HBk.out.trans (hb.mono HBk.out.size))
 clear hb
 clear hYa
 have hs0 : wa.cell? ⟨w.heap.size, 0, none⟩ = some (.int .i64 s0) := (HT.out.below HBk.out HT.out.lt).cell 0
 have hs1 : wa.cell? ⟨w.heap.size, 1, none⟩ = some (.int .i64 s1) := (HT.out.below HBk.out HT.out.lt).cell 1
 obtain ⟨u, hu⟩ : ∃ u, mapD (·.filter (lessS ⟨s0, s1⟩)) x = u := ⟨_, rfl⟩
 have HU := Lib.hid hu
 clear hu
 go_wp2_with fail
 refine (belowG Ax cx x s0 s1 _ HXa.out.1 HX.out.good (by omega) u HU.out).mono ?_
 rintro e wb ⟨Au, cu, rfl, hUb, hb⟩
 have HXb := Lib.hid (And.intro (HXa.out.1.below hb) (And.intro (HXa.out.2.below hb) hUb))
 have HBk := Lib.hid (HBk.out.trans (hb.mono HBk.out.size))
 clear hb
 clear hUb hs0 hs1
 go_wp2_with fail
 refine (merge3 _ Ax cx x Au cu u A0 c0 a x HXb.out.1 HXb.out.2.2 (HF.out _ HBk.out).1 HX.out.good (by rw [← HU.out]; exact HX.out.good.map _) HX.out.ga (by omega) (by rw [← HU.out]; exact HX.out.part _)).mono ?_
 rintro e wc ⟨Av, cv, rfl, hVc, hb⟩
 have HXc := Lib.hid (And.intro (HXb.out.1.below hb) (And.intro (HXb.out.2.1.below hb) hVc))
 have HBk := Lib.hid (HBk.out.trans (hb.mono HBk.out.size))
 clear hb
 clear hVc
 obtain ⟨l, hl⟩ : ∃ l, setS (allD x) = l := ⟨_, rfl⟩
 have HL := Lib.hid hl
 clear hl
 go_wp2_with fail
 refine (allG Ax cx x _ HXc.out.1 HX.out.good (by omega) l HL.out).mono ?_
 rintro e wd ⟨Al, cl, rfl, hlc, hCl, hb⟩
 have HXd := Lib.hid (And.intro (HXc.out.1.below hb) (And.intro (HXc.out.2.1.below hb) (And.intro (HXc.out.2.2.below hb) hCl)))
 have HBk := Lib.hid (HBk.out.trans (hb.mono HBk.out.size))
 clear hb
 have hlm : l.length ≤ 300 := by
  rw [← HL.out]
  exact Nat.le_trans (setS_len _) HX.out.good.all
 clear hCl
 have HBd := Lib.hid (Below.refl wd.heap.size wd)
 go_wp2
 go_loopw [13] (fun si wr => ∃ i : Nat, si = .int .i64 (i : Int) ∧ i ≤ l.length ∧ RowKit.Hid (Below wd.heap.size wd wr)) (fun si _ => l.length - (intOf si).toNat)
 case atStart => exact ⟨0, rfl, by omega, HBd⟩
 case round =>
  obtain ⟨i, rfl, hi, HBr⟩ := hrel
  by_cases hlt : i < l.length
  ·obtain ⟨s, hs⟩ : ∃ s, l[i] = s := ⟨_, rfl⟩
   have HS := Lib.hid hs
   rcases Al with _ | al
   ·exact absurd (HXd.out.2.2.2.2.2 (by omega)) (by simp)
   obtain ⟨x0, x1⟩ := C_atS (Kd.C_below HXd.out.2.2.2 HBr.out) i hlt
   rw [hs] at x0 x1
   have hmem : s ∈ setS (allD a) ∨ s ∈ setS (allD b) ∨ s ∈ setS (allD d) := HX.out.all (by rw [HL.out, ← hs]; exact List.getElem_mem hlt)
   clear hs
   obtain ⟨la, hla⟩ : ∃ l, setS (allD a) = l := ⟨_, rfl⟩
   obtain ⟨lb, hlb⟩ : ∃ l, setS (allD b) = l := ⟨_, rfl⟩
   obtain ⟨ld, hld⟩ : ∃ l, setS (allD d) = l := ⟨_, rfl⟩
   rw [hla, hlb, hld] at hmem
   have HLA := Lib.hid (And.intro hla (And.intro hlb hld))
   clear hla hlb hld
   have hF := fun (W : World) (h : Below wr.heap.size wr W) => HF.out W (HBk.out.trans ((HBr.out.trans (h.mono HBr.out.size)).mono HBk.out.size))
   have HFr := Lib.hid hF
   clear hF
   have hic : (i : Int) ≤ (cl : Int) := by omega
   have h0i : (0 : Int) ≤ (i : Int) := by omega
   have hil : (i : Int) < (l.length : Int) := by omega
   have HMM := Lib.hid hmem
   clear hmem
   go_upto_region 10 with fail
   by_cases pa : s ∈ la
   case pos =>
    refine wp_region_held (S := (fun W => W.cell? (al.add (i * 2)) = some (.int .i64 s.f0) ∧ W.cell? ⟨(al.add (i * 2)).block, (al.add (i * 2)).off + 1, none⟩ = some (.int .i64 s.f1) ∧ Below wr.heap.size wr W)) (by kernel_rfl) ?_
    simp only [List.size_toArray, List.length_cons, List.length_nil, Nat.zero_add, Nat.reduceAdd]
    have hHeld : ((fun W => W.cell? (al.add (i * 2)) = some (.int .i64 s.f0) ∧ W.cell? ⟨(al.add (i * 2)).block, (al.add (i * 2)).off + 1, none⟩ = some (.int .i64 s.f1) ∧ Below wr.heap.size wr W)) wr.drew := ⟨x0, x1, below_drew (Below.refl _ _)⟩
    refine wpAnyH_take (i := 0) (v := ?_) rfl (by kernel_rfl) (by kernel_rfl) (by kernel_rfl) (fun _ _ _ h => h) (Or.inl ⟨by rfl, ?_⟩) (by assumption) ?_
    rotate_left
    ·(intro w hSw; (try dsimp only at hSw); go_split_ands; go_simp; try with_reducible rfl)
    try simp only [List.getElem_toArray, List.getElem_cons_succ, List.getElem_cons_zero, Act.put, List.setIfInBounds_toArray, List.set_cons_zero, List.set_cons_succ]
    refine wpAnyH_take (i := 2) (v := ?_) rfl (by kernel_rfl) (by kernel_rfl) (by kernel_rfl) (fun _ _ _ h => h) (Or.inl ⟨by rfl, ?_⟩) (by assumption) ?_
    rotate_left
    ·(intro w hSw; (try dsimp only at hSw); go_split_ands; go_simp; try with_reducible rfl)
    try simp only [List.getElem_toArray, List.getElem_cons_succ, List.getElem_cons_zero, Act.put, List.setIfInBounds_toArray, List.set_cons_zero, List.set_cons_succ]
    refine wpAnyH_take (i := 3) (v := ?_) rfl (by kernel_rfl) (by kernel_rfl) (by kernel_rfl) (fun _ _ _ h => h) (Or.inl ⟨by rfl, ?_⟩) (by assumption) ?_
    rotate_left
    ·(intro w hSw; (try dsimp only at hSw); go_split_ands; go_simp; try with_reducible rfl)
    try simp only [List.getElem_toArray, List.getElem_cons_succ, List.getElem_cons_zero, Act.put, List.setIfInBounds_toArray, List.set_cons_zero, List.set_cons_succ]
    refine wpAnyH_take (i := 4) (v := ?_) rfl (by kernel_rfl) (by kernel_rfl) (by kernel_rfl) (fun _ _ _ h => h) (Or.inl ⟨by rfl, ?_⟩) (by assumption) ?_
    rotate_left
    ·(intro w hSw; (try dsimp only at hSw); go_split_ands; go_simp; try with_reducible rfl)
    try simp only [List.getElem_toArray, List.getElem_cons_succ, List.getElem_cons_zero, Act.put, List.setIfInBounds_toArray, List.set_cons_zero, List.set_cons_succ]
    refine wpAnyH_take (i := 5) (v := ?_) rfl (by kernel_rfl) (by kernel_rfl) (by kernel_rfl) (fun _ _ _ h => h) (Or.inl ⟨by rfl, ?_⟩) (by assumption) ?_
    rotate_left
    ·(intro w hSw; (try dsimp only at hSw); go_split_ands; go_simp; try with_reducible rfl)
    try simp only [List.getElem_toArray, List.getElem_cons_succ, List.getElem_cons_zero, Act.put, List.setIfInBounds_toArray, List.set_cons_zero, List.set_cons_succ]
    refine wpAnyH_ready (rs := [1]) (by kernel_rfl) (by simp) ?_
    refine (AllReadyH.cons rfl (fun K hK => ?_) AllReadyH.nil)
    go_simp
    refine (allG A0 c0 a _ (HFr.out _ hHeld.2.2).1 HX.out.ga (by omega) la HLA.out.1).mono ?_
    rintro e wn ⟨An, cn, rfl, hcn, hCn, hbn⟩
    have HN := Lib.hid (And.intro hcn hCn)
    refine hK.out _ _ ?_ (fun hHeld => ?_)
    ·exact ⟨pw_cell_below hbn hHeld.1, pw_cell_below hbn hHeld.2.1, hHeld.2.2.trans (hbn.mono hHeld.2.2.size)⟩
    clear hK K
    clear hbn hcn hCn
    try simp only [List.getElem_toArray, List.getElem_cons_succ, List.getElem_cons_zero, Act.put, List.setIfInBounds_toArray, List.set_cons_zero, List.set_cons_succ]
    refine wpAnyH_ready (rs := [6]) (by kernel_rfl) (by simp) ?_
    refine (AllReadyH.cons rfl (fun K hK => ?_) AllReadyH.nil)
    go_simp
    refine (hasG An cn la s _ HN.out.2 HN.out.1 true (decide_eq_true pa)).mono ?_
    rintro e wn ⟨rfl, hbn⟩
    refine hK.out _ _ ?_ (fun hHeld => ?_)
    ·exact ⟨pw_cell_below hbn hHeld.1, pw_cell_below hbn hHeld.2.1, hHeld.2.2.trans (hbn.mono hHeld.2.2.size)⟩
    clear hK K
    have HBn := Lib.hid (HBr.out.trans (hHeld.2.2.mono HBr.out.size))
    clear hbn
    try simp only [List.getElem_toArray, List.getElem_cons_succ, List.getElem_cons_zero, Act.put, List.setIfInBounds_toArray, List.set_cons_zero, List.set_cons_succ]
    refine wpAnyH_take (i := 7) (v := ?_) rfl (by kernel_rfl) (by kernel_rfl) (by kernel_rfl) (fun _ _ _ h => h) (Or.inl ⟨by rfl, ?_⟩) (by assumption) ?_
    rotate_left
    ·(intro w hSw; (try dsimp only at hSw); go_split_ands; go_simp; try with_reducible rfl)
    try simp only [List.getElem_toArray, List.getElem_cons_succ, List.getElem_cons_zero, Act.put, List.setIfInBounds_toArray, List.set_cons_zero, List.set_cons_succ]
    refine wpAnyH_take (i := 8) (v := ?_) rfl (by kernel_rfl) (by kernel_rfl) (by kernel_rfl) (fun _ _ _ h => h) (Or.inl ⟨by rfl, ?_⟩) (by assumption) ?_
    rotate_left
    ·(intro w hSw; (try dsimp only at hSw); go_split_ands; go_simp; try with_reducible rfl)
    try simp only [List.getElem_toArray, List.getElem_cons_succ, List.getElem_cons_zero, Act.put, List.setIfInBounds_toArray, List.set_cons_zero, List.set_cons_succ]
    refine wpAnyH_take (i := 9) (v := undef) rfl (by kernel_rfl) (by kernel_rfl) (by kernel_rfl) (fun _ _ _ h => h) (Or.inr ⟨by rfl, rfl⟩) (by assumption) ?_
    try simp only [List.getElem_toArray, List.getElem_cons_succ, List.getElem_cons_zero, Act.put, List.setIfInBounds_toArray, List.set_cons_zero, List.set_cons_succ]
    refine wpAnyH_take (i := 10) (v := undef) rfl (by kernel_rfl) (by kernel_rfl) (by kernel_rfl) (fun _ _ _ h => h) (Or.inr ⟨by rfl, rfl⟩) (by assumption) ?_
    try simp only [List.getElem_toArray, List.getElem_cons_succ, List.getElem_cons_zero, Act.put, List.setIfInBounds_toArray, List.set_cons_zero, List.set_cons_succ]
    refine wpAnyH_take (i := 11) (v := undef) rfl (by kernel_rfl) (by kernel_rfl) (by kernel_rfl) (fun _ _ _ h => h) (Or.inr ⟨by rfl, rfl⟩) (by assumption) ?_
    try simp only [List.getElem_toArray, List.getElem_cons_succ, List.getElem_cons_zero, Act.put, List.setIfInBounds_toArray, List.set_cons_zero, List.set_cons_succ]
    refine wpAnyH_take (i := 12) (v := undef) rfl (by kernel_rfl) (by kernel_rfl) (by kernel_rfl) (fun _ _ _ h => h) (Or.inr ⟨by rfl, rfl⟩) (by assumption) ?_
    try simp only [List.getElem_toArray, List.getElem_cons_succ, List.getElem_cons_zero, Act.put, List.setIfInBounds_toArray, List.set_cons_zero, List.set_cons_succ]
    refine wpAnyH_take (i := 13) (v := undef) rfl (by kernel_rfl) (by kernel_rfl) (by kernel_rfl) (fun _ _ _ h => h) (Or.inr ⟨by rfl, rfl⟩) (by assumption) ?_
    try simp only [List.getElem_toArray, List.getElem_cons_succ, List.getElem_cons_zero, Act.put, List.setIfInBounds_toArray, List.set_cons_zero, List.set_cons_succ]
    refine wpAnyH_take (i := 14) (v := undef) rfl (by kernel_rfl) (by kernel_rfl) (by kernel_rfl) (fun _ _ _ h => h) (Or.inr ⟨by rfl, rfl⟩) (by assumption) ?_
    try simp only [List.getElem_toArray, List.getElem_cons_succ, List.getElem_cons_zero, Act.put, List.setIfInBounds_toArray, List.set_cons_zero, List.set_cons_succ]
    refine wpAnyH_take (i := 15) (v := undef) rfl (by kernel_rfl) (by kernel_rfl) (by kernel_rfl) (fun _ _ _ h => h) (Or.inr ⟨by rfl, rfl⟩) (by assumption) ?_
    try simp only [List.getElem_toArray, List.getElem_cons_succ, List.getElem_cons_zero, Act.put, List.setIfInBounds_toArray, List.set_cons_zero, List.set_cons_succ]
    refine wpAnyH_take (i := 16) (v := undef) rfl (by kernel_rfl) (by kernel_rfl) (by kernel_rfl) (fun _ _ _ h => h) (Or.inr ⟨by rfl, rfl⟩) (by assumption) ?_
    try simp only [List.getElem_toArray, List.getElem_cons_succ, List.getElem_cons_zero, Act.put, List.setIfInBounds_toArray, List.set_cons_zero, List.set_cons_succ]
    refine wpAnyH_take (i := 17) (v := ?_) rfl (by kernel_rfl) (by kernel_rfl) (by kernel_rfl) (fun _ _ _ h => h) (Or.inl ⟨by rfl, ?_⟩) (by assumption) ?_
    rotate_left
    ·(intro w hSw; (try dsimp only at hSw); go_split_ands; go_simp; try with_reducible rfl)
    try simp only [List.getElem_toArray, List.getElem_cons_succ, List.getElem_cons_zero, Act.put, List.setIfInBounds_toArray, List.set_cons_zero, List.set_cons_succ]
    refine wpAnyH_take (i := 18) (v := ?_) rfl (by kernel_rfl) (by kernel_rfl) (by kernel_rfl) (fun _ _ _ h => h) (Or.inl ⟨by rfl, ?_⟩) (by assumption) ?_
    rotate_left
    ·(intro w hSw; (try dsimp only at hSw); go_split_ands; go_simp; try with_reducible rfl)
    try simp only [List.getElem_toArray, List.getElem_cons_succ, List.getElem_cons_zero, Act.put, List.setIfInBounds_toArray, List.set_cons_zero, List.set_cons_succ]
    refine wpAnyH_take (i := 19) (v := undef) rfl (by kernel_rfl) (by kernel_rfl) (by kernel_rfl) (fun _ _ _ h => h) (Or.inr ⟨by rfl, rfl⟩) (by assumption) ?_
    try simp only [List.getElem_toArray, List.getElem_cons_succ, List.getElem_cons_zero, Act.put, List.setIfInBounds_toArray, List.set_cons_zero, List.set_cons_succ]
    refine wpAnyH_take (i := 20) (v := undef) rfl (by kernel_rfl) (by kernel_rfl) (by kernel_rfl) (fun _ _ _ h => h) (Or.inr ⟨by rfl, rfl⟩) (by assumption) ?_
    try simp only [List.getElem_toArray, List.getElem_cons_succ, List.getElem_cons_zero, Act.put, List.setIfInBounds_toArray, List.set_cons_zero, List.set_cons_succ]
    refine wpAnyH_take (i := 21) (v := undef) rfl (by kernel_rfl) (by kernel_rfl) (by kernel_rfl) (fun _ _ _ h => h) (Or.inr ⟨by rfl, rfl⟩) (by assumption) ?_
    try simp only [List.getElem_toArray, List.getElem_cons_succ, List.getElem_cons_zero, Act.put, List.setIfInBounds_toArray, List.set_cons_zero, List.set_cons_succ]
    refine wpAnyH_take (i := 22) (v := undef) rfl (by kernel_rfl) (by kernel_rfl) (by kernel_rfl) (fun _ _ _ h => h) (Or.inr ⟨by rfl, rfl⟩) (by assumption) ?_
    try simp only [List.getElem_toArray, List.getElem_cons_succ, List.getElem_cons_zero, Act.put, List.setIfInBounds_toArray, List.set_cons_zero, List.set_cons_succ]
    refine wpAnyH_take (i := 23) (v := undef) rfl (by kernel_rfl) (by kernel_rfl) (by kernel_rfl) (fun _ _ _ h => h) (Or.inr ⟨by rfl, rfl⟩) (by assumption) ?_
    try simp only [List.getElem_toArray, List.getElem_cons_succ, List.getElem_cons_zero, Act.put, List.setIfInBounds_toArray, List.set_cons_zero, List.set_cons_succ]
    refine wpAnyH_take (i := 24) (v := undef) rfl (by kernel_rfl) (by kernel_rfl) (by kernel_rfl) (fun _ _ _ h => h) (Or.inr ⟨by rfl, rfl⟩) (by assumption) ?_
    try simp only [List.getElem_toArray, List.getElem_cons_succ, List.getElem_cons_zero, Act.put, List.setIfInBounds_toArray, List.set_cons_zero, List.set_cons_succ]
    refine wpAnyH_take (i := 25) (v := undef) rfl (by kernel_rfl) (by kernel_rfl) (by kernel_rfl) (fun _ _ _ h => h) (Or.inr ⟨by rfl, rfl⟩) (by assumption) ?_
    try simp only [List.getElem_toArray, List.getElem_cons_succ, List.getElem_cons_zero, Act.put, List.setIfInBounds_toArray, List.set_cons_zero, List.set_cons_succ]
    refine wpAnyH_take (i := 26) (v := undef) rfl (by kernel_rfl) (by kernel_rfl) (by kernel_rfl) (fun _ _ _ h => h) (Or.inr ⟨by rfl, rfl⟩) (by assumption) ?_
    try simp only [List.getElem_toArray, List.getElem_cons_succ, List.getElem_cons_zero, Act.put, List.setIfInBounds_toArray, List.set_cons_zero, List.set_cons_succ]
    refine wpAnyH_take (i := 27) (v := ?_) rfl (by kernel_rfl) (by kernel_rfl) (by kernel_rfl) (fun _ _ _ h => h) (Or.inl ⟨by rfl, ?_⟩) (by assumption) ?_
    rotate_left
    ·(intro w hSw; (try dsimp only at hSw); go_split_ands; go_simp; try with_reducible rfl)
    try simp only [List.getElem_toArray, List.getElem_cons_succ, List.getElem_cons_zero, Act.put, List.setIfInBounds_toArray, List.set_cons_zero, List.set_cons_succ]
    refine wpAnyH_done (by kernel_rfl) ?_ _
    go_wp2
    go_roundw
    case rel => exact ⟨i + 1, by go_num, by omega, HBn⟩
    case measure => simp [intOf]; omega
   case neg =>
    by_cases pb : s ∈ lb
    case pos =>
     refine wp_region_held (S := (fun W => W.cell? (al.add (i * 2)) = some (.int .i64 s.f0) ∧ W.cell? ⟨(al.add (i * 2)).block, (al.add (i * 2)).off + 1, none⟩ = some (.int .i64 s.f1) ∧ Below wr.heap.size wr W)) (by kernel_rfl) ?_
     simp only [List.size_toArray, List.length_cons, List.length_nil, Nat.zero_add, Nat.reduceAdd]
     have hHeld : ((fun W => W.cell? (al.add (i * 2)) = some (.int .i64 s.f0) ∧ W.cell? ⟨(al.add (i * 2)).block, (al.add (i * 2)).off + 1, none⟩ = some (.int .i64 s.f1) ∧ Below wr.heap.size wr W)) wr.drew := ⟨x0, x1, below_drew (Below.refl _ _)⟩
     refine wpAnyH_take (i := 0) (v := ?_) rfl (by kernel_rfl) (by kernel_rfl) (by kernel_rfl) (fun _ _ _ h => h) (Or.inl ⟨by rfl, ?_⟩) (by assumption) ?_
     rotate_left
     ·(intro w hSw; (try dsimp only at hSw); go_split_ands; go_simp; try with_reducible rfl)
     try simp only [List.getElem_toArray, List.getElem_cons_succ, List.getElem_cons_zero, Act.put, List.setIfInBounds_toArray, List.set_cons_zero, List.set_cons_succ]
     refine wpAnyH_take (i := 2) (v := ?_) rfl (by kernel_rfl) (by kernel_rfl) (by kernel_rfl) (fun _ _ _ h => h) (Or.inl ⟨by rfl, ?_⟩) (by assumption) ?_
     rotate_left
     ·(intro w hSw; (try dsimp only at hSw); go_split_ands; go_simp; try with_reducible rfl)
     try simp only [List.getElem_toArray, List.getElem_cons_succ, List.getElem_cons_zero, Act.put, List.setIfInBounds_toArray, List.set_cons_zero, List.set_cons_succ]
     refine wpAnyH_take (i := 3) (v := ?_) rfl (by kernel_rfl) (by kernel_rfl) (by kernel_rfl) (fun _ _ _ h => h) (Or.inl ⟨by rfl, ?_⟩) (by assumption) ?_
     rotate_left
     ·(intro w hSw; (try dsimp only at hSw); go_split_ands; go_simp; try with_reducible rfl)
     try simp only [List.getElem_toArray, List.getElem_cons_succ, List.getElem_cons_zero, Act.put, List.setIfInBounds_toArray, List.set_cons_zero, List.set_cons_succ]
     refine wpAnyH_take (i := 4) (v := ?_) rfl (by kernel_rfl) (by kernel_rfl) (by kernel_rfl) (fun _ _ _ h => h) (Or.inl ⟨by rfl, ?_⟩) (by assumption) ?_
     rotate_left
     ·(intro w hSw; (try dsimp only at hSw); go_split_ands; go_simp; try with_reducible rfl)
     try simp only [List.getElem_toArray, List.getElem_cons_succ, List.getElem_cons_zero, Act.put, List.setIfInBounds_toArray, List.set_cons_zero, List.set_cons_succ]
     refine wpAnyH_take (i := 5) (v := ?_) rfl (by kernel_rfl) (by kernel_rfl) (by kernel_rfl) (fun _ _ _ h => h) (Or.inl ⟨by rfl, ?_⟩) (by assumption) ?_
     rotate_left
     ·(intro w hSw; (try dsimp only at hSw); go_split_ands; go_simp; try with_reducible rfl)
     try simp only [List.getElem_toArray, List.getElem_cons_succ, List.getElem_cons_zero, Act.put, List.setIfInBounds_toArray, List.set_cons_zero, List.set_cons_succ]
     refine wpAnyH_ready (rs := [1]) (by kernel_rfl) (by simp) ?_
     refine (AllReadyH.cons rfl (fun K hK => ?_) AllReadyH.nil)
     go_simp
     refine (allG A0 c0 a _ (HFr.out _ hHeld.2.2).1 HX.out.ga (by omega) la HLA.out.1).mono ?_
     rintro e wn ⟨An, cn, rfl, hcn, hCn, hbn⟩
     have HN := Lib.hid (And.intro hcn hCn)
     refine hK.out _ _ ?_ (fun hHeld => ?_)
     ·exact ⟨pw_cell_below hbn hHeld.1, pw_cell_below hbn hHeld.2.1, hHeld.2.2.trans (hbn.mono hHeld.2.2.size)⟩
     clear hK K
     clear hbn hcn hCn
     try simp only [List.getElem_toArray, List.getElem_cons_succ, List.getElem_cons_zero, Act.put, List.setIfInBounds_toArray, List.set_cons_zero, List.set_cons_succ]
     refine wpAnyH_ready (rs := [6]) (by kernel_rfl) (by simp) ?_
     refine (AllReadyH.cons rfl (fun K hK => ?_) AllReadyH.nil)
     go_simp
     refine (hasG An cn la s _ HN.out.2 HN.out.1 false (decide_eq_false pa)).mono ?_
     rintro e wn ⟨rfl, hbn⟩
     refine hK.out _ _ ?_ (fun hHeld => ?_)
     ·exact ⟨pw_cell_below hbn hHeld.1, pw_cell_below hbn hHeld.2.1, hHeld.2.2.trans (hbn.mono hHeld.2.2.size)⟩
     clear hK K
     clear hbn
     try simp only [List.getElem_toArray, List.getElem_cons_succ, List.getElem_cons_zero, Act.put, List.setIfInBounds_toArray, List.set_cons_zero, List.set_cons_succ]
     refine wpAnyH_take (i := 7) (v := ?_) rfl (by kernel_rfl) (by kernel_rfl) (by kernel_rfl) (fun _ _ _ h => h) (Or.inl ⟨by rfl, ?_⟩) (by assumption) ?_
     rotate_left
     ·(intro w hSw; (try dsimp only at hSw); go_split_ands; go_simp; try with_reducible rfl)
     try simp only [List.getElem_toArray, List.getElem_cons_succ, List.getElem_cons_zero, Act.put, List.setIfInBounds_toArray, List.set_cons_zero, List.set_cons_succ]
     refine wpAnyH_take (i := 8) (v := ?_) rfl (by kernel_rfl) (by kernel_rfl) (by kernel_rfl) (fun _ _ _ h => h) (Or.inl ⟨by rfl, ?_⟩) (by assumption) ?_
     rotate_left
     ·(intro w hSw; (try dsimp only at hSw); go_split_ands; go_simp; try with_reducible rfl)
     try simp only [List.getElem_toArray, List.getElem_cons_succ, List.getElem_cons_zero, Act.put, List.setIfInBounds_toArray, List.set_cons_zero, List.set_cons_succ]
     refine wpAnyH_take (i := 9) (v := ?_) rfl (by kernel_rfl) (by kernel_rfl) (by kernel_rfl) (fun _ _ _ h => h) (Or.inl ⟨by rfl, ?_⟩) (by assumption) ?_
     rotate_left
     ·(intro w hSw; (try dsimp only at hSw); go_split_ands; go_simp; try with_reducible rfl)
     try simp only [List.getElem_toArray, List.getElem_cons_succ, List.getElem_cons_zero, Act.put, List.setIfInBounds_toArray, List.set_cons_zero, List.set_cons_succ]
     refine wpAnyH_take (i := 11) (v := ?_) rfl (by kernel_rfl) (by kernel_rfl) (by kernel_rfl) (fun _ _ _ h => h) (Or.inl ⟨by rfl, ?_⟩) (by assumption) ?_
     rotate_left
     ·(intro w hSw; (try dsimp only at hSw); go_split_ands; go_simp; try with_reducible rfl)
     try simp only [List.getElem_toArray, List.getElem_cons_succ, List.getElem_cons_zero, Act.put, List.setIfInBounds_toArray, List.set_cons_zero, List.set_cons_succ]
     refine wpAnyH_take (i := 12) (v := ?_) rfl (by kernel_rfl) (by kernel_rfl) (by kernel_rfl) (fun _ _ _ h => h) (Or.inl ⟨by rfl, ?_⟩) (by assumption) ?_
     rotate_left
     ·(intro w hSw; (try dsimp only at hSw); go_split_ands; go_simp; try with_reducible rfl)
     try simp only [List.getElem_toArray, List.getElem_cons_succ, List.getElem_cons_zero, Act.put, List.setIfInBounds_toArray, List.set_cons_zero, List.set_cons_succ]
     refine wpAnyH_take (i := 13) (v := ?_) rfl (by kernel_rfl) (by kernel_rfl) (by kernel_rfl) (fun _ _ _ h => h) (Or.inl ⟨by rfl, ?_⟩) (by assumption) ?_
     rotate_left
     ·(intro w hSw; (try dsimp only at hSw); go_split_ands; go_simp; try with_reducible rfl)
     try simp only [List.getElem_toArray, List.getElem_cons_succ, List.getElem_cons_zero, Act.put, List.setIfInBounds_toArray, List.set_cons_zero, List.set_cons_succ]
     refine wpAnyH_take (i := 14) (v := ?_) rfl (by kernel_rfl) (by kernel_rfl) (by kernel_rfl) (fun _ _ _ h => h) (Or.inl ⟨by rfl, ?_⟩) (by assumption) ?_
     rotate_left
     ·(intro w hSw; (try dsimp only at hSw); go_split_ands; go_simp; try with_reducible rfl)
     try simp only [List.getElem_toArray, List.getElem_cons_succ, List.getElem_cons_zero, Act.put, List.setIfInBounds_toArray, List.set_cons_zero, List.set_cons_succ]
     refine wpAnyH_ready (rs := [10]) (by kernel_rfl) (by simp) ?_
     refine (AllReadyH.cons rfl (fun K hK => ?_) AllReadyH.nil)
     go_simp
     refine (allG A1 c1 b _ (HFr.out _ hHeld.2.2).2.1 HX.out.gb (by omega) lb HLA.out.2.1).mono ?_
     rintro e wn ⟨An, cn, rfl, hcn, hCn, hbn⟩
     have HN := Lib.hid (And.intro hcn hCn)
     refine hK.out _ _ ?_ (fun hHeld => ?_)
     ·exact ⟨pw_cell_below hbn hHeld.1, pw_cell_below hbn hHeld.2.1, hHeld.2.2.trans (hbn.mono hHeld.2.2.size)⟩
     clear hK K
     clear hbn hcn hCn
     try simp only [List.getElem_toArray, List.getElem_cons_succ, List.getElem_cons_zero, Act.put, List.setIfInBounds_toArray, List.set_cons_zero, List.set_cons_succ]
     refine wpAnyH_ready (rs := [15]) (by kernel_rfl) (by simp) ?_
     refine (AllReadyH.cons rfl (fun K hK => ?_) AllReadyH.nil)
     go_simp
     refine (hasG An cn lb s _ HN.out.2 HN.out.1 true (decide_eq_true pb)).mono ?_
     rintro e wn ⟨rfl, hbn⟩
     refine hK.out _ _ ?_ (fun hHeld => ?_)
     ·exact ⟨pw_cell_below hbn hHeld.1, pw_cell_below hbn hHeld.2.1, hHeld.2.2.trans (hbn.mono hHeld.2.2.size)⟩
     clear hK K
     have HBn := Lib.hid (HBr.out.trans (hHeld.2.2.mono HBr.out.size))
     clear hbn
     try simp only [List.getElem_toArray, List.getElem_cons_succ, List.getElem_cons_zero, Act.put, List.setIfInBounds_toArray, List.set_cons_zero, List.set_cons_succ]
     refine wpAnyH_take (i := 16) (v := ?_) rfl (by kernel_rfl) (by kernel_rfl) (by kernel_rfl) (fun _ _ _ h => h) (Or.inl ⟨by rfl, ?_⟩) (by assumption) ?_
     rotate_left
     ·(intro w hSw; (try dsimp only at hSw); go_split_ands; go_simp; try with_reducible rfl)
     try simp only [List.getElem_toArray, List.getElem_cons_succ, List.getElem_cons_zero, Act.put, List.setIfInBounds_toArray, List.set_cons_zero, List.set_cons_succ]
     refine wpAnyH_take (i := 17) (v := ?_) rfl (by kernel_rfl) (by kernel_rfl) (by kernel_rfl) (fun _ _ _ h => h) (Or.inl ⟨by rfl, ?_⟩) (by assumption) ?_
     rotate_left
     ·(intro w hSw; (try dsimp only at hSw); go_split_ands; go_simp; try with_reducible rfl)
     try simp only [List.getElem_toArray, List.getElem_cons_succ, List.getElem_cons_zero, Act.put, List.setIfInBounds_toArray, List.set_cons_zero, List.set_cons_succ]
     refine wpAnyH_take (i := 18) (v := ?_) rfl (by kernel_rfl) (by kernel_rfl) (by kernel_rfl) (fun _ _ _ h => h) (Or.inl ⟨by rfl, ?_⟩) (by assumption) ?_
     rotate_left
     ·(intro w hSw; (try dsimp only at hSw); go_split_ands; go_simp; try with_reducible rfl)
     try simp only [List.getElem_toArray, List.getElem_cons_succ, List.getElem_cons_zero, Act.put, List.setIfInBounds_toArray, List.set_cons_zero, List.set_cons_succ]
     refine wpAnyH_take (i := 19) (v := undef) rfl (by kernel_rfl) (by kernel_rfl) (by kernel_rfl) (fun _ _ _ h => h) (Or.inr ⟨by rfl, rfl⟩) (by assumption) ?_
     try simp only [List.getElem_toArray, List.getElem_cons_succ, List.getElem_cons_zero, Act.put, List.setIfInBounds_toArray, List.set_cons_zero, List.set_cons_succ]
     refine wpAnyH_take (i := 20) (v := undef) rfl (by kernel_rfl) (by kernel_rfl) (by kernel_rfl) (fun _ _ _ h => h) (Or.inr ⟨by rfl, rfl⟩) (by assumption) ?_
     try simp only [List.getElem_toArray, List.getElem_cons_succ, List.getElem_cons_zero, Act.put, List.setIfInBounds_toArray, List.set_cons_zero, List.set_cons_succ]
     refine wpAnyH_take (i := 21) (v := undef) rfl (by kernel_rfl) (by kernel_rfl) (by kernel_rfl) (fun _ _ _ h => h) (Or.inr ⟨by rfl, rfl⟩) (by assumption) ?_
     try simp only [List.getElem_toArray, List.getElem_cons_succ, List.getElem_cons_zero, Act.put, List.setIfInBounds_toArray, List.set_cons_zero, List.set_cons_succ]
     refine wpAnyH_take (i := 22) (v := undef) rfl (by kernel_rfl) (by kernel_rfl) (by kernel_rfl) (fun _ _ _ h => h) (Or.inr ⟨by rfl, rfl⟩) (by assumption) ?_
     try simp only [List.getElem_toArray, List.getElem_cons_succ, List.getElem_cons_zero, Act.put, List.setIfInBounds_toArray, List.set_cons_zero, List.set_cons_succ]
     refine wpAnyH_take (i := 23) (v := undef) rfl (by kernel_rfl) (by kernel_rfl) (by kernel_rfl) (fun _ _ _ h => h) (Or.inr ⟨by rfl, rfl⟩) (by assumption) ?_
     try simp only [List.getElem_toArray, List.getElem_cons_succ, List.getElem_cons_zero, Act.put, List.setIfInBounds_toArray, List.set_cons_zero, List.set_cons_succ]
     refine wpAnyH_take (i := 24) (v := undef) rfl (by kernel_rfl) (by kernel_rfl) (by kernel_rfl) (fun _ _ _ h => h) (Or.inr ⟨by rfl, rfl⟩) (by assumption) ?_
     try simp only [List.getElem_toArray, List.getElem_cons_succ, List.getElem_cons_zero, Act.put, List.setIfInBounds_toArray, List.set_cons_zero, List.set_cons_succ]
     refine wpAnyH_take (i := 25) (v := undef) rfl (by kernel_rfl) (by kernel_rfl) (by kernel_rfl) (fun _ _ _ h => h) (Or.inr ⟨by rfl, rfl⟩) (by assumption) ?_
     try simp only [List.getElem_toArray, List.getElem_cons_succ, List.getElem_cons_zero, Act.put, List.setIfInBounds_toArray, List.set_cons_zero, List.set_cons_succ]
     refine wpAnyH_take (i := 26) (v := undef) rfl (by kernel_rfl) (by kernel_rfl) (by kernel_rfl) (fun _ _ _ h => h) (Or.inr ⟨by rfl, rfl⟩) (by assumption) ?_
     try simp only [List.getElem_toArray, List.getElem_cons_succ, List.getElem_cons_zero, Act.put, List.setIfInBounds_toArray, List.set_cons_zero, List.set_cons_succ]
     refine wpAnyH_take (i := 27) (v := ?_) rfl (by kernel_rfl) (by kernel_rfl) (by kernel_rfl) (fun _ _ _ h => h) (Or.inl ⟨by rfl, ?_⟩) (by assumption) ?_
     rotate_left
     ·(intro w hSw; (try dsimp only at hSw); go_split_ands; go_simp; try with_reducible rfl)
     try simp only [List.getElem_toArray, List.getElem_cons_succ, List.getElem_cons_zero, Act.put, List.setIfInBounds_toArray, List.set_cons_zero, List.set_cons_succ]
     refine wpAnyH_done (by kernel_rfl) ?_ _
     go_wp2
     go_roundw
     case rel => exact ⟨i + 1, by go_num, by omega, HBn⟩
     case measure => simp [intOf]; omega
    case neg =>
     have pd : s ∈ ld := (HMM.out.resolve_left pa).resolve_left pb
     refine wp_region_held (S := (fun W => W.cell? (al.add (i * 2)) = some (.int .i64 s.f0) ∧ W.cell? ⟨(al.add (i * 2)).block, (al.add (i * 2)).off + 1, none⟩ = some (.int .i64 s.f1) ∧ Below wr.heap.size wr W)) (by kernel_rfl) ?_
     simp only [List.size_toArray, List.length_cons, List.length_nil, Nat.zero_add, Nat.reduceAdd]
     have hHeld : ((fun W => W.cell? (al.add (i * 2)) = some (.int .i64 s.f0) ∧ W.cell? ⟨(al.add (i * 2)).block, (al.add (i * 2)).off + 1, none⟩ = some (.int .i64 s.f1) ∧ Below wr.heap.size wr W)) wr.drew := ⟨x0, x1, below_drew (Below.refl _ _)⟩
     refine wpAnyH_take (i := 0) (v := ?_) rfl (by kernel_rfl) (by kernel_rfl) (by kernel_rfl) (fun _ _ _ h => h) (Or.inl ⟨by rfl, ?_⟩) (by assumption) ?_
     rotate_left
     ·(intro w hSw; (try dsimp only at hSw); go_split_ands; go_simp; try with_reducible rfl)
     try simp only [List.getElem_toArray, List.getElem_cons_succ, List.getElem_cons_zero, Act.put, List.setIfInBounds_toArray, List.set_cons_zero, List.set_cons_succ]
     refine wpAnyH_take (i := 2) (v := ?_) rfl (by kernel_rfl) (by kernel_rfl) (by kernel_rfl) (fun _ _ _ h => h) (Or.inl ⟨by rfl, ?_⟩) (by assumption) ?_
     rotate_left
     ·(intro w hSw; (try dsimp only at hSw); go_split_ands; go_simp; try with_reducible rfl)
     try simp only [List.getElem_toArray, List.getElem_cons_succ, List.getElem_cons_zero, Act.put, List.setIfInBounds_toArray, List.set_cons_zero, List.set_cons_succ]
     refine wpAnyH_take (i := 3) (v := ?_) rfl (by kernel_rfl) (by kernel_rfl) (by kernel_rfl) (fun _ _ _ h => h) (Or.inl ⟨by rfl, ?_⟩) (by assumption) ?_
     rotate_left
     ·(intro w hSw; (try dsimp only at hSw); go_split_ands; go_simp; try with_reducible rfl)
     try simp only [List.getElem_toArray, List.getElem_cons_succ, List.getElem_cons_zero, Act.put, List.setIfInBounds_toArray, List.set_cons_zero, List.set_cons_succ]
     refine wpAnyH_take (i := 4) (v := ?_) rfl (by kernel_rfl) (by kernel_rfl) (by kernel_rfl) (fun _ _ _ h => h) (Or.inl ⟨by rfl, ?_⟩) (by assumption) ?_
     rotate_left
     ·(intro w hSw; (try dsimp only at hSw); go_split_ands; go_simp; try with_reducible rfl)
     try simp only [List.getElem_toArray, List.getElem_cons_succ, List.getElem_cons_zero, Act.put, List.setIfInBounds_toArray, List.set_cons_zero, List.set_cons_succ]
     refine wpAnyH_take (i := 5) (v := ?_) rfl (by kernel_rfl) (by kernel_rfl) (by kernel_rfl) (fun _ _ _ h => h) (Or.inl ⟨by rfl, ?_⟩) (by assumption) ?_
     rotate_left
     ·(intro w hSw; (try dsimp only at hSw); go_split_ands; go_simp; try with_reducible rfl)
     try simp only [List.getElem_toArray, List.getElem_cons_succ, List.getElem_cons_zero, Act.put, List.setIfInBounds_toArray, List.set_cons_zero, List.set_cons_succ]
     refine wpAnyH_ready (rs := [1]) (by kernel_rfl) (by simp) ?_
     refine (AllReadyH.cons rfl (fun K hK => ?_) AllReadyH.nil)
     go_simp
     refine (allG A0 c0 a _ (HFr.out _ hHeld.2.2).1 HX.out.ga (by omega) la HLA.out.1).mono ?_
     rintro e wn ⟨An, cn, rfl, hcn, hCn, hbn⟩
     have HN := Lib.hid (And.intro hcn hCn)
     refine hK.out _ _ ?_ (fun hHeld => ?_)
     ·exact ⟨pw_cell_below hbn hHeld.1, pw_cell_below hbn hHeld.2.1, hHeld.2.2.trans (hbn.mono hHeld.2.2.size)⟩
     clear hK K
     clear hbn hcn hCn
     try simp only [List.getElem_toArray, List.getElem_cons_succ, List.getElem_cons_zero, Act.put, List.setIfInBounds_toArray, List.set_cons_zero, List.set_cons_succ]
     refine wpAnyH_ready (rs := [6]) (by kernel_rfl) (by simp) ?_
     refine (AllReadyH.cons rfl (fun K hK => ?_) AllReadyH.nil)
     go_simp
     refine (hasG An cn la s _ HN.out.2 HN.out.1 false (decide_eq_false pa)).mono ?_
     rintro e wn ⟨rfl, hbn⟩
     refine hK.out _ _ ?_ (fun hHeld => ?_)
     ·exact ⟨pw_cell_below hbn hHeld.1, pw_cell_below hbn hHeld.2.1, hHeld.2.2.trans (hbn.mono hHeld.2.2.size)⟩
     clear hK K
     clear hbn
     try simp only [List.getElem_toArray, List.getElem_cons_succ, List.getElem_cons_zero, Act.put, List.setIfInBounds_toArray, List.set_cons_zero, List.set_cons_succ]
     refine wpAnyH_take (i := 7) (v := ?_) rfl (by kernel_rfl) (by kernel_rfl) (by kernel_rfl) (fun _ _ _ h => h) (Or.inl ⟨by rfl, ?_⟩) (by assumption) ?_
     rotate_left
     ·(intro w hSw; (try dsimp only at hSw); go_split_ands; go_simp; try with_reducible rfl)
     try simp only [List.getElem_toArray, List.getElem_cons_succ, List.getElem_cons_zero, Act.put, List.setIfInBounds_toArray, List.set_cons_zero, List.set_cons_succ]
     refine wpAnyH_take (i := 8) (v := ?_) rfl (by kernel_rfl) (by kernel_rfl) (by kernel_rfl) (fun _ _ _ h => h) (Or.inl ⟨by rfl, ?_⟩) (by assumption) ?_
     rotate_left
     ·(intro w hSw; (try dsimp only at hSw); go_split_ands; go_simp; try with_reducible rfl)
     try simp only [List.getElem_toArray, List.getElem_cons_succ, List.getElem_cons_zero, Act.put, List.setIfInBounds_toArray, List.set_cons_zero, List.set_cons_succ]
     refine wpAnyH_take (i := 9) (v := ?_) rfl (by kernel_rfl) (by kernel_rfl) (by kernel_rfl) (fun _ _ _ h => h) (Or.inl ⟨by rfl, ?_⟩) (by assumption) ?_
     rotate_left
     ·(intro w hSw; (try dsimp only at hSw); go_split_ands; go_simp; try with_reducible rfl)
     try simp only [List.getElem_toArray, List.getElem_cons_succ, List.getElem_cons_zero, Act.put, List.setIfInBounds_toArray, List.set_cons_zero, List.set_cons_succ]
     refine wpAnyH_take (i := 11) (v := ?_) rfl (by kernel_rfl) (by kernel_rfl) (by kernel_rfl) (fun _ _ _ h => h) (Or.inl ⟨by rfl, ?_⟩) (by assumption) ?_
     rotate_left
     ·(intro w hSw; (try dsimp only at hSw); go_split_ands; go_simp; try with_reducible rfl)
     try simp only [List.getElem_toArray, List.getElem_cons_succ, List.getElem_cons_zero, Act.put, List.setIfInBounds_toArray, List.set_cons_zero, List.set_cons_succ]
     refine wpAnyH_take (i := 12) (v := ?_) rfl (by kernel_rfl) (by kernel_rfl) (by kernel_rfl) (fun _ _ _ h => h) (Or.inl ⟨by rfl, ?_⟩) (by assumption) ?_
     rotate_left
     ·(intro w hSw; (try dsimp only at hSw); go_split_ands; go_simp; try with_reducible rfl)
     try simp only [List.getElem_toArray, List.getElem_cons_succ, List.getElem_cons_zero, Act.put, List.setIfInBounds_toArray, List.set_cons_zero, List.set_cons_succ]
     refine wpAnyH_take (i := 13) (v := ?_) rfl (by kernel_rfl) (by kernel_rfl) (by kernel_rfl) (fun _ _ _ h => h) (Or.inl ⟨by rfl, ?_⟩) (by assumption) ?_
     rotate_left
     ·(intro w hSw; (try dsimp only at hSw); go_split_ands; go_simp; try with_reducible rfl)
     try simp only [List.getElem_toArray, List.getElem_cons_succ, List.getElem_cons_zero, Act.put, List.setIfInBounds_toArray, List.set_cons_zero, List.set_cons_succ]
     refine wpAnyH_take (i := 14) (v := ?_) rfl (by kernel_rfl) (by kernel_rfl) (by kernel_rfl) (fun _ _ _ h => h) (Or.inl ⟨by rfl, ?_⟩) (by assumption) ?_
     rotate_left
     ·(intro w hSw; (try dsimp only at hSw); go_split_ands; go_simp; try with_reducible rfl)
     try simp only [List.getElem_toArray, List.getElem_cons_succ, List.getElem_cons_zero, Act.put, List.setIfInBounds_toArray, List.set_cons_zero, List.set_cons_succ]
     refine wpAnyH_ready (rs := [10]) (by kernel_rfl) (by simp) ?_
     refine (AllReadyH.cons rfl (fun K hK => ?_) AllReadyH.nil)
     go_simp
     refine (allG A1 c1 b _ (HFr.out _ hHeld.2.2).2.1 HX.out.gb (by omega) lb HLA.out.2.1).mono ?_
     rintro e wn ⟨An, cn, rfl, hcn, hCn, hbn⟩
     have HN := Lib.hid (And.intro hcn hCn)
     refine hK.out _ _ ?_ (fun hHeld => ?_)
     ·exact ⟨pw_cell_below hbn hHeld.1, pw_cell_below hbn hHeld.2.1, hHeld.2.2.trans (hbn.mono hHeld.2.2.size)⟩
     clear hK K
     clear hbn hcn hCn
     try simp only [List.getElem_toArray, List.getElem_cons_succ, List.getElem_cons_zero, Act.put, List.setIfInBounds_toArray, List.set_cons_zero, List.set_cons_succ]
     refine wpAnyH_ready (rs := [15]) (by kernel_rfl) (by simp) ?_
     refine (AllReadyH.cons rfl (fun K hK => ?_) AllReadyH.nil)
     go_simp
     refine (hasG An cn lb s _ HN.out.2 HN.out.1 false (decide_eq_false pb)).mono ?_
     rintro e wn ⟨rfl, hbn⟩
     refine hK.out _ _ ?_ (fun hHeld => ?_)
     ·exact ⟨pw_cell_below hbn hHeld.1, pw_cell_below hbn hHeld.2.1, hHeld.2.2.trans (hbn.mono hHeld.2.2.size)⟩
     clear hK K
     clear hbn
     try simp only [List.getElem_toArray, List.getElem_cons_succ, List.getElem_cons_zero, Act.put, List.setIfInBounds_toArray, List.set_cons_zero, List.set_cons_succ]
     refine wpAnyH_take (i := 16) (v := ?_) rfl (by kernel_rfl) (by kernel_rfl) (by kernel_rfl) (fun _ _ _ h => h) (Or.inl ⟨by rfl, ?_⟩) (by assumption) ?_
     rotate_left
     ·(intro w hSw; (try dsimp only at hSw); go_split_ands; go_simp; try with_reducible rfl)
     try simp only [List.getElem_toArray, List.getElem_cons_succ, List.getElem_cons_zero, Act.put, List.setIfInBounds_toArray, List.set_cons_zero, List.set_cons_succ]
     refine wpAnyH_take (i := 17) (v := ?_) rfl (by kernel_rfl) (by kernel_rfl) (by kernel_rfl) (fun _ _ _ h => h) (Or.inl ⟨by rfl, ?_⟩) (by assumption) ?_
     rotate_left
     ·(intro w hSw; (try dsimp only at hSw); go_split_ands; go_simp; try with_reducible rfl)
     try simp only [List.getElem_toArray, List.getElem_cons_succ, List.getElem_cons_zero, Act.put, List.setIfInBounds_toArray, List.set_cons_zero, List.set_cons_succ]
     refine wpAnyH_take (i := 18) (v := ?_) rfl (by kernel_rfl) (by kernel_rfl) (by kernel_rfl) (fun _ _ _ h => h) (Or.inl ⟨by rfl, ?_⟩) (by assumption) ?_
     rotate_left
     ·(intro w hSw; (try dsimp only at hSw); go_split_ands; go_simp; try with_reducible rfl)
     try simp only [List.getElem_toArray, List.getElem_cons_succ, List.getElem_cons_zero, Act.put, List.setIfInBounds_toArray, List.set_cons_zero, List.set_cons_succ]
     refine wpAnyH_take (i := 19) (v := ?_) rfl (by kernel_rfl) (by kernel_rfl) (by kernel_rfl) (fun _ _ _ h => h) (Or.inl ⟨by rfl, ?_⟩) (by assumption) ?_
     rotate_left
     ·(intro w hSw; (try dsimp only at hSw); go_split_ands; go_simp; try with_reducible rfl)
     try simp only [List.getElem_toArray, List.getElem_cons_succ, List.getElem_cons_zero, Act.put, List.setIfInBounds_toArray, List.set_cons_zero, List.set_cons_succ]
     refine wpAnyH_take (i := 21) (v := ?_) rfl (by kernel_rfl) (by kernel_rfl) (by kernel_rfl) (fun _ _ _ h => h) (Or.inl ⟨by rfl, ?_⟩) (by assumption) ?_
     rotate_left
     ·(intro w hSw; (try dsimp only at hSw); go_split_ands; go_simp; try with_reducible rfl)
     try simp only [List.getElem_toArray, List.getElem_cons_succ, List.getElem_cons_zero, Act.put, List.setIfInBounds_toArray, List.set_cons_zero, List.set_cons_succ]
     refine wpAnyH_take (i := 22) (v := ?_) rfl (by kernel_rfl) (by kernel_rfl) (by kernel_rfl) (fun _ _ _ h => h) (Or.inl ⟨by rfl, ?_⟩) (by assumption) ?_
     rotate_left
     ·(intro w hSw; (try dsimp only at hSw); go_split_ands; go_simp; try with_reducible rfl)
     try simp only [List.getElem_toArray, List.getElem_cons_succ, List.getElem_cons_zero, Act.put, List.setIfInBounds_toArray, List.set_cons_zero, List.set_cons_succ]
     refine wpAnyH_take (i := 23) (v := ?_) rfl (by kernel_rfl) (by kernel_rfl) (by kernel_rfl) (fun _ _ _ h => h) (Or.inl ⟨by rfl, ?_⟩) (by assumption) ?_
     rotate_left
     ·(intro w hSw; (try dsimp only at hSw); go_split_ands; go_simp; try with_reducible rfl)
     try simp only [List.getElem_toArray, List.getElem_cons_succ, List.getElem_cons_zero, Act.put, List.setIfInBounds_toArray, List.set_cons_zero, List.set_cons_succ]
     refine wpAnyH_take (i := 24) (v := ?_) rfl (by kernel_rfl) (by kernel_rfl) (by kernel_rfl) (fun _ _ _ h => h) (Or.inl ⟨by rfl, ?_⟩) (by assumption) ?_
     rotate_left
     ·(intro w hSw; (try dsimp only at hSw); go_split_ands; go_simp; try with_reducible rfl)
     try simp only [List.getElem_toArray, List.getElem_cons_succ, List.getElem_cons_zero, Act.put, List.setIfInBounds_toArray, List.set_cons_zero, List.set_cons_succ]
     refine wpAnyH_ready (rs := [20]) (by kernel_rfl) (by simp) ?_
     refine (AllReadyH.cons rfl (fun K hK => ?_) AllReadyH.nil)
     go_simp
     refine (allG A2 c2 d _ (HFr.out _ hHeld.2.2).2.2 HX.out.gc (by omega) ld HLA.out.2.2).mono ?_
     rintro e wn ⟨An, cn, rfl, hcn, hCn, hbn⟩
     have HN := Lib.hid (And.intro hcn hCn)
     refine hK.out _ _ ?_ (fun hHeld => ?_)
     ·exact ⟨pw_cell_below hbn hHeld.1, pw_cell_below hbn hHeld.2.1, hHeld.2.2.trans (hbn.mono hHeld.2.2.size)⟩
     clear hK K
     clear hbn hcn hCn
     try simp only [List.getElem_toArray, List.getElem_cons_succ, List.getElem_cons_zero, Act.put, List.setIfInBounds_toArray, List.set_cons_zero, List.set_cons_succ]
     refine wpAnyH_ready (rs := [25]) (by kernel_rfl) (by simp) ?_
     refine (AllReadyH.cons rfl (fun K hK => ?_) AllReadyH.nil)
     go_simp
     refine (hasG An cn ld s _ HN.out.2 HN.out.1 true (decide_eq_true pd)).mono ?_
     rintro e wn ⟨rfl, hbn⟩
     refine hK.out _ _ ?_ (fun hHeld => ?_)
     ·exact ⟨pw_cell_below hbn hHeld.1, pw_cell_below hbn hHeld.2.1, hHeld.2.2.trans (hbn.mono hHeld.2.2.size)⟩
     clear hK K
     have HBn := Lib.hid (HBr.out.trans (hHeld.2.2.mono HBr.out.size))
     clear hbn
     try simp only [List.getElem_toArray, List.getElem_cons_succ, List.getElem_cons_zero, Act.put, List.setIfInBounds_toArray, List.set_cons_zero, List.set_cons_succ]
     refine wpAnyH_take (i := 26) (v := ?_) rfl (by kernel_rfl) (by kernel_rfl) (by kernel_rfl) (fun _ _ _ h => h) (Or.inl ⟨by rfl, ?_⟩) (by assumption) ?_
     rotate_left
     ·(intro w hSw; (try dsimp only at hSw); go_split_ands; go_simp; try with_reducible rfl)
     try simp only [List.getElem_toArray, List.getElem_cons_succ, List.getElem_cons_zero, Act.put, List.setIfInBounds_toArray, List.set_cons_zero, List.set_cons_succ]
     refine wpAnyH_take (i := 27) (v := ?_) rfl (by kernel_rfl) (by kernel_rfl) (by kernel_rfl) (fun _ _ _ h => h) (Or.inl ⟨by rfl, ?_⟩) (by assumption) ?_
     rotate_left
     ·(intro w hSw; (try dsimp only at hSw); go_split_ands; go_simp; try with_reducible rfl)
     try simp only [List.getElem_toArray, List.getElem_cons_succ, List.getElem_cons_zero, Act.put, List.setIfInBounds_toArray, List.set_cons_zero, List.set_cons_succ]
     refine wpAnyH_done (by kernel_rfl) ?_ _
     go_wp2
     go_roundw
     case rel => exact ⟨i + 1, by go_num, by omega, HBn⟩
     case measure => simp [intOf]; omega
  ·obtain rfl : i = l.length := by omega
   have hb0 := HBr.out
   have HXr := Lib.hid (And.intro (HXd.out.1.below hb0) (And.intro (HXd.out.2.1.below hb0) (And.intro (HXd.out.2.2.1.below hb0) (Kd.C_below HXd.out.2.2.2 hb0))))
   have HBk := Lib.hid (HBk.out.trans (hb0.mono HBk.out.size))
   clear hb0
   obtain ⟨z, hz⟩ : ∃ z, mapD (fun q => q.filter fun x => !decide (x ∈ l)) x = z := ⟨_, rfl⟩
   have HZ := Lib.hid hz
   clear hz
   go_wp2_with fail
   refine (sameG Ax cx Az cz x _ HXr.out.1 HXr.out.2.1 HX.out.good (by omega)).mono ?_
   rintro e we ⟨rfl, hb⟩
   have HXe := Lib.hid (And.intro (HXr.out.1.below hb) (And.intro (HXr.out.2.2.1.below hb) (Kd.C_below HXr.out.2.2.2 hb)))
   have HBk := Lib.hid (HBk.out.trans (hb.mono HBk.out.size))
   clear hb
   go_wp2_with fail
   refine (sameG Ax cx Av cv x _ HXe.out.1 HXe.out.2.1 HX.out.good (by omega)).mono ?_
   rintro e wf ⟨rfl, hb⟩
   have HXf := Lib.hid (And.intro (HXe.out.1.below hb) (Kd.C_below HXe.out.2.2 hb))
   have HBk := Lib.hid (HBk.out.trans (hb.mono HBk.out.size))
   clear hb
   go_wp2_with fail
   refine (dchkG Ax cx x _ HXf.out.1 (HX.out.good.mono (by have := HX.out.good.all; omega))).mono ?_
   rintro e wg ⟨rfl, hb⟩
   have HXg := Lib.hid (And.intro (HXf.out.1.below hb) (Kd.C_below HXf.out.2 hb))
   have HBk := Lib.hid (HBk.out.trans (hb.mono HBk.out.size))
   clear hb
   go_wp2_with fail
   refine (numC 0 _).mono ?_
   rintro e wh ⟨rfl, hb⟩
   have HXh := Lib.hid (And.intro (HXg.out.1.below hb) (Kd.C_below HXg.out.2 hb))
   have HBk := Lib.hid (HBk.out.trans (hb.mono HBk.out.size))
   clear hb
   go_wp2_with fail
   refine (withoutG Ax cx x Al cl l _ HXh.out.1 HXh.out.2 hlc HX.out.good (by omega) z HZ.out).mono ?_
   rintro e wi ⟨Ai, ci, rfl, hI, hb⟩
   have HXi := Lib.hid (And.intro (HXh.out.1.below hb) hI)
   have HBk := Lib.hid (HBk.out.trans (hb.mono HBk.out.size))
   clear hb
   clear hI
   go_wp2_with fail
   refine (merge2 _ Ai ci z Ax cx x x HXi.out.2 HXi.out.1 (by rw [← HZ.out]; exact HX.out.good.map _) HX.out.good (by omega) (by rw [← HZ.out]; exact HX.out.back _)).mono ?_
   rintro e wj ⟨Aj, cj, rfl, hJ, hb⟩
   have HXj := Lib.hid (And.intro (HXi.out.1.below hb) hJ)
   have HBk := Lib.hid (HBk.out.trans (hb.mono HBk.out.size))
   clear hb
   clear hJ
   go_wp2_with fail
   refine (same6G Aj cj Ax cx x _ HXj.out.2 HXj.out.1 HX.out.good (by omega)).mono ?_
   rintro e wk ⟨rfl, hb⟩
   have HBk := Lib.hid (HBk.out.trans (hb.mono HBk.out.size))
   clear hb
   go_wp2_with fail
   refine (live6_any _).mono ?_
   rintro e wl ⟨rfl, hbl⟩
   have HBl := Lib.hid (HB1.out.trans ((HBk.out.trans (hbl.mono HBk.out.size)).mono HB1.out.size))
   clear hbl
   go_wp2
   go_ret
   exact ⟨rfl, HBl.out⟩
theorem depsMerged_any (A0 : Option Addr) (c0 : Nat) (a : List S26) (A1 : Option Addr) (c1 : Nat) (b : List S26) (A2 : Option Addr) (c2 : Nat) (d : List S26) (s0 s1 : Int) (w : World) (C0 : Kd.C k26 w A0 a.length a) (l0 : a.length ≤ c0) (C1 : Kd.C k26 w A1 b.length b) (l1 : b.length ≤ c1) (C2 : Kd.C k26 w A2 d.length d) (l2 : d.length ≤ c2)
  (pa : a.length ≤ 9223372036854775807 ∧ ∀ s ∈ a, s.f1.length ≤ 9223372036854775807) (pb : b.length ≤ 9223372036854775807 ∧ ∀ s ∈ b, s.f1.length ≤ 9223372036854775807) (pd : d.length ≤ 9223372036854775807 ∧ ∀ s ∈ d, s.f1.length ≤ 9223372036854775807) :
  Calls Tryz.prog 6 #[.slice A0 a.length c0, .slice A1 b.length c1, .slice A2 d.length c2, .agg #[.int .i64 s0, .int .i64 s1]] w fun e w' => e = .returned (.bool true) ∧ Below w.heap.size w w' :=
 merged_any A0 c0 a A1 c1 b A2 c2 d s0 s1 w ⟨l0, C0⟩ ⟨l1, C1⟩ ⟨l2, C2⟩ pa pb pd
end Go.Proofs.YtaedlmeaconflaaGreat.P
end
