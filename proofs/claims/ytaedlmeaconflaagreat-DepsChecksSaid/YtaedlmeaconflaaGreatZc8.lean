/- what the claim's row stands on, part 8. -/
import Derived.Test.YtaedlmeaconflaaGreatZc7
import Derived.Test.YtaedlmeaconflaaGreatZc3
import Derived.Test.YtaedlmeaconflaaGreatZc5
section
set_option linter.unusedVariables false
set_option linter.unusedSimpArgs false
namespace Go.Proofs.YtaedlmeaconflaaGreat.P
open Go.RowKit Go.Sort Go.Shelf Go.Proofs.YtaedlmeaconflaaGreatW.PrintWords Go.Proofs.YtaedlmeaconflaaGreatW.PrintLast Go.Proofs.YtaedlmeaconflaaGreatW.PrintMore
theorem C_newS (W : World) (x y : Int) : Kd.C k41 (W.alloc (.cells #[.int .i64 x, .int .i64 y] 41)) (some ⟨W.heap.size, 0, none⟩) [(⟨x, y⟩ : S41)].length [(⟨x, y⟩ : S41)] := by
 have h : RowS (W.alloc (.cells #[.int .i64 x, .int .i64 y] 41)) 0 (.slice (some ⟨W.heap.size, 0, none⟩) 1 1) [⟨x, y⟩] :=
  ⟨rfl, .inr ⟨W.heap.size, 1, #[.int .i64 x, .int .i64 y], rfl, Nat.zero_le _, heap_alloc_new W _, Nat.le_refl _, by decide, rfl, rfl⟩⟩
 obtain ⟨A, c, e, _, hC⟩ := Kd.R_reads (RowS.R h)
 injection e with e _ _
 rw [e]
 exact hC
theorem C_newD {W : World} {n : Int} {v : Value} {b : Nat} {xs : List S41} (hv : RowS W b v xs) : Kd.C k26 (W.alloc (.cells #[.int .i64 n, v] 26)) (some ⟨W.heap.size, 0, none⟩) [(⟨n, xs⟩ : S26)].length [(⟨n, xs⟩ : S26)] := by
 obtain ⟨A, c, rfl, hc, hC⟩ := Kd.R_reads (RowS.R hv)
 have hB := Blk.new W 26 #[.int .i64 n, .slice A xs.length c]
 refine ⟨rfl, by simp, fun _ => ⟨_, rfl, fun j p hj => ⟨[.int .i64 n, .slice A xs.length c], rfl, ?_, fun i u hu => ?_⟩⟩⟩
 ·rcases j with _ | j
  ·simp only [List.getElem?_cons_zero, Option.some.injEq] at hj
   subst hj
   exact k26_mk _ _ hc (Kd.C_alloc hC _)
  ·simp at hj
 ·rcases j with _ | j
  ·have := hB.cell i
   rw [show (⟨W.heap.size, 0, none⟩ : Addr).add (0 * k26.sz + i) = ⟨W.heap.size, i, none⟩ by rw [Nat.zero_mul, Nat.zero_add, add_plain]]
   rw [this]
   simpa using hu
  ·simp at hj
theorem C_newS1 (W : World) (o : Obj) (x y : Int) : Kd.C k41 ((W.alloc o).alloc (.cells #[.int .i64 x, .int .i64 y] 41)) (some ⟨W.heap.size + 1, 0, none⟩) [(⟨x, y⟩ : S41)].length [(⟨x, y⟩ : S41)] := by
 have := C_newS (W.alloc o) x y
 rwa [show (W.alloc o).heap.size = W.heap.size + 1 by simp] at this
theorem C_newS2 (W : World) (o o2 : Obj) (x y : Int) : Kd.C k41 (((W.alloc o).alloc o2).alloc (.cells #[.int .i64 x, .int .i64 y] 41)) (some ⟨W.heap.size + 2, 0, none⟩) [(⟨x, y⟩ : S41)].length [(⟨x, y⟩ : S41)] := by
 have := C_newS ((W.alloc o).alloc o2) x y
 rwa [show ((W.alloc o).alloc o2).heap.size = W.heap.size + 2 by simp] at this
theorem makeC (n : Int) (b : Nat) (x : S41) (w : World) (hr : Kd.C k41 w (some ⟨b, 0, none⟩) [x].length [x]) :
  Calls Tryz.prog 29 #[.int .i64 n, .slice (some ⟨b, 0, none⟩) 1 1] w fun e w' => ∃ b', e = .returned (.slice (some ⟨b', 0, none⟩) 1 1) ∧ Kd.C k26 w' (some ⟨b', 0, none⟩) [(⟨n, setS [x]⟩ : S26)].length [(⟨n, setS [x]⟩ : S26)] ∧ Below w.heap.size w w' :=
 (make_any n (some ⟨b, 0, none⟩) 1 [x] w hr (by simp)).mono fun e w' ⟨w2, v, he, hw, ho, hb⟩ => ⟨_, he, by rw [hw]; exact C_newD ho, by rw [hw]; exact hb.alloc hb.size _⟩
def xS : S41 := ⟨1, 1⟩
def yS : S41 := ⟨2, 1⟩
def dL : List S26 := [⟨0, setS [xS]⟩, ⟨0, setS [yS]⟩, ⟨1, setS [xS]⟩]
def dR : List S26 := [⟨0, [xS, yS]⟩, ⟨1, [xS]⟩]
theorem mergeD_dL : mergeD dL = dR := by
 have h1 : Asc [xS] := by decide
 have h2 : Asc [yS] := by decide
 have h3 : Asc [xS, yS] := by decide
 have hb : ∀ d ∈ dL, 0 ≤ d.f0 ∧ d.f0 ≤ 1000 := by unfold dL; simp
 have e0 : setS (idsOf dL 0) = [xS, yS] := by
  have : idsOf dL 0 = [xS, yS] := by unfold dL idsOf; rw [setS_self h1, setS_self h2]; rfl
  rw [this, setS_self h3]
 have e1 : setS (idsOf dL 1) = [xS] := by
  have : idsOf dL 1 = [xS] := by unfold dL idsOf; rw [setS_self h1, setS_self h2]; rfl
  rw [this, setS_self h1]
 refine rise_extD (mergeD_rise dL) (by unfold dR; simp) fun e => ?_
 rw [mergeD_mem dL hb]
 have hd : (∃ d ∈ dL, d.f0 = e.f0) ↔ e.f0 = 0 ∨ e.f0 = 1 := by unfold dL; simp; omega
 have hr : e ∈ dR ↔ e = ⟨0, [xS, yS]⟩ ∨ e = ⟨1, [xS]⟩ := by unfold dR; simp
 rw [hd, hr]
 constructor
 ·rintro ⟨h | h, k⟩
  ·exact .inl (D_eq h (by rw [k, h, e0]))
  ·exact .inr (D_eq h (by rw [k, h, e1]))
 ·rintro (rfl | rfl)
  ·exact ⟨.inl rfl, e0.symm⟩
  ·exact ⟨.inr rfl, e1.symm⟩
theorem mergeC (W : World) (b1 b2 b3 : Nat) (h1 : Kd.C k26 W (some ⟨b1, 0, none⟩) [(⟨0, setS [xS]⟩ : S26)].length [(⟨0, setS [xS]⟩ : S26)]) (h2 : Kd.C k26 W (some ⟨b2, 0, none⟩) [(⟨0, setS [yS]⟩ : S26)].length [(⟨0, setS [yS]⟩ : S26)]) (h3 : Kd.C k26 W (some ⟨b3, 0, none⟩) [(⟨1, setS [xS]⟩ : S26)].length [(⟨1, setS [xS]⟩ : S26)]) :
  Calls Tryz.prog 25 #[.slice (some ⟨W.heap.size, 0, none⟩) 3 3] (W.alloc (.cells #[.slice (some ⟨b1, 0, none⟩) 1 1, .slice (some ⟨b2, 0, none⟩) 1 1, .slice (some ⟨b3, 0, none⟩) 1 1] 22)) fun e w' => ∃ A c, e = .returned (.slice A dR.length c) ∧ dR.length ≤ c ∧ Kd.C k26 w' A dR.length dR ∧ Below W.heap.size W w' := by
 have hB := Blk.new W 22 #[.slice (some ⟨b1, 0, none⟩) 1 1, .slice (some ⟨b2, 0, none⟩) 1 1, .slice (some ⟨b3, 0, none⟩) 1 1]
 have hlt := hB.lt
 generalize hw : W.alloc (.cells #[.slice (some ⟨b1, 0, none⟩) 1 1, .slice (some ⟨b2, 0, none⟩) 1 1, .slice (some ⟨b3, 0, none⟩) 1 1] 22) = w1 at *
 have hb1 : Below W.heap.size W w1 := hw ▸ (Below.refl _ _).alloc (Nat.le_refl _) _
 have hC : Kd.C kDs w1 (some ⟨W.heap.size, 0, none⟩) [[(⟨0, setS [xS]⟩ : S26)], [⟨0, setS [yS]⟩], [⟨1, setS [xS]⟩]].length [[(⟨0, setS [xS]⟩ : S26)], [⟨0, setS [yS]⟩], [⟨1, setS [xS]⟩]] := by
  refine ⟨rfl, by simp, fun _ => ⟨_, rfl, fun j p hj => ?_⟩⟩
  have hc : ∀ i : Nat, w1.cell? ((⟨W.heap.size, 0, none⟩ : Addr).add (i * 1 + 0)) = (#[.slice (some ⟨b1, 0, none⟩) 1 1, .slice (some ⟨b2, 0, none⟩) 1 1, .slice (some ⟨b3, 0, none⟩) 1 1] : Array Value)[i]? := fun i => by
   rw [Nat.mul_one, Nat.add_zero, add_plain]; exact hB.cell i
  rcases j with _ | _ | _ | j
  ·simp only [List.getElem?_cons_zero, Option.some.injEq] at hj
   subst hj
   refine ⟨[.slice (some ⟨b1, 0, none⟩) 1 1], rfl, ⟨_, _, rfl, by simp, Kd.C_below h1 hb1⟩, fun i u hu => ?_⟩
   rcases i with _ | i
   ·exact (hc 0).trans (by simpa using hu)
   ·simp at hu
  ·simp only [List.getElem?_cons_succ, List.getElem?_cons_zero, Option.some.injEq] at hj
   subst hj
   refine ⟨[.slice (some ⟨b2, 0, none⟩) 1 1], rfl, ⟨_, _, rfl, by simp, Kd.C_below h2 hb1⟩, fun i u hu => ?_⟩
   rcases i with _ | i
   ·exact (hc 1).trans (by simpa using hu)
   ·simp at hu
  ·simp only [List.getElem?_cons_succ, List.getElem?_cons_zero, Option.some.injEq] at hj
   subst hj
   refine ⟨[.slice (some ⟨b3, 0, none⟩) 1 1], rfl, ⟨_, _, rfl, by simp, Kd.C_below h3 hb1⟩, fun i u hu => ?_⟩
   rcases i with _ | i
   ·exact (hc 2).trans (by simpa using hu)
   ·simp at hu
  ·simp at hj
 have hlen : ∀ x : S41, (setS [x]).length ≤ 1 := fun x => setS_len [x]
 have h := merge_any (some ⟨W.heap.size, 0, none⟩) 3 [[(⟨0, setS [xS]⟩ : S26)], [⟨0, setS [yS]⟩], [⟨1, setS [xS]⟩]] w1 hC (by
  intro d hd
  simp at hd
  rcases hd with rfl | rfl | rfl <;> simp) (by simp) (by
  have h1 := hlen xS; have h2 := hlen yS
  simp; omega)
 refine h.mono fun e w' ⟨v, he, hS, hb⟩ => ?_
 obtain ⟨A, c, rfl⟩ := Kd.S_slice hS
 obtain ⟨_, hc, hC2⟩ := Kd.S_reads' hS
 have e2 : mergeD [[(⟨0, setS [xS]⟩ : S26)], [⟨0, setS [yS]⟩], [⟨1, setS [xS]⟩]].flatten = dR := mergeD_dL
 rw [e2] at he hc hC2
 exact ⟨A, c, he, hc, hC2, hb1.trans (hb.mono hb1.size)⟩
def LiveR (w1 : World) (v3 : Value) (W : World) : Prop := ∃ A c, v3 = .slice A dR.length c ∧ dR.length ≤ c ∧ Kd.C k26 W A dR.length dR ∧ Below w1.heap.size w1 W
def bR : List Int := laidDeps dR
theorem bR_all : pAll bR = (dR, ([], false)) := by decide +kernel
theorem putC (A : Option Addr) (c : Nat) (W : World) (hr : Kd.C k26 W A dR.length dR) : Calls Tryz.prog 15 #[.slice A dR.length c] W fun e w' => ∃ A' c', e = .returned (.slice A' bR.length c') ∧ bR.length ≤ c' ∧ Kd.C (Kd.int .u8) w' A' bR.length bR ∧ Below W.heap.size W w' :=
 (put_any A c dR W hr (by decide +kernel) (by decide)).mono fun e w' ⟨v, he, ho, hb⟩ => by
  obtain ⟨A9, c9, e9, hc9, hC9⟩ := Kd.R_reads (Kd.R_of_own ho (fun _ _ => trivial) : Kd.R (Kd.int .u8) 5 w' W.heap.size (fun _ => True) v (laidDeps dR))
  exact ⟨A9, c9, by rw [he, e9]; rfl, hc9, hC9, hb⟩
theorem chk_dR : deps_Check.f 20 dR = some 0 := by decide +kernel
theorem parseC (A : Option Addr) (c : Nat) (W : World) (hr : Kd.C (Kd.int .u8) W A bR.length bR) (hc : bR.length ≤ c) : Calls Tryz.prog 9 #[.slice A bR.length c] W fun e w' => ∃ A' c', e = .returned (.tuple #[.slice A' dR.length c', .int .i64 0]) ∧ dR.length ≤ c' ∧ Kd.C k26 w' A' dR.length dR ∧ Below W.heap.size W w' := by
 have h := parse_any A c bR W hr hc (by unfold bytesOk; decide +kernel) (by decide +kernel) 20 0 (by rw [bR_all]; exact chk_dR) (by rw [bR_all]; decide +kernel)
 have hif : okDone (pAll bR).2 = true ∧ (0 : Int) = 0 ∧ laidDeps (pAll bR).1 = bR := by rw [bR_all]; exact ⟨rfl, rfl, rfl⟩
 rw [if_pos hif, if_pos hif, bR_all] at h
 refine h.mono fun e w' ⟨v, he, hS, hb⟩ => ?_
 obtain ⟨A', c', rfl⟩ := Kd.S_slice hS
 obtain ⟨_, hc2, hC2⟩ := Kd.S_reads' hS
 exact ⟨A', c', he, hc2, hC2, hb⟩
theorem C_two (W : World) : Kd.C k41 (W.alloc (.cells #[.int .i64 1, .int .i64 1, .int .i64 2, .int .i64 1] 41)) (some ⟨W.heap.size, 0, none⟩) [xS, yS].length [xS, yS] := by
 have h : RowS (W.alloc (.cells #[.int .i64 1, .int .i64 1, .int .i64 2, .int .i64 1] 41)) 0 (.slice (some ⟨W.heap.size, 0, none⟩) 2 2) [xS, yS] :=
  ⟨rfl, .inr ⟨W.heap.size, 2, #[.int .i64 1, .int .i64 1, .int .i64 2, .int .i64 1], rfl, Nat.zero_le _, heap_alloc_new W _, Nat.le_refl _, by decide, rfl, rfl⟩⟩
 obtain ⟨A, c, e, _, hC⟩ := Kd.R_reads (RowS.R h)
 injection e with e _ _
 rw [e]
 exact hC
theorem C_two1 (W : World) (o : Obj) : Kd.C k41 ((W.alloc o).alloc (.cells #[.int .i64 1, .int .i64 1, .int .i64 2, .int .i64 1] 41)) (some ⟨W.heap.size + 1, 0, none⟩) [xS, yS].length [xS, yS] := by
 have := C_two (W.alloc o)
 rwa [show (W.alloc o).heap.size = W.heap.size + 1 by simp] at this
theorem C_lit (W : World) (b1 b2 : Nat) (h1 : Kd.C k41 W (some ⟨b1, 0, none⟩) [xS, yS].length [xS, yS]) (h2 : Kd.C k41 W (some ⟨b2, 0, none⟩) [xS].length [xS]) :
  Kd.C k26 (W.alloc (.cells #[.int .i64 0, .slice (some ⟨b1, 0, none⟩) 2 2, .int .i64 1, .slice (some ⟨b2, 0, none⟩) 1 1] 26)) (some ⟨W.heap.size, 0, none⟩) dR.length dR := by
 have hB := Blk.new W 26 #[.int .i64 0, .slice (some ⟨b1, 0, none⟩) 2 2, .int .i64 1, .slice (some ⟨b2, 0, none⟩) 1 1]
 refine ⟨rfl, by decide, fun _ => ⟨_, rfl, fun j p hj => ?_⟩⟩
 rcases j with _ | _ | j
 ·simp only [dR, List.getElem?_cons_zero, Option.some.injEq] at hj
  subst hj
  refine ⟨[.int .i64 0, .slice (some ⟨b1, 0, none⟩) 2 2], rfl, k26_mk _ ⟨0, [xS, yS]⟩ (by decide) (Kd.C_alloc h1 _), fun i u hu => ?_⟩
  have := hB.cell i
  rw [show (⟨W.heap.size, 0, none⟩ : Addr).add (0 * k26.sz + i) = ⟨W.heap.size, i, none⟩ by rw [Nat.zero_mul, Nat.zero_add, add_plain], this]
  rcases i with _ | _ | i <;> simp at hu ⊢ <;> exact hu
 ·simp only [dR, List.getElem?_cons_zero, List.getElem?_cons_succ, Option.some.injEq] at hj
  subst hj
  refine ⟨[.int .i64 1, .slice (some ⟨b2, 0, none⟩) 1 1], rfl, k26_mk _ ⟨1, [xS]⟩ (by decide) (Kd.C_alloc h2 _), fun i u hu => ?_⟩
  have := hB.cell (2 + i)
  rw [show (⟨W.heap.size, 0, none⟩ : Addr).add ((0 + 1) * k26.sz + i) = ⟨W.heap.size, 2 + i, none⟩ by rw [show (0 + 1) * k26.sz + i = 2 + i from rfl, add_plain], this]
  rcases i with _ | _ | i <;> simp at hu ⊢ <;> exact hu
 ·simp [dR] at hj
theorem same6C (A : Option Addr) (c : Nat) (A' : Option Addr) (c' : Nat) (W : World) (h : Kd.C k26 W A dR.length dR) (hc : dR.length ≤ c) (h' : Kd.C k26 W A' dR.length dR) (hc' : dR.length ≤ c') :
  Calls Tryz.prog 14 #[.slice A dR.length c, .slice A' dR.length c'] W fun e w' => e = .returned (.bool true) ∧ Below W.heap.size W w' := by
 obtain ⟨k, hk⟩ := (ev_sameD dR dR (by decide) (by decide)).get
 exact (folkmootref06_Same.calls k A c dR A' c' dR _ W h hc h' hc' hk).mono fun e w' ⟨he, hd⟩ => ⟨by rw [he]; rfl, hd.below⟩
theorem same6A (A : Option Addr) (c : Nat) (W : World) (h : Kd.C k26 W A dR.length dR) (hc : dR.length ≤ c) :
  Calls Tryz.prog 14 #[.slice A dR.length c, .slice (some ⟨W.heap.size + 1 + 1, 0, none⟩) 2 2] (((W.alloc (.cells #[.int .i64 1, .int .i64 1, .int .i64 2, .int .i64 1] 41)).alloc (.cells #[.int .i64 1, .int .i64 1] 41)).alloc (.cells #[.int .i64 0, .slice (some ⟨W.heap.size, 0, none⟩) 2 2, .int .i64 1, .slice (some ⟨W.heap.size + 1, 0, none⟩) 1 1] 26)).drew fun e w' => e = .returned (.bool true) ∧ Below W.heap.size W w' := by
 have hb : Below W.heap.size W (((W.alloc (.cells #[.int .i64 1, .int .i64 1, .int .i64 2, .int .i64 1] 41)).alloc (.cells #[.int .i64 1, .int .i64 1] 41)).alloc (.cells #[.int .i64 0, .slice (some ⟨W.heap.size, 0, none⟩) 2 2, .int .i64 1, .slice (some ⟨W.heap.size + 1, 0, none⟩) 1 1] 26)).drew :=
  below_drew ((((Below.refl _ _).alloc (Nat.le_refl _) _).alloc (by simp) _).alloc (by simp; omega) _)
 have hl := C_lit ((W.alloc (.cells #[.int .i64 1, .int .i64 1, .int .i64 2, .int .i64 1] 41)).alloc (.cells #[.int .i64 1, .int .i64 1] 41)) W.heap.size (W.heap.size + 1) (Kd.C_alloc (C_two W) _) (C_newS1 _ _ _ _)
 rw [show ((W.alloc (.cells #[.int .i64 1, .int .i64 1, .int .i64 2, .int .i64 1] 41)).alloc (.cells #[.int .i64 1, .int .i64 1] 41)).heap.size = W.heap.size + 1 + 1 by simp] at hl
 exact (same6C A c _ 2 _ (Kd.C_below h hb) hc (Kd.C_drew hl) (by decide)).mono fun e w' ⟨he, h2⟩ => ⟨he, hb.trans (h2.mono hb.size)⟩
theorem same6B (A : Option Addr) (c : Nat) (W : World) (h : Kd.C k26 W A dR.length dR) (hc : dR.length ≤ c) :
  Calls Tryz.prog 14 #[.slice A dR.length c, .slice (some ⟨W.heap.size + 1 + 1, 0, none⟩) 2 2] (((W.alloc (.cells #[.int .i64 1, .int .i64 1] 41)).alloc (.cells #[.int .i64 1, .int .i64 1, .int .i64 2, .int .i64 1] 41)).alloc (.cells #[.int .i64 0, .slice (some ⟨W.heap.size + 1, 0, none⟩) 2 2, .int .i64 1, .slice (some ⟨W.heap.size, 0, none⟩) 1 1] 26)).drew fun e w' => e = .returned (.bool true) ∧ Below W.heap.size W w' := by
 have hb : Below W.heap.size W (((W.alloc (.cells #[.int .i64 1, .int .i64 1] 41)).alloc (.cells #[.int .i64 1, .int .i64 1, .int .i64 2, .int .i64 1] 41)).alloc (.cells #[.int .i64 0, .slice (some ⟨W.heap.size + 1, 0, none⟩) 2 2, .int .i64 1, .slice (some ⟨W.heap.size, 0, none⟩) 1 1] 26)).drew :=
  below_drew ((((Below.refl _ _).alloc (Nat.le_refl _) _).alloc (by simp) _).alloc (by simp; omega) _)
 have hl := C_lit ((W.alloc (.cells #[.int .i64 1, .int .i64 1] 41)).alloc (.cells #[.int .i64 1, .int .i64 1, .int .i64 2, .int .i64 1] 41)) (W.heap.size + 1) W.heap.size (C_two1 _ _) (Kd.C_alloc (C_newS _ _ _) _)
 rw [show ((W.alloc (.cells #[.int .i64 1, .int .i64 1] 41)).alloc (.cells #[.int .i64 1, .int .i64 1, .int .i64 2, .int .i64 1] 41)).heap.size = W.heap.size + 1 + 1 by simp] at hl
 exact (same6C A c _ 2 _ (Kd.C_below h hb) hc (Kd.C_drew hl) (by decide)).mono fun e w' ⟨he, h2⟩ => ⟨he, hb.trans (h2.mono hb.size)⟩
theorem dsameC (A : Option Addr) (c : Nat) (A' : Option Addr) (c' : Nat) (W : World) (h : Kd.C k26 W A dR.length dR) (hc : dR.length ≤ c) (h' : Kd.C k26 W A' dR.length dR) (hc' : dR.length ≤ c') :
  Calls Tryz.prog 23 #[.slice A dR.length c, .slice A' dR.length c'] W fun e w' => e = .returned (.bool true) ∧ Below W.heap.size W w' :=
 deps_Same.calls A c dR A' c' dR true W h hc h' hc' (by decide)
theorem numC (x : Int) (W : World) : Calls Tryz.prog 11 #[.int .i64 x] W fun e w' => e = .returned (.int .i64 x) ∧ Below W.heap.size W w' :=
 (folkmootlaw06_num.calls x x W rfl).mono fun e w' ⟨he, hd⟩ => ⟨he, hd.below⟩
theorem allC (A : Option Addr) (c : Nat) (W : World) (h : Kd.C k26 W A dR.length dR) (hc : dR.length ≤ c) :
  Calls Tryz.prog 20 #[.slice A dR.length c] W fun e w' => ∃ A' c', e = .returned (.slice A' 2 c') ∧ 2 ≤ c' ∧ Kd.C k41 w' A' [xS, yS].length [xS, yS] ∧ Below W.heap.size W w' := by
 obtain ⟨k, hk⟩ := (ev_all dR (by decide) (by decide)).get
 have e : setS (allD dR) = [xS, yS] := asc_ext (setS_asc _) (by decide) fun x => by
  rw [setS_mem]; unfold allD dR; simp
  constructor
  ·rintro (h | h | h)
   ·exact .inl h
   ·exact .inr h
   ·exact .inl h
  ·rintro (h | h)
   ·exact .inl h
   ·exact .inr (.inl h)
 rw [e] at hk
 refine (deps_All.calls k A c dR _ W h hc hk).mono fun e w' ⟨v, he, hR, hb⟩ => ?_
 obtain ⟨A', c', rfl, hc', hC⟩ := Kd.R_reads hR
 exact ⟨A', c', he, hc', hC, hb⟩
theorem same1C (A : Option Addr) (c : Nat) (A' : Option Addr) (c' : Nat) (W : World) (h : Kd.C k41 W A [xS, yS].length [xS, yS]) (hc : 2 ≤ c) (h' : Kd.C k41 W A' [xS, yS].length [xS, yS]) (hc' : 2 ≤ c') :
  Calls Tryz.prog 19 #[.slice A 2 c, .slice A' 2 c'] W fun e w' => e = .returned (.bool true) ∧ Below W.heap.size W w' := by
 obtain ⟨k, hk⟩ := (ev_sameS [xS, yS] [xS, yS] (by decide)).get
 exact (folkmootref01_Same.calls k A c [xS, yS] A' c' [xS, yS] _ W h hc h' hc' hk).mono fun e w' ⟨he, hd⟩ => ⟨by rw [he]; rfl, hd.below⟩
theorem chkN (W : World) : Calls Tryz.prog 12 #[.slice (some ⟨W.heap.size, 0, none⟩) 1 1] (W.alloc (.cells #[.int .i64 (-1), .slice none 0 0] 26)) fun e w' => e = .returned (.int .i64 60) ∧ Below (W.alloc (.cells #[.int .i64 (-1), .slice none 0 0] 26)).heap.size (W.alloc (.cells #[.int .i64 (-1), .slice none 0 0] 26)) w' := by
 have hC : Kd.C k26 (W.alloc (.cells #[.int .i64 (-1), .slice none 0 0] 26)) (some ⟨W.heap.size, 0, none⟩) [(⟨-1, []⟩ : S26)].length [(⟨-1, []⟩ : S26)] := C_newD (rowS_nil W 0)
 exact (deps_Check.calls 20 _ 1 [(⟨-1, []⟩ : S26)] 60 _ hC (by decide) (by decide +kernel))
set_option maxHeartbeats 8000000 in
set_option maxRecDepth 100000 in
theorem live6_any (w : World) : Calls Tryz.prog 8 #[] w fun e w' => e = .returned (.bool true) ∧ Below w.heap.size w w' := by
 have mixed : Tryz.prog.follows .mixedOrders = true := by kernel_rfl
 obtain ⟨w1, hw1⟩ : ∃ w1, (w.alloc (.cells #[.int .i64 1, .int .i64 1] 41)).alloc (.cells #[.int .i64 2, .int .i64 1] 41) = w1 := ⟨_, rfl⟩
 have hb1 : Below w.heap.size w w1 := hw1 ▸ ((Below.refl _ _).alloc (Nat.le_refl _) _).alloc (by simp) _
 have hX : Blk w1 w.heap.size 41 #[.int .i64 1, .int .i64 1] := hw1 ▸ (Blk.new w 41 _).alloc _
 have hY : Blk w1 (w.heap.size + 1) 41 #[.int .i64 2, .int .i64 1] := by
  have := Blk.new (w.alloc (.cells #[.int .i64 1, .int .i64 1] 41)) 41 #[.int .i64 2, .int .i64 1]
  rw [hw1] at this
  simpa using this
 have hx0 : w1.cell? ⟨w.heap.size, 0, none⟩ = some (.int .i64 1) := hX.cell 0
 have hx1 : w1.cell? ⟨w.heap.size, 1, none⟩ = some (.int .i64 1) := hX.cell 1
 have hy0 : w1.cell? ⟨w.heap.size + 1, 0, none⟩ = some (.int .i64 2) := hY.cell 0
 have hy1 : w1.cell? ⟨w.heap.size + 1, 1, none⟩ = some (.int .i64 1) := hY.cell 1
 have HW := Lib.hid (And.intro hb1 (And.intro hX hY))
 clear hb1 hX hY
 go_enter Tryz.func8, Tryz.ntmps8
 go_upto_region 2 with fail
 go_cut [3] (LiveR w1)
 case first =>
  refine wp_region_last3_held (S := (fun W => W.cell? ⟨w.heap.size, 0, none⟩ = some (.int .i64 1) ∧ W.cell? ⟨w.heap.size, 1, none⟩ = some (.int .i64 1) ∧ W.cell? ⟨w.heap.size + 1, 0, none⟩ = some (.int .i64 2) ∧ W.cell? ⟨w.heap.size + 1, 1, none⟩ = some (.int .i64 1) ∧ Below w1.heap.size w1 W)) (l := [_, _, _, _, _, _, _, _, _]) (o1 := _) (o2 := _) (o3 := _) (by kernel_rfl) (by kernel_rfl) (by kernel_rfl) (by kernel_rfl) ?_;simp only [List.size_toArray, List.length_cons, List.length_nil, Nat.zero_add, Nat.reduceAdd]
  have hHeld : ((fun W => W.cell? ⟨w.heap.size, 0, none⟩ = some (.int .i64 1) ∧ W.cell? ⟨w.heap.size, 1, none⟩ = some (.int .i64 1) ∧ W.cell? ⟨w.heap.size + 1, 0, none⟩ = some (.int .i64 2) ∧ W.cell? ⟨w.heap.size + 1, 1, none⟩ = some (.int .i64 1) ∧ Below w1.heap.size w1 W)) w1.drew := ⟨hx0, hx1, hy0, hy1, below_drew (Below.refl _ _)⟩
  refine wpAnyH_take (i := 0) (v := ?_) rfl (by kernel_rfl) (by kernel_rfl) (by kernel_rfl) (fun _ _ _ h => h) (Or.inl ⟨by rfl, ?_⟩) (by assumption) ?_;rotate_left
  ·(intro w hSw; (try dsimp only at hSw); go_split_ands; go_simp; try with_reducible rfl)
  try simp only [List.getElem_toArray, List.getElem_cons_succ, List.getElem_cons_zero, Act.put, List.setIfInBounds_toArray, List.set_cons_zero, List.set_cons_succ]
  refine wpAnyH_take (i := 3) (v := ?_) rfl (by kernel_rfl) (by kernel_rfl) (by kernel_rfl) (fun _ _ _ h => h) (Or.inl ⟨by rfl, ?_⟩) (by assumption) ?_;rotate_left
  ·(intro w hSw; (try dsimp only at hSw); go_split_ands; go_simp; try with_reducible rfl)
  try simp only [List.getElem_toArray, List.getElem_cons_succ, List.getElem_cons_zero, Act.put, List.setIfInBounds_toArray, List.set_cons_zero, List.set_cons_succ]
  refine wpAnyH_take (i := 6) (v := ?_) rfl (by kernel_rfl) (by kernel_rfl) (by kernel_rfl) (fun _ _ _ h => h) (Or.inl ⟨by rfl, ?_⟩) (by assumption) ?_;rotate_left
  ·(intro w hSw; (try dsimp only at hSw); go_split_ands; go_simp; try with_reducible rfl)
  try simp only [List.getElem_toArray, List.getElem_cons_succ, List.getElem_cons_zero, Act.put, List.setIfInBounds_toArray, List.set_cons_zero, List.set_cons_succ]
  refine wpAnyH_ready (rs := [1, 4, 7]) (by kernel_rfl) (by simp) ?_;refine (AllReadyH.cons rfl (fun K hK => ?_) (AllReadyH.cons rfl (fun K hK => ?_) (AllReadyH.cons rfl (fun K hK => ?_) AllReadyH.nil)))
  ·go_simp;refine hK.out _ _ ?_ (fun hHeld => ?_)
   ·exact ⟨cellA hHeld.1 _, cellA hHeld.2.1 _, cellA hHeld.2.2.1 _, cellA hHeld.2.2.2.1 _, hHeld.2.2.2.2.alloc hHeld.2.2.2.2.size _⟩
   clear hK K
   try simp only [List.getElem_toArray, List.getElem_cons_succ, List.getElem_cons_zero, Act.put, List.setIfInBounds_toArray, List.set_cons_zero, List.set_cons_succ]
   refine wpAnyH_ready (rs := [2, 4, 7]) (by kernel_rfl) (by simp) ?_;refine (AllReadyH.cons rfl (fun K hK => ?_) (AllReadyH.cons rfl (fun K hK => ?_) (AllReadyH.cons rfl (fun K hK => ?_) AllReadyH.nil)))
   ·go_simp;refine (makeC 0 _ ⟨1, 1⟩ _ (by repeat (first | assumption | exact C_newS _ _ _ | exact C_newS1 _ _ _ _ | exact C_newS2 _ _ _ _ _ | (with_reducible refine Kd.C_drew ?_) | (with_reducible refine Kd.C_alloc ?_ _) | (refine Kd.C_below ?_ (by assumption))))).mono ?_
    rintro e wa ⟨ba, rfl, hCa, hba⟩
    refine hK.out _ _ ?_ (fun hHeld => ?_)
    ·exact ⟨pw_cell_below hba hHeld.1, pw_cell_below hba hHeld.2.1, pw_cell_below hba hHeld.2.2.1, pw_cell_below hba hHeld.2.2.2.1, hHeld.2.2.2.2.trans (hba.mono hHeld.2.2.2.2.size)⟩
    clear hK K
    try simp only [List.getElem_toArray, List.getElem_cons_succ, List.getElem_cons_zero, Act.put, List.setIfInBounds_toArray, List.set_cons_zero, List.set_cons_succ]
    refine wpAnyH_ready (rs := [4, 7]) (by kernel_rfl) (by simp) ?_;refine (AllReadyH.cons rfl (fun K hK => ?_) (AllReadyH.cons rfl (fun K hK => ?_) AllReadyH.nil))
    ·go_simp;refine hK.out _ _ ?_ (fun hHeld => ?_)
     ·exact ⟨cellA hHeld.1 _, cellA hHeld.2.1 _, cellA hHeld.2.2.1 _, cellA hHeld.2.2.2.1 _, hHeld.2.2.2.2.alloc hHeld.2.2.2.2.size _⟩
     clear hK K
     try simp only [List.getElem_toArray, List.getElem_cons_succ, List.getElem_cons_zero, Act.put, List.setIfInBounds_toArray, List.set_cons_zero, List.set_cons_succ]
     refine wpAnyH_ready (rs := [5, 7]) (by kernel_rfl) (by simp) ?_;refine (AllReadyH.cons rfl (fun K hK => ?_) (AllReadyH.cons rfl (fun K hK => ?_) AllReadyH.nil))
     ·go_simp;refine (makeC 0 _ ⟨2, 1⟩ _ (by repeat (first | assumption | exact C_newS _ _ _ | exact C_newS1 _ _ _ _ | exact C_newS2 _ _ _ _ _ | (with_reducible refine Kd.C_drew ?_) | (with_reducible refine Kd.C_alloc ?_ _) | (refine Kd.C_below ?_ (by assumption))))).mono ?_
      rintro e wb ⟨bb, rfl, hCb, hbb⟩
      refine hK.out _ _ ?_ (fun hHeld => ?_)
      ·exact ⟨pw_cell_below hbb hHeld.1, pw_cell_below hbb hHeld.2.1, pw_cell_below hbb hHeld.2.2.1, pw_cell_below hbb hHeld.2.2.2.1, hHeld.2.2.2.2.trans (hbb.mono hHeld.2.2.2.2.size)⟩
      clear hK K
      try simp only [List.getElem_toArray, List.getElem_cons_succ, List.getElem_cons_zero, Act.put, List.setIfInBounds_toArray, List.set_cons_zero, List.set_cons_succ]
      refine wpAnyH_ready (rs := [7]) (by kernel_rfl) (by simp) ?_;refine (AllReadyH.cons rfl (fun K hK => ?_) AllReadyH.nil);go_simp;refine hK.out _ _ ?_ (fun hHeld => ?_)
      ·exact ⟨cellA hHeld.1 _, cellA hHeld.2.1 _, cellA hHeld.2.2.1 _, cellA hHeld.2.2.2.1 _, hHeld.2.2.2.2.alloc hHeld.2.2.2.2.size _⟩
      clear hK K
      try simp only [List.getElem_toArray, List.getElem_cons_succ, List.getElem_cons_zero, Act.put, List.setIfInBounds_toArray, List.set_cons_zero, List.set_cons_succ]
      refine wpAnyH_ready (rs := [8]) (by kernel_rfl) (by simp) ?_;refine (AllReadyH.cons rfl (fun K hK => ?_) AllReadyH.nil);go_simp;refine (makeC 1 _ ⟨1, 1⟩ _ (by repeat (first | assumption | exact C_newS _ _ _ | exact C_newS1 _ _ _ _ | exact C_newS2 _ _ _ _ _ | (with_reducible refine Kd.C_drew ?_) | (with_reducible refine Kd.C_alloc ?_ _) | (refine Kd.C_below ?_ (by assumption))))).mono ?_
      rintro e wc ⟨bc, rfl, hCc, hbc⟩
      refine hK.out _ _ ?_ (fun hHeld => ?_)
      ·exact ⟨pw_cell_below hbc hHeld.1, pw_cell_below hbc hHeld.2.1, pw_cell_below hbc hHeld.2.2.1, pw_cell_below hbc hHeld.2.2.2.1, hHeld.2.2.2.2.trans (hbc.mono hHeld.2.2.2.2.size)⟩
      clear hK K
      try simp only [List.getElem_toArray, List.getElem_cons_succ, List.getElem_cons_zero, Act.put, List.setIfInBounds_toArray, List.set_cons_zero, List.set_cons_succ]
      refine wpAnyH_done (by kernel_rfl) ?_ _;refine lastPost_wp ?_
      go_wp2_with fail
      refine lastPost_wp ?_
      go_wp2_with fail
      refine (mergeC _ ba bb bc (by repeat (first | assumption | (with_reducible refine Kd.C_drew ?_) | (with_reducible refine Kd.C_alloc ?_ _) | (refine Kd.C_below ?_ (by assumption)))) (by repeat (first | assumption | (with_reducible refine Kd.C_drew ?_) | (with_reducible refine Kd.C_alloc ?_ _) | (refine Kd.C_below ?_ (by assumption)))) (by repeat (first | assumption | (with_reducible refine Kd.C_drew ?_) | (with_reducible refine Kd.C_alloc ?_ _) | (refine Kd.C_below ?_ (by assumption))))).mono ?_
      rintro e wm ⟨A3, c3, rfl, hc3, hC3, hbm⟩
      have HM := Lib.hid (And.intro hc3 (And.intro hC3 (hHeld.2.2.2.2.trans (hbm.mono hHeld.2.2.2.2.size))))
      clear hc3 hC3 hbm
      go_wp2_with fail
      refine lastPost_wp ?_
      go_wp2_with fail
      go_meet
      case rel => exact ⟨A3, c3, rfl, HM.out⟩
     ·go_simp;refine hK.out _ _ ?_ (fun hHeld => ?_)
      ·exact ⟨cellA hHeld.1 _, cellA hHeld.2.1 _, cellA hHeld.2.2.1 _, cellA hHeld.2.2.2.1 _, hHeld.2.2.2.2.alloc hHeld.2.2.2.2.size _⟩
      clear hK K
      try simp only [List.getElem_toArray, List.getElem_cons_succ, List.getElem_cons_zero, Act.put, List.setIfInBounds_toArray, List.set_cons_zero, List.set_cons_succ]
      refine wpAnyH_ready (rs := [5]) (by kernel_rfl) (by simp) ?_;refine (AllReadyH.cons rfl (fun K hK => ?_) AllReadyH.nil);go_simp;refine (makeC 0 _ ⟨2, 1⟩ _ (by repeat (first | assumption | exact C_newS _ _ _ | exact C_newS1 _ _ _ _ | exact C_newS2 _ _ _ _ _ | (with_reducible refine Kd.C_drew ?_) | (with_reducible refine Kd.C_alloc ?_ _) | (refine Kd.C_below ?_ (by assumption))))).mono ?_
      rintro e wb ⟨bb, rfl, hCb, hbb⟩
      refine hK.out _ _ ?_ (fun hHeld => ?_)
      ·exact ⟨pw_cell_below hbb hHeld.1, pw_cell_below hbb hHeld.2.1, pw_cell_below hbb hHeld.2.2.1, pw_cell_below hbb hHeld.2.2.2.1, hHeld.2.2.2.2.trans (hbb.mono hHeld.2.2.2.2.size)⟩
      clear hK K
      try simp only [List.getElem_toArray, List.getElem_cons_succ, List.getElem_cons_zero, Act.put, List.setIfInBounds_toArray, List.set_cons_zero, List.set_cons_succ]
      refine wpAnyH_ready (rs := [8]) (by kernel_rfl) (by simp) ?_;refine (AllReadyH.cons rfl (fun K hK => ?_) AllReadyH.nil);go_simp;refine (makeC 1 _ ⟨1, 1⟩ _ (by repeat (first | assumption | exact C_newS _ _ _ | exact C_newS1 _ _ _ _ | exact C_newS2 _ _ _ _ _ | (with_reducible refine Kd.C_drew ?_) | (with_reducible refine Kd.C_alloc ?_ _) | (refine Kd.C_below ?_ (by assumption))))).mono ?_
      rintro e wc ⟨bc, rfl, hCc, hbc⟩
      refine hK.out _ _ ?_ (fun hHeld => ?_)
      ·exact ⟨pw_cell_below hbc hHeld.1, pw_cell_below hbc hHeld.2.1, pw_cell_below hbc hHeld.2.2.1, pw_cell_below hbc hHeld.2.2.2.1, hHeld.2.2.2.2.trans (hbc.mono hHeld.2.2.2.2.size)⟩
      clear hK K
      try simp only [List.getElem_toArray, List.getElem_cons_succ, List.getElem_cons_zero, Act.put, List.setIfInBounds_toArray, List.set_cons_zero, List.set_cons_succ]
      refine wpAnyH_done (by kernel_rfl) ?_ _;refine lastPost_wp ?_
      go_wp2_with fail
      refine lastPost_wp ?_
      go_wp2_with fail
      refine (mergeC _ ba bb bc (by repeat (first | assumption | (with_reducible refine Kd.C_drew ?_) | (with_reducible refine Kd.C_alloc ?_ _) | (refine Kd.C_below ?_ (by assumption)))) (by repeat (first | assumption | (with_reducible refine Kd.C_drew ?_) | (with_reducible refine Kd.C_alloc ?_ _) | (refine Kd.C_below ?_ (by assumption)))) (by repeat (first | assumption | (with_reducible refine Kd.C_drew ?_) | (with_reducible refine Kd.C_alloc ?_ _) | (refine Kd.C_below ?_ (by assumption))))).mono ?_
      rintro e wm ⟨A3, c3, rfl, hc3, hC3, hbm⟩
      have HM := Lib.hid (And.intro hc3 (And.intro hC3 (hHeld.2.2.2.2.trans (hbm.mono hHeld.2.2.2.2.size))))
      clear hc3 hC3 hbm
      go_wp2_with fail
      refine lastPost_wp ?_
      go_wp2_with fail
      go_meet
      case rel => exact ⟨A3, c3, rfl, HM.out⟩
    ·go_simp;refine hK.out _ _ ?_ (fun hHeld => ?_)
     ·exact ⟨cellA hHeld.1 _, cellA hHeld.2.1 _, cellA hHeld.2.2.1 _, cellA hHeld.2.2.2.1 _, hHeld.2.2.2.2.alloc hHeld.2.2.2.2.size _⟩
     clear hK K
     try simp only [List.getElem_toArray, List.getElem_cons_succ, List.getElem_cons_zero, Act.put, List.setIfInBounds_toArray, List.set_cons_zero, List.set_cons_succ]
     refine wpAnyH_ready (rs := [4]) (by kernel_rfl) (by simp) ?_;refine (AllReadyH.cons rfl (fun K hK => ?_) AllReadyH.nil);go_simp;refine hK.out _ _ ?_ (fun hHeld => ?_)
     ·exact ⟨cellA hHeld.1 _, cellA hHeld.2.1 _, cellA hHeld.2.2.1 _, cellA hHeld.2.2.2.1 _, hHeld.2.2.2.2.alloc hHeld.2.2.2.2.size _⟩
     clear hK K
     try simp only [List.getElem_toArray, List.getElem_cons_succ, List.getElem_cons_zero, Act.put, List.setIfInBounds_toArray, List.set_cons_zero, List.set_cons_succ]
     refine wpAnyH_ready (rs := [5]) (by kernel_rfl) (by simp) ?_;refine (AllReadyH.cons rfl (fun K hK => ?_) AllReadyH.nil);go_simp;refine (makeC 0 _ ⟨2, 1⟩ _ (by repeat (first | assumption | exact C_newS _ _ _ | exact C_newS1 _ _ _ _ | exact C_newS2 _ _ _ _ _ | (with_reducible refine Kd.C_drew ?_) | (with_reducible refine Kd.C_alloc ?_ _) | (refine Kd.C_below ?_ (by assumption))))).mono ?_
     rintro e wb ⟨bb, rfl, hCb, hbb⟩
     refine hK.out _ _ ?_ (fun hHeld => ?_)
     ·exact ⟨pw_cell_below hbb hHeld.1, pw_cell_below hbb hHeld.2.1, pw_cell_below hbb hHeld.2.2.1, pw_cell_below hbb hHeld.2.2.2.1, hHeld.2.2.2.2.trans (hbb.mono hHeld.2.2.2.2.size)⟩
     clear hK K
     try simp only [List.getElem_toArray, List.getElem_cons_succ, List.getElem_cons_zero, Act.put, List.setIfInBounds_toArray, List.set_cons_zero, List.set_cons_succ]
     refine wpAnyH_ready (rs := [8]) (by kernel_rfl) (by simp) ?_;refine (AllReadyH.cons rfl (fun K hK => ?_) AllReadyH.nil);go_simp;refine (makeC 1 _ ⟨1, 1⟩ _ (by repeat (first | assumption | exact C_newS _ _ _ | exact C_newS1 _ _ _ _ | exact C_newS2 _ _ _ _ _ | (with_reducible refine Kd.C_drew ?_) | (with_reducible refine Kd.C_alloc ?_ _) | (refine Kd.C_below ?_ (by assumption))))).mono ?_
     rintro e wc ⟨bc, rfl, hCc, hbc⟩
     refine hK.out _ _ ?_ (fun hHeld => ?_)
     ·exact ⟨pw_cell_below hbc hHeld.1, pw_cell_below hbc hHeld.2.1, pw_cell_below hbc hHeld.2.2.1, pw_cell_below hbc hHeld.2.2.2.1, hHeld.2.2.2.2.trans (hbc.mono hHeld.2.2.2.2.size)⟩
     clear hK K
     try simp only [List.getElem_toArray, List.getElem_cons_succ, List.getElem_cons_zero, Act.put, List.setIfInBounds_toArray, List.set_cons_zero, List.set_cons_succ]
     refine wpAnyH_done (by kernel_rfl) ?_ _;refine lastPost_wp ?_
     go_wp2_with fail
     refine lastPost_wp ?_
     go_wp2_with fail
     refine (mergeC _ ba bb bc (by repeat (first | assumption | (with_reducible refine Kd.C_drew ?_) | (with_reducible refine Kd.C_alloc ?_ _) | (refine Kd.C_below ?_ (by assumption)))) (by repeat (first | assumption | (with_reducible refine Kd.C_drew ?_) | (with_reducible refine Kd.C_alloc ?_ _) | (refine Kd.C_below ?_ (by assumption)))) (by repeat (first | assumption | (with_reducible refine Kd.C_drew ?_) | (with_reducible refine Kd.C_alloc ?_ _) | (refine Kd.C_below ?_ (by assumption))))).mono ?_
     rintro e wm ⟨A3, c3, rfl, hc3, hC3, hbm⟩
     have HM := Lib.hid (And.intro hc3 (And.intro hC3 (hHeld.2.2.2.2.trans (hbm.mono hHeld.2.2.2.2.size))))
     clear hc3 hC3 hbm
     go_wp2_with fail
     refine lastPost_wp ?_
     go_wp2_with fail
     go_meet
     case rel => exact ⟨A3, c3, rfl, HM.out⟩
   ·go_simp;refine hK.out _ _ ?_ (fun hHeld => ?_)
    ·exact ⟨cellA hHeld.1 _, cellA hHeld.2.1 _, cellA hHeld.2.2.1 _, cellA hHeld.2.2.2.1 _, hHeld.2.2.2.2.alloc hHeld.2.2.2.2.size _⟩
    clear hK K
    try simp only [List.getElem_toArray, List.getElem_cons_succ, List.getElem_cons_zero, Act.put, List.setIfInBounds_toArray, List.set_cons_zero, List.set_cons_succ]
    refine wpAnyH_ready (rs := [2, 7]) (by kernel_rfl) (by simp) ?_;refine (AllReadyH.cons rfl (fun K hK => ?_) (AllReadyH.cons rfl (fun K hK => ?_) AllReadyH.nil))
    ·go_simp;refine (makeC 0 _ ⟨1, 1⟩ _ (by repeat (first | assumption | exact C_newS _ _ _ | exact C_newS1 _ _ _ _ | exact C_newS2 _ _ _ _ _ | (with_reducible refine Kd.C_drew ?_) | (with_reducible refine Kd.C_alloc ?_ _) | (refine Kd.C_below ?_ (by assumption))))).mono ?_
     rintro e wa ⟨ba, rfl, hCa, hba⟩
     refine hK.out _ _ ?_ (fun hHeld => ?_)
     ·exact ⟨pw_cell_below hba hHeld.1, pw_cell_below hba hHeld.2.1, pw_cell_below hba hHeld.2.2.1, pw_cell_below hba hHeld.2.2.2.1, hHeld.2.2.2.2.trans (hba.mono hHeld.2.2.2.2.size)⟩
     clear hK K
     try simp only [List.getElem_toArray, List.getElem_cons_succ, List.getElem_cons_zero, Act.put, List.setIfInBounds_toArray, List.set_cons_zero, List.set_cons_succ]
     refine wpAnyH_ready (rs := [5, 7]) (by kernel_rfl) (by simp) ?_;refine (AllReadyH.cons rfl (fun K hK => ?_) (AllReadyH.cons rfl (fun K hK => ?_) AllReadyH.nil))
     ·go_simp;refine (makeC 0 _ ⟨2, 1⟩ _ (by repeat (first | assumption | exact C_newS _ _ _ | exact C_newS1 _ _ _ _ | exact C_newS2 _ _ _ _ _ | (with_reducible refine Kd.C_drew ?_) | (with_reducible refine Kd.C_alloc ?_ _) | (refine Kd.C_below ?_ (by assumption))))).mono ?_
      rintro e wb ⟨bb, rfl, hCb, hbb⟩
      refine hK.out _ _ ?_ (fun hHeld => ?_)
      ·exact ⟨pw_cell_below hbb hHeld.1, pw_cell_below hbb hHeld.2.1, pw_cell_below hbb hHeld.2.2.1, pw_cell_below hbb hHeld.2.2.2.1, hHeld.2.2.2.2.trans (hbb.mono hHeld.2.2.2.2.size)⟩
      clear hK K
      try simp only [List.getElem_toArray, List.getElem_cons_succ, List.getElem_cons_zero, Act.put, List.setIfInBounds_toArray, List.set_cons_zero, List.set_cons_succ]
      refine wpAnyH_ready (rs := [7]) (by kernel_rfl) (by simp) ?_;refine (AllReadyH.cons rfl (fun K hK => ?_) AllReadyH.nil);go_simp;refine hK.out _ _ ?_ (fun hHeld => ?_)
      ·exact ⟨cellA hHeld.1 _, cellA hHeld.2.1 _, cellA hHeld.2.2.1 _, cellA hHeld.2.2.2.1 _, hHeld.2.2.2.2.alloc hHeld.2.2.2.2.size _⟩
      clear hK K
      try simp only [List.getElem_toArray, List.getElem_cons_succ, List.getElem_cons_zero, Act.put, List.setIfInBounds_toArray, List.set_cons_zero, List.set_cons_succ]
      refine wpAnyH_ready (rs := [8]) (by kernel_rfl) (by simp) ?_;refine (AllReadyH.cons rfl (fun K hK => ?_) AllReadyH.nil);go_simp;refine (makeC 1 _ ⟨1, 1⟩ _ (by repeat (first | assumption | exact C_newS _ _ _ | exact C_newS1 _ _ _ _ | exact C_newS2 _ _ _ _ _ | (with_reducible refine Kd.C_drew ?_) | (with_reducible refine Kd.C_alloc ?_ _) | (refine Kd.C_below ?_ (by assumption))))).mono ?_
      rintro e wc ⟨bc, rfl, hCc, hbc⟩
      refine hK.out _ _ ?_ (fun hHeld => ?_)
      ·exact ⟨pw_cell_below hbc hHeld.1, pw_cell_below hbc hHeld.2.1, pw_cell_below hbc hHeld.2.2.1, pw_cell_below hbc hHeld.2.2.2.1, hHeld.2.2.2.2.trans (hbc.mono hHeld.2.2.2.2.size)⟩
      clear hK K
      try simp only [List.getElem_toArray, List.getElem_cons_succ, List.getElem_cons_zero, Act.put, List.setIfInBounds_toArray, List.set_cons_zero, List.set_cons_succ]
      refine wpAnyH_done (by kernel_rfl) ?_ _;refine lastPost_wp ?_
      go_wp2_with fail
      refine lastPost_wp ?_
      go_wp2_with fail
      refine (mergeC _ ba bb bc (by repeat (first | assumption | (with_reducible refine Kd.C_drew ?_) | (with_reducible refine Kd.C_alloc ?_ _) | (refine Kd.C_below ?_ (by assumption)))) (by repeat (first | assumption | (with_reducible refine Kd.C_drew ?_) | (with_reducible refine Kd.C_alloc ?_ _) | (refine Kd.C_below ?_ (by assumption)))) (by repeat (first | assumption | (with_reducible refine Kd.C_drew ?_) | (with_reducible refine Kd.C_alloc ?_ _) | (refine Kd.C_below ?_ (by assumption))))).mono ?_
      rintro e wm ⟨A3, c3, rfl, hc3, hC3, hbm⟩
      have HM := Lib.hid (And.intro hc3 (And.intro hC3 (hHeld.2.2.2.2.trans (hbm.mono hHeld.2.2.2.2.size))))
      clear hc3 hC3 hbm
      go_wp2_with fail
      refine lastPost_wp ?_
      go_wp2_with fail
      go_meet
      case rel => exact ⟨A3, c3, rfl, HM.out⟩
     ·go_simp;refine hK.out _ _ ?_ (fun hHeld => ?_)
      ·exact ⟨cellA hHeld.1 _, cellA hHeld.2.1 _, cellA hHeld.2.2.1 _, cellA hHeld.2.2.2.1 _, hHeld.2.2.2.2.alloc hHeld.2.2.2.2.size _⟩
      clear hK K
      try simp only [List.getElem_toArray, List.getElem_cons_succ, List.getElem_cons_zero, Act.put, List.setIfInBounds_toArray, List.set_cons_zero, List.set_cons_succ]
      refine wpAnyH_ready (rs := [5]) (by kernel_rfl) (by simp) ?_;refine (AllReadyH.cons rfl (fun K hK => ?_) AllReadyH.nil);go_simp;refine (makeC 0 _ ⟨2, 1⟩ _ (by repeat (first | assumption | exact C_newS _ _ _ | exact C_newS1 _ _ _ _ | exact C_newS2 _ _ _ _ _ | (with_reducible refine Kd.C_drew ?_) | (with_reducible refine Kd.C_alloc ?_ _) | (refine Kd.C_below ?_ (by assumption))))).mono ?_
      rintro e wb ⟨bb, rfl, hCb, hbb⟩
      refine hK.out _ _ ?_ (fun hHeld => ?_)
      ·exact ⟨pw_cell_below hbb hHeld.1, pw_cell_below hbb hHeld.2.1, pw_cell_below hbb hHeld.2.2.1, pw_cell_below hbb hHeld.2.2.2.1, hHeld.2.2.2.2.trans (hbb.mono hHeld.2.2.2.2.size)⟩
      clear hK K
      try simp only [List.getElem_toArray, List.getElem_cons_succ, List.getElem_cons_zero, Act.put, List.setIfInBounds_toArray, List.set_cons_zero, List.set_cons_succ]
      refine wpAnyH_ready (rs := [8]) (by kernel_rfl) (by simp) ?_;refine (AllReadyH.cons rfl (fun K hK => ?_) AllReadyH.nil);go_simp;refine (makeC 1 _ ⟨1, 1⟩ _ (by repeat (first | assumption | exact C_newS _ _ _ | exact C_newS1 _ _ _ _ | exact C_newS2 _ _ _ _ _ | (with_reducible refine Kd.C_drew ?_) | (with_reducible refine Kd.C_alloc ?_ _) | (refine Kd.C_below ?_ (by assumption))))).mono ?_
      rintro e wc ⟨bc, rfl, hCc, hbc⟩
      refine hK.out _ _ ?_ (fun hHeld => ?_)
      ·exact ⟨pw_cell_below hbc hHeld.1, pw_cell_below hbc hHeld.2.1, pw_cell_below hbc hHeld.2.2.1, pw_cell_below hbc hHeld.2.2.2.1, hHeld.2.2.2.2.trans (hbc.mono hHeld.2.2.2.2.size)⟩
      clear hK K
      try simp only [List.getElem_toArray, List.getElem_cons_succ, List.getElem_cons_zero, Act.put, List.setIfInBounds_toArray, List.set_cons_zero, List.set_cons_succ]
      refine wpAnyH_done (by kernel_rfl) ?_ _;refine lastPost_wp ?_
      go_wp2_with fail
      refine lastPost_wp ?_
      go_wp2_with fail
      refine (mergeC _ ba bb bc (by repeat (first | assumption | (with_reducible refine Kd.C_drew ?_) | (with_reducible refine Kd.C_alloc ?_ _) | (refine Kd.C_below ?_ (by assumption)))) (by repeat (first | assumption | (with_reducible refine Kd.C_drew ?_) | (with_reducible refine Kd.C_alloc ?_ _) | (refine Kd.C_below ?_ (by assumption)))) (by repeat (first | assumption | (with_reducible refine Kd.C_drew ?_) | (with_reducible refine Kd.C_alloc ?_ _) | (refine Kd.C_below ?_ (by assumption))))).mono ?_
      rintro e wm ⟨A3, c3, rfl, hc3, hC3, hbm⟩
      have HM := Lib.hid (And.intro hc3 (And.intro hC3 (hHeld.2.2.2.2.trans (hbm.mono hHeld.2.2.2.2.size))))
      clear hc3 hC3 hbm
      go_wp2_with fail
      refine lastPost_wp ?_
      go_wp2_with fail
      go_meet
      case rel => exact ⟨A3, c3, rfl, HM.out⟩
    ·go_simp;refine hK.out _ _ ?_ (fun hHeld => ?_)
     ·exact ⟨cellA hHeld.1 _, cellA hHeld.2.1 _, cellA hHeld.2.2.1 _, cellA hHeld.2.2.2.1 _, hHeld.2.2.2.2.alloc hHeld.2.2.2.2.size _⟩
     clear hK K
     try simp only [List.getElem_toArray, List.getElem_cons_succ, List.getElem_cons_zero, Act.put, List.setIfInBounds_toArray, List.set_cons_zero, List.set_cons_succ]
     refine wpAnyH_ready (rs := [2]) (by kernel_rfl) (by simp) ?_;refine (AllReadyH.cons rfl (fun K hK => ?_) AllReadyH.nil);go_simp;refine (makeC 0 _ ⟨1, 1⟩ _ (by repeat (first | assumption | exact C_newS _ _ _ | exact C_newS1 _ _ _ _ | exact C_newS2 _ _ _ _ _ | (with_reducible refine Kd.C_drew ?_) | (with_reducible refine Kd.C_alloc ?_ _) | (refine Kd.C_below ?_ (by assumption))))).mono ?_
     rintro e wa ⟨ba, rfl, hCa, hba⟩
     refine hK.out _ _ ?_ (fun hHeld => ?_)
     ·exact ⟨pw_cell_below hba hHeld.1, pw_cell_below hba hHeld.2.1, pw_cell_below hba hHeld.2.2.1, pw_cell_below hba hHeld.2.2.2.1, hHeld.2.2.2.2.trans (hba.mono hHeld.2.2.2.2.size)⟩
     clear hK K
     try simp only [List.getElem_toArray, List.getElem_cons_succ, List.getElem_cons_zero, Act.put, List.setIfInBounds_toArray, List.set_cons_zero, List.set_cons_succ]
     refine wpAnyH_ready (rs := [5]) (by kernel_rfl) (by simp) ?_;refine (AllReadyH.cons rfl (fun K hK => ?_) AllReadyH.nil);go_simp;refine (makeC 0 _ ⟨2, 1⟩ _ (by repeat (first | assumption | exact C_newS _ _ _ | exact C_newS1 _ _ _ _ | exact C_newS2 _ _ _ _ _ | (with_reducible refine Kd.C_drew ?_) | (with_reducible refine Kd.C_alloc ?_ _) | (refine Kd.C_below ?_ (by assumption))))).mono ?_
     rintro e wb ⟨bb, rfl, hCb, hbb⟩
     refine hK.out _ _ ?_ (fun hHeld => ?_)
     ·exact ⟨pw_cell_below hbb hHeld.1, pw_cell_below hbb hHeld.2.1, pw_cell_below hbb hHeld.2.2.1, pw_cell_below hbb hHeld.2.2.2.1, hHeld.2.2.2.2.trans (hbb.mono hHeld.2.2.2.2.size)⟩
     clear hK K
     try simp only [List.getElem_toArray, List.getElem_cons_succ, List.getElem_cons_zero, Act.put, List.setIfInBounds_toArray, List.set_cons_zero, List.set_cons_succ]
     refine wpAnyH_ready (rs := [8]) (by kernel_rfl) (by simp) ?_;refine (AllReadyH.cons rfl (fun K hK => ?_) AllReadyH.nil);go_simp;refine (makeC 1 _ ⟨1, 1⟩ _ (by repeat (first | assumption | exact C_newS _ _ _ | exact C_newS1 _ _ _ _ | exact C_newS2 _ _ _ _ _ | (with_reducible refine Kd.C_drew ?_) | (with_reducible refine Kd.C_alloc ?_ _) | (refine Kd.C_below ?_ (by assumption))))).mono ?_
     rintro e wc ⟨bc, rfl, hCc, hbc⟩
     refine hK.out _ _ ?_ (fun hHeld => ?_)
     ·exact ⟨pw_cell_below hbc hHeld.1, pw_cell_below hbc hHeld.2.1, pw_cell_below hbc hHeld.2.2.1, pw_cell_below hbc hHeld.2.2.2.1, hHeld.2.2.2.2.trans (hbc.mono hHeld.2.2.2.2.size)⟩
     clear hK K
     try simp only [List.getElem_toArray, List.getElem_cons_succ, List.getElem_cons_zero, Act.put, List.setIfInBounds_toArray, List.set_cons_zero, List.set_cons_succ]
     refine wpAnyH_done (by kernel_rfl) ?_ _;refine lastPost_wp ?_
     go_wp2_with fail
     refine lastPost_wp ?_
     go_wp2_with fail
     refine (mergeC _ ba bb bc (by repeat (first | assumption | (with_reducible refine Kd.C_drew ?_) | (with_reducible refine Kd.C_alloc ?_ _) | (refine Kd.C_below ?_ (by assumption)))) (by repeat (first | assumption | (with_reducible refine Kd.C_drew ?_) | (with_reducible refine Kd.C_alloc ?_ _) | (refine Kd.C_below ?_ (by assumption)))) (by repeat (first | assumption | (with_reducible refine Kd.C_drew ?_) | (with_reducible refine Kd.C_alloc ?_ _) | (refine Kd.C_below ?_ (by assumption))))).mono ?_
     rintro e wm ⟨A3, c3, rfl, hc3, hC3, hbm⟩
     have HM := Lib.hid (And.intro hc3 (And.intro hC3 (hHeld.2.2.2.2.trans (hbm.mono hHeld.2.2.2.2.size))))
     clear hc3 hC3 hbm
     go_wp2_with fail
     refine lastPost_wp ?_
     go_wp2_with fail
     go_meet
     case rel => exact ⟨A3, c3, rfl, HM.out⟩
   ·go_simp;refine hK.out _ _ ?_ (fun hHeld => ?_)
    ·exact ⟨cellA hHeld.1 _, cellA hHeld.2.1 _, cellA hHeld.2.2.1 _, cellA hHeld.2.2.2.1 _, hHeld.2.2.2.2.alloc hHeld.2.2.2.2.size _⟩
    clear hK K
    try simp only [List.getElem_toArray, List.getElem_cons_succ, List.getElem_cons_zero, Act.put, List.setIfInBounds_toArray, List.set_cons_zero, List.set_cons_succ]
    refine wpAnyH_ready (rs := [2, 4]) (by kernel_rfl) (by simp) ?_;refine (AllReadyH.cons rfl (fun K hK => ?_) (AllReadyH.cons rfl (fun K hK => ?_) AllReadyH.nil))
    ·go_simp;refine (makeC 0 _ ⟨1, 1⟩ _ (by repeat (first | assumption | exact C_newS _ _ _ | exact C_newS1 _ _ _ _ | exact C_newS2 _ _ _ _ _ | (with_reducible refine Kd.C_drew ?_) | (with_reducible refine Kd.C_alloc ?_ _) | (refine Kd.C_below ?_ (by assumption))))).mono ?_
     rintro e wa ⟨ba, rfl, hCa, hba⟩
     refine hK.out _ _ ?_ (fun hHeld => ?_)
     ·exact ⟨pw_cell_below hba hHeld.1, pw_cell_below hba hHeld.2.1, pw_cell_below hba hHeld.2.2.1, pw_cell_below hba hHeld.2.2.2.1, hHeld.2.2.2.2.trans (hba.mono hHeld.2.2.2.2.size)⟩
     clear hK K
     try simp only [List.getElem_toArray, List.getElem_cons_succ, List.getElem_cons_zero, Act.put, List.setIfInBounds_toArray, List.set_cons_zero, List.set_cons_succ]
     refine wpAnyH_ready (rs := [4]) (by kernel_rfl) (by simp) ?_;refine (AllReadyH.cons rfl (fun K hK => ?_) AllReadyH.nil);go_simp;refine hK.out _ _ ?_ (fun hHeld => ?_)
     ·exact ⟨cellA hHeld.1 _, cellA hHeld.2.1 _, cellA hHeld.2.2.1 _, cellA hHeld.2.2.2.1 _, hHeld.2.2.2.2.alloc hHeld.2.2.2.2.size _⟩
     clear hK K
     try simp only [List.getElem_toArray, List.getElem_cons_succ, List.getElem_cons_zero, Act.put, List.setIfInBounds_toArray, List.set_cons_zero, List.set_cons_succ]
     refine wpAnyH_ready (rs := [5]) (by kernel_rfl) (by simp) ?_;refine (AllReadyH.cons rfl (fun K hK => ?_) AllReadyH.nil);go_simp;refine (makeC 0 _ ⟨2, 1⟩ _ (by repeat (first | assumption | exact C_newS _ _ _ | exact C_newS1 _ _ _ _ | exact C_newS2 _ _ _ _ _ | (with_reducible refine Kd.C_drew ?_) | (with_reducible refine Kd.C_alloc ?_ _) | (refine Kd.C_below ?_ (by assumption))))).mono ?_
     rintro e wb ⟨bb, rfl, hCb, hbb⟩
     refine hK.out _ _ ?_ (fun hHeld => ?_)
     ·exact ⟨pw_cell_below hbb hHeld.1, pw_cell_below hbb hHeld.2.1, pw_cell_below hbb hHeld.2.2.1, pw_cell_below hbb hHeld.2.2.2.1, hHeld.2.2.2.2.trans (hbb.mono hHeld.2.2.2.2.size)⟩
     clear hK K
     try simp only [List.getElem_toArray, List.getElem_cons_succ, List.getElem_cons_zero, Act.put, List.setIfInBounds_toArray, List.set_cons_zero, List.set_cons_succ]
     refine wpAnyH_ready (rs := [8]) (by kernel_rfl) (by simp) ?_;refine (AllReadyH.cons rfl (fun K hK => ?_) AllReadyH.nil);go_simp;refine (makeC 1 _ ⟨1, 1⟩ _ (by repeat (first | assumption | exact C_newS _ _ _ | exact C_newS1 _ _ _ _ | exact C_newS2 _ _ _ _ _ | (with_reducible refine Kd.C_drew ?_) | (with_reducible refine Kd.C_alloc ?_ _) | (refine Kd.C_below ?_ (by assumption))))).mono ?_
     rintro e wc ⟨bc, rfl, hCc, hbc⟩
     refine hK.out _ _ ?_ (fun hHeld => ?_)
     ·exact ⟨pw_cell_below hbc hHeld.1, pw_cell_below hbc hHeld.2.1, pw_cell_below hbc hHeld.2.2.1, pw_cell_below hbc hHeld.2.2.2.1, hHeld.2.2.2.2.trans (hbc.mono hHeld.2.2.2.2.size)⟩
     clear hK K
     try simp only [List.getElem_toArray, List.getElem_cons_succ, List.getElem_cons_zero, Act.put, List.setIfInBounds_toArray, List.set_cons_zero, List.set_cons_succ]
     refine wpAnyH_done (by kernel_rfl) ?_ _;refine lastPost_wp ?_
     go_wp2_with fail
     refine lastPost_wp ?_
     go_wp2_with fail
     refine (mergeC _ ba bb bc (by repeat (first | assumption | (with_reducible refine Kd.C_drew ?_) | (with_reducible refine Kd.C_alloc ?_ _) | (refine Kd.C_below ?_ (by assumption)))) (by repeat (first | assumption | (with_reducible refine Kd.C_drew ?_) | (with_reducible refine Kd.C_alloc ?_ _) | (refine Kd.C_below ?_ (by assumption)))) (by repeat (first | assumption | (with_reducible refine Kd.C_drew ?_) | (with_reducible refine Kd.C_alloc ?_ _) | (refine Kd.C_below ?_ (by assumption))))).mono ?_
     rintro e wm ⟨A3, c3, rfl, hc3, hC3, hbm⟩
     have HM := Lib.hid (And.intro hc3 (And.intro hC3 (hHeld.2.2.2.2.trans (hbm.mono hHeld.2.2.2.2.size))))
     clear hc3 hC3 hbm
     go_wp2_with fail
     refine lastPost_wp ?_
     go_wp2_with fail
     go_meet
     case rel => exact ⟨A3, c3, rfl, HM.out⟩
    ·go_simp;refine hK.out _ _ ?_ (fun hHeld => ?_)
     ·exact ⟨cellA hHeld.1 _, cellA hHeld.2.1 _, cellA hHeld.2.2.1 _, cellA hHeld.2.2.2.1 _, hHeld.2.2.2.2.alloc hHeld.2.2.2.2.size _⟩
     clear hK K
     try simp only [List.getElem_toArray, List.getElem_cons_succ, List.getElem_cons_zero, Act.put, List.setIfInBounds_toArray, List.set_cons_zero, List.set_cons_succ]
     refine wpAnyH_ready (rs := [2]) (by kernel_rfl) (by simp) ?_;refine (AllReadyH.cons rfl (fun K hK => ?_) AllReadyH.nil);go_simp;refine (makeC 0 _ ⟨1, 1⟩ _ (by repeat (first | assumption | exact C_newS _ _ _ | exact C_newS1 _ _ _ _ | exact C_newS2 _ _ _ _ _ | (with_reducible refine Kd.C_drew ?_) | (with_reducible refine Kd.C_alloc ?_ _) | (refine Kd.C_below ?_ (by assumption))))).mono ?_
     rintro e wa ⟨ba, rfl, hCa, hba⟩
     refine hK.out _ _ ?_ (fun hHeld => ?_)
     ·exact ⟨pw_cell_below hba hHeld.1, pw_cell_below hba hHeld.2.1, pw_cell_below hba hHeld.2.2.1, pw_cell_below hba hHeld.2.2.2.1, hHeld.2.2.2.2.trans (hba.mono hHeld.2.2.2.2.size)⟩
     clear hK K
     try simp only [List.getElem_toArray, List.getElem_cons_succ, List.getElem_cons_zero, Act.put, List.setIfInBounds_toArray, List.set_cons_zero, List.set_cons_succ]
     refine wpAnyH_ready (rs := [5]) (by kernel_rfl) (by simp) ?_;refine (AllReadyH.cons rfl (fun K hK => ?_) AllReadyH.nil);go_simp;refine (makeC 0 _ ⟨2, 1⟩ _ (by repeat (first | assumption | exact C_newS _ _ _ | exact C_newS1 _ _ _ _ | exact C_newS2 _ _ _ _ _ | (with_reducible refine Kd.C_drew ?_) | (with_reducible refine Kd.C_alloc ?_ _) | (refine Kd.C_below ?_ (by assumption))))).mono ?_
     rintro e wb ⟨bb, rfl, hCb, hbb⟩
     refine hK.out _ _ ?_ (fun hHeld => ?_)
     ·exact ⟨pw_cell_below hbb hHeld.1, pw_cell_below hbb hHeld.2.1, pw_cell_below hbb hHeld.2.2.1, pw_cell_below hbb hHeld.2.2.2.1, hHeld.2.2.2.2.trans (hbb.mono hHeld.2.2.2.2.size)⟩
     clear hK K
     try simp only [List.getElem_toArray, List.getElem_cons_succ, List.getElem_cons_zero, Act.put, List.setIfInBounds_toArray, List.set_cons_zero, List.set_cons_succ]
     refine wpAnyH_ready (rs := [8]) (by kernel_rfl) (by simp) ?_;refine (AllReadyH.cons rfl (fun K hK => ?_) AllReadyH.nil);go_simp;refine (makeC 1 _ ⟨1, 1⟩ _ (by repeat (first | assumption | exact C_newS _ _ _ | exact C_newS1 _ _ _ _ | exact C_newS2 _ _ _ _ _ | (with_reducible refine Kd.C_drew ?_) | (with_reducible refine Kd.C_alloc ?_ _) | (refine Kd.C_below ?_ (by assumption))))).mono ?_
     rintro e wc ⟨bc, rfl, hCc, hbc⟩
     refine hK.out _ _ ?_ (fun hHeld => ?_)
     ·exact ⟨pw_cell_below hbc hHeld.1, pw_cell_below hbc hHeld.2.1, pw_cell_below hbc hHeld.2.2.1, pw_cell_below hbc hHeld.2.2.2.1, hHeld.2.2.2.2.trans (hbc.mono hHeld.2.2.2.2.size)⟩
     clear hK K
     try simp only [List.getElem_toArray, List.getElem_cons_succ, List.getElem_cons_zero, Act.put, List.setIfInBounds_toArray, List.set_cons_zero, List.set_cons_succ]
     refine wpAnyH_done (by kernel_rfl) ?_ _;refine lastPost_wp ?_
     go_wp2_with fail
     refine lastPost_wp ?_
     go_wp2_with fail
     refine (mergeC _ ba bb bc (by repeat (first | assumption | (with_reducible refine Kd.C_drew ?_) | (with_reducible refine Kd.C_alloc ?_ _) | (refine Kd.C_below ?_ (by assumption)))) (by repeat (first | assumption | (with_reducible refine Kd.C_drew ?_) | (with_reducible refine Kd.C_alloc ?_ _) | (refine Kd.C_below ?_ (by assumption)))) (by repeat (first | assumption | (with_reducible refine Kd.C_drew ?_) | (with_reducible refine Kd.C_alloc ?_ _) | (refine Kd.C_below ?_ (by assumption))))).mono ?_
     rintro e wm ⟨A3, c3, rfl, hc3, hC3, hbm⟩
     have HM := Lib.hid (And.intro hc3 (And.intro hC3 (hHeld.2.2.2.2.trans (hbm.mono hHeld.2.2.2.2.size))))
     clear hc3 hC3 hbm
     go_wp2_with fail
     refine lastPost_wp ?_
     go_wp2_with fail
     go_meet
     case rel => exact ⟨A3, c3, rfl, HM.out⟩
  ·go_simp;refine hK.out _ _ ?_ (fun hHeld => ?_)
   ·exact ⟨cellA hHeld.1 _, cellA hHeld.2.1 _, cellA hHeld.2.2.1 _, cellA hHeld.2.2.2.1 _, hHeld.2.2.2.2.alloc hHeld.2.2.2.2.size _⟩
   clear hK K
   try simp only [List.getElem_toArray, List.getElem_cons_succ, List.getElem_cons_zero, Act.put, List.setIfInBounds_toArray, List.set_cons_zero, List.set_cons_succ]
   refine wpAnyH_ready (rs := [1, 7]) (by kernel_rfl) (by simp) ?_;refine (AllReadyH.cons rfl (fun K hK => ?_) (AllReadyH.cons rfl (fun K hK => ?_) AllReadyH.nil))
   ·go_simp;refine hK.out _ _ ?_ (fun hHeld => ?_)
    ·exact ⟨cellA hHeld.1 _, cellA hHeld.2.1 _, cellA hHeld.2.2.1 _, cellA hHeld.2.2.2.1 _, hHeld.2.2.2.2.alloc hHeld.2.2.2.2.size _⟩
    clear hK K
    try simp only [List.getElem_toArray, List.getElem_cons_succ, List.getElem_cons_zero, Act.put, List.setIfInBounds_toArray, List.set_cons_zero, List.set_cons_succ]
    refine wpAnyH_ready (rs := [2, 7]) (by kernel_rfl) (by simp) ?_;refine (AllReadyH.cons rfl (fun K hK => ?_) (AllReadyH.cons rfl (fun K hK => ?_) AllReadyH.nil))
    ·go_simp;refine (makeC 0 _ ⟨1, 1⟩ _ (by repeat (first | assumption | exact C_newS _ _ _ | exact C_newS1 _ _ _ _ | exact C_newS2 _ _ _ _ _ | (with_reducible refine Kd.C_drew ?_) | (with_reducible refine Kd.C_alloc ?_ _) | (refine Kd.C_below ?_ (by assumption))))).mono ?_
     rintro e wa ⟨ba, rfl, hCa, hba⟩
     refine hK.out _ _ ?_ (fun hHeld => ?_)
     ·exact ⟨pw_cell_below hba hHeld.1, pw_cell_below hba hHeld.2.1, pw_cell_below hba hHeld.2.2.1, pw_cell_below hba hHeld.2.2.2.1, hHeld.2.2.2.2.trans (hba.mono hHeld.2.2.2.2.size)⟩
     clear hK K
     try simp only [List.getElem_toArray, List.getElem_cons_succ, List.getElem_cons_zero, Act.put, List.setIfInBounds_toArray, List.set_cons_zero, List.set_cons_succ]
     refine wpAnyH_ready (rs := [5, 7]) (by kernel_rfl) (by simp) ?_;refine (AllReadyH.cons rfl (fun K hK => ?_) (AllReadyH.cons rfl (fun K hK => ?_) AllReadyH.nil))
     ·go_simp;refine (makeC 0 _ ⟨2, 1⟩ _ (by repeat (first | assumption | exact C_newS _ _ _ | exact C_newS1 _ _ _ _ | exact C_newS2 _ _ _ _ _ | (with_reducible refine Kd.C_drew ?_) | (with_reducible refine Kd.C_alloc ?_ _) | (refine Kd.C_below ?_ (by assumption))))).mono ?_
      rintro e wb ⟨bb, rfl, hCb, hbb⟩
      refine hK.out _ _ ?_ (fun hHeld => ?_)
      ·exact ⟨pw_cell_below hbb hHeld.1, pw_cell_below hbb hHeld.2.1, pw_cell_below hbb hHeld.2.2.1, pw_cell_below hbb hHeld.2.2.2.1, hHeld.2.2.2.2.trans (hbb.mono hHeld.2.2.2.2.size)⟩
      clear hK K
      try simp only [List.getElem_toArray, List.getElem_cons_succ, List.getElem_cons_zero, Act.put, List.setIfInBounds_toArray, List.set_cons_zero, List.set_cons_succ]
      refine wpAnyH_ready (rs := [7]) (by kernel_rfl) (by simp) ?_;refine (AllReadyH.cons rfl (fun K hK => ?_) AllReadyH.nil);go_simp;refine hK.out _ _ ?_ (fun hHeld => ?_)
      ·exact ⟨cellA hHeld.1 _, cellA hHeld.2.1 _, cellA hHeld.2.2.1 _, cellA hHeld.2.2.2.1 _, hHeld.2.2.2.2.alloc hHeld.2.2.2.2.size _⟩
      clear hK K
      try simp only [List.getElem_toArray, List.getElem_cons_succ, List.getElem_cons_zero, Act.put, List.setIfInBounds_toArray, List.set_cons_zero, List.set_cons_succ]
      refine wpAnyH_ready (rs := [8]) (by kernel_rfl) (by simp) ?_;refine (AllReadyH.cons rfl (fun K hK => ?_) AllReadyH.nil);go_simp;refine (makeC 1 _ ⟨1, 1⟩ _ (by repeat (first | assumption | exact C_newS _ _ _ | exact C_newS1 _ _ _ _ | exact C_newS2 _ _ _ _ _ | (with_reducible refine Kd.C_drew ?_) | (with_reducible refine Kd.C_alloc ?_ _) | (refine Kd.C_below ?_ (by assumption))))).mono ?_
      rintro e wc ⟨bc, rfl, hCc, hbc⟩
      refine hK.out _ _ ?_ (fun hHeld => ?_)
      ·exact ⟨pw_cell_below hbc hHeld.1, pw_cell_below hbc hHeld.2.1, pw_cell_below hbc hHeld.2.2.1, pw_cell_below hbc hHeld.2.2.2.1, hHeld.2.2.2.2.trans (hbc.mono hHeld.2.2.2.2.size)⟩
      clear hK K
      try simp only [List.getElem_toArray, List.getElem_cons_succ, List.getElem_cons_zero, Act.put, List.setIfInBounds_toArray, List.set_cons_zero, List.set_cons_succ]
      refine wpAnyH_done (by kernel_rfl) ?_ _;refine lastPost_wp ?_
      go_wp2_with fail
      refine lastPost_wp ?_
      go_wp2_with fail
      refine (mergeC _ ba bb bc (by repeat (first | assumption | (with_reducible refine Kd.C_drew ?_) | (with_reducible refine Kd.C_alloc ?_ _) | (refine Kd.C_below ?_ (by assumption)))) (by repeat (first | assumption | (with_reducible refine Kd.C_drew ?_) | (with_reducible refine Kd.C_alloc ?_ _) | (refine Kd.C_below ?_ (by assumption)))) (by repeat (first | assumption | (with_reducible refine Kd.C_drew ?_) | (with_reducible refine Kd.C_alloc ?_ _) | (refine Kd.C_below ?_ (by assumption))))).mono ?_
      rintro e wm ⟨A3, c3, rfl, hc3, hC3, hbm⟩
      have HM := Lib.hid (And.intro hc3 (And.intro hC3 (hHeld.2.2.2.2.trans (hbm.mono hHeld.2.2.2.2.size))))
      clear hc3 hC3 hbm
      go_wp2_with fail
      refine lastPost_wp ?_
      go_wp2_with fail
      go_meet
      case rel => exact ⟨A3, c3, rfl, HM.out⟩
     ·go_simp;refine hK.out _ _ ?_ (fun hHeld => ?_)
      ·exact ⟨cellA hHeld.1 _, cellA hHeld.2.1 _, cellA hHeld.2.2.1 _, cellA hHeld.2.2.2.1 _, hHeld.2.2.2.2.alloc hHeld.2.2.2.2.size _⟩
      clear hK K
      try simp only [List.getElem_toArray, List.getElem_cons_succ, List.getElem_cons_zero, Act.put, List.setIfInBounds_toArray, List.set_cons_zero, List.set_cons_succ]
      refine wpAnyH_ready (rs := [5]) (by kernel_rfl) (by simp) ?_;refine (AllReadyH.cons rfl (fun K hK => ?_) AllReadyH.nil);go_simp;refine (makeC 0 _ ⟨2, 1⟩ _ (by repeat (first | assumption | exact C_newS _ _ _ | exact C_newS1 _ _ _ _ | exact C_newS2 _ _ _ _ _ | (with_reducible refine Kd.C_drew ?_) | (with_reducible refine Kd.C_alloc ?_ _) | (refine Kd.C_below ?_ (by assumption))))).mono ?_
      rintro e wb ⟨bb, rfl, hCb, hbb⟩
      refine hK.out _ _ ?_ (fun hHeld => ?_)
      ·exact ⟨pw_cell_below hbb hHeld.1, pw_cell_below hbb hHeld.2.1, pw_cell_below hbb hHeld.2.2.1, pw_cell_below hbb hHeld.2.2.2.1, hHeld.2.2.2.2.trans (hbb.mono hHeld.2.2.2.2.size)⟩
      clear hK K
      try simp only [List.getElem_toArray, List.getElem_cons_succ, List.getElem_cons_zero, Act.put, List.setIfInBounds_toArray, List.set_cons_zero, List.set_cons_succ]
      refine wpAnyH_ready (rs := [8]) (by kernel_rfl) (by simp) ?_;refine (AllReadyH.cons rfl (fun K hK => ?_) AllReadyH.nil);go_simp;refine (makeC 1 _ ⟨1, 1⟩ _ (by repeat (first | assumption | exact C_newS _ _ _ | exact C_newS1 _ _ _ _ | exact C_newS2 _ _ _ _ _ | (with_reducible refine Kd.C_drew ?_) | (with_reducible refine Kd.C_alloc ?_ _) | (refine Kd.C_below ?_ (by assumption))))).mono ?_
      rintro e wc ⟨bc, rfl, hCc, hbc⟩
      refine hK.out _ _ ?_ (fun hHeld => ?_)
      ·exact ⟨pw_cell_below hbc hHeld.1, pw_cell_below hbc hHeld.2.1, pw_cell_below hbc hHeld.2.2.1, pw_cell_below hbc hHeld.2.2.2.1, hHeld.2.2.2.2.trans (hbc.mono hHeld.2.2.2.2.size)⟩
      clear hK K
      try simp only [List.getElem_toArray, List.getElem_cons_succ, List.getElem_cons_zero, Act.put, List.setIfInBounds_toArray, List.set_cons_zero, List.set_cons_succ]
      refine wpAnyH_done (by kernel_rfl) ?_ _;refine lastPost_wp ?_
      go_wp2_with fail
      refine lastPost_wp ?_
      go_wp2_with fail
      refine (mergeC _ ba bb bc (by repeat (first | assumption | (with_reducible refine Kd.C_drew ?_) | (with_reducible refine Kd.C_alloc ?_ _) | (refine Kd.C_below ?_ (by assumption)))) (by repeat (first | assumption | (with_reducible refine Kd.C_drew ?_) | (with_reducible refine Kd.C_alloc ?_ _) | (refine Kd.C_below ?_ (by assumption)))) (by repeat (first | assumption | (with_reducible refine Kd.C_drew ?_) | (with_reducible refine Kd.C_alloc ?_ _) | (refine Kd.C_below ?_ (by assumption))))).mono ?_
      rintro e wm ⟨A3, c3, rfl, hc3, hC3, hbm⟩
      have HM := Lib.hid (And.intro hc3 (And.intro hC3 (hHeld.2.2.2.2.trans (hbm.mono hHeld.2.2.2.2.size))))
      clear hc3 hC3 hbm
      go_wp2_with fail
      refine lastPost_wp ?_
      go_wp2_with fail
      go_meet
      case rel => exact ⟨A3, c3, rfl, HM.out⟩
    ·go_simp;refine hK.out _ _ ?_ (fun hHeld => ?_)
     ·exact ⟨cellA hHeld.1 _, cellA hHeld.2.1 _, cellA hHeld.2.2.1 _, cellA hHeld.2.2.2.1 _, hHeld.2.2.2.2.alloc hHeld.2.2.2.2.size _⟩
     clear hK K
     try simp only [List.getElem_toArray, List.getElem_cons_succ, List.getElem_cons_zero, Act.put, List.setIfInBounds_toArray, List.set_cons_zero, List.set_cons_succ]
     refine wpAnyH_ready (rs := [2]) (by kernel_rfl) (by simp) ?_;refine (AllReadyH.cons rfl (fun K hK => ?_) AllReadyH.nil);go_simp;refine (makeC 0 _ ⟨1, 1⟩ _ (by repeat (first | assumption | exact C_newS _ _ _ | exact C_newS1 _ _ _ _ | exact C_newS2 _ _ _ _ _ | (with_reducible refine Kd.C_drew ?_) | (with_reducible refine Kd.C_alloc ?_ _) | (refine Kd.C_below ?_ (by assumption))))).mono ?_
     rintro e wa ⟨ba, rfl, hCa, hba⟩
     refine hK.out _ _ ?_ (fun hHeld => ?_)
     ·exact ⟨pw_cell_below hba hHeld.1, pw_cell_below hba hHeld.2.1, pw_cell_below hba hHeld.2.2.1, pw_cell_below hba hHeld.2.2.2.1, hHeld.2.2.2.2.trans (hba.mono hHeld.2.2.2.2.size)⟩
     clear hK K
     try simp only [List.getElem_toArray, List.getElem_cons_succ, List.getElem_cons_zero, Act.put, List.setIfInBounds_toArray, List.set_cons_zero, List.set_cons_succ]
     refine wpAnyH_ready (rs := [5]) (by kernel_rfl) (by simp) ?_;refine (AllReadyH.cons rfl (fun K hK => ?_) AllReadyH.nil);go_simp;refine (makeC 0 _ ⟨2, 1⟩ _ (by repeat (first | assumption | exact C_newS _ _ _ | exact C_newS1 _ _ _ _ | exact C_newS2 _ _ _ _ _ | (with_reducible refine Kd.C_drew ?_) | (with_reducible refine Kd.C_alloc ?_ _) | (refine Kd.C_below ?_ (by assumption))))).mono ?_
     rintro e wb ⟨bb, rfl, hCb, hbb⟩
     refine hK.out _ _ ?_ (fun hHeld => ?_)
     ·exact ⟨pw_cell_below hbb hHeld.1, pw_cell_below hbb hHeld.2.1, pw_cell_below hbb hHeld.2.2.1, pw_cell_below hbb hHeld.2.2.2.1, hHeld.2.2.2.2.trans (hbb.mono hHeld.2.2.2.2.size)⟩
     clear hK K
     try simp only [List.getElem_toArray, List.getElem_cons_succ, List.getElem_cons_zero, Act.put, List.setIfInBounds_toArray, List.set_cons_zero, List.set_cons_succ]
     refine wpAnyH_ready (rs := [8]) (by kernel_rfl) (by simp) ?_;refine (AllReadyH.cons rfl (fun K hK => ?_) AllReadyH.nil);go_simp;refine (makeC 1 _ ⟨1, 1⟩ _ (by repeat (first | assumption | exact C_newS _ _ _ | exact C_newS1 _ _ _ _ | exact C_newS2 _ _ _ _ _ | (with_reducible refine Kd.C_drew ?_) | (with_reducible refine Kd.C_alloc ?_ _) | (refine Kd.C_below ?_ (by assumption))))).mono ?_
     rintro e wc ⟨bc, rfl, hCc, hbc⟩
     refine hK.out _ _ ?_ (fun hHeld => ?_)
     ·exact ⟨pw_cell_below hbc hHeld.1, pw_cell_below hbc hHeld.2.1, pw_cell_below hbc hHeld.2.2.1, pw_cell_below hbc hHeld.2.2.2.1, hHeld.2.2.2.2.trans (hbc.mono hHeld.2.2.2.2.size)⟩
     clear hK K
     try simp only [List.getElem_toArray, List.getElem_cons_succ, List.getElem_cons_zero, Act.put, List.setIfInBounds_toArray, List.set_cons_zero, List.set_cons_succ]
     refine wpAnyH_done (by kernel_rfl) ?_ _;refine lastPost_wp ?_
     go_wp2_with fail
     refine lastPost_wp ?_
     go_wp2_with fail
     refine (mergeC _ ba bb bc (by repeat (first | assumption | (with_reducible refine Kd.C_drew ?_) | (with_reducible refine Kd.C_alloc ?_ _) | (refine Kd.C_below ?_ (by assumption)))) (by repeat (first | assumption | (with_reducible refine Kd.C_drew ?_) | (with_reducible refine Kd.C_alloc ?_ _) | (refine Kd.C_below ?_ (by assumption)))) (by repeat (first | assumption | (with_reducible refine Kd.C_drew ?_) | (with_reducible refine Kd.C_alloc ?_ _) | (refine Kd.C_below ?_ (by assumption))))).mono ?_
     rintro e wm ⟨A3, c3, rfl, hc3, hC3, hbm⟩
     have HM := Lib.hid (And.intro hc3 (And.intro hC3 (hHeld.2.2.2.2.trans (hbm.mono hHeld.2.2.2.2.size))))
     clear hc3 hC3 hbm
     go_wp2_with fail
     refine lastPost_wp ?_
     go_wp2_with fail
     go_meet
     case rel => exact ⟨A3, c3, rfl, HM.out⟩
   ·go_simp;refine hK.out _ _ ?_ (fun hHeld => ?_)
    ·exact ⟨cellA hHeld.1 _, cellA hHeld.2.1 _, cellA hHeld.2.2.1 _, cellA hHeld.2.2.2.1 _, hHeld.2.2.2.2.alloc hHeld.2.2.2.2.size _⟩
    clear hK K
    try simp only [List.getElem_toArray, List.getElem_cons_succ, List.getElem_cons_zero, Act.put, List.setIfInBounds_toArray, List.set_cons_zero, List.set_cons_succ]
    refine wpAnyH_ready (rs := [1]) (by kernel_rfl) (by simp) ?_;refine (AllReadyH.cons rfl (fun K hK => ?_) AllReadyH.nil);go_simp;refine hK.out _ _ ?_ (fun hHeld => ?_)
    ·exact ⟨cellA hHeld.1 _, cellA hHeld.2.1 _, cellA hHeld.2.2.1 _, cellA hHeld.2.2.2.1 _, hHeld.2.2.2.2.alloc hHeld.2.2.2.2.size _⟩
    clear hK K
    try simp only [List.getElem_toArray, List.getElem_cons_succ, List.getElem_cons_zero, Act.put, List.setIfInBounds_toArray, List.set_cons_zero, List.set_cons_succ]
    refine wpAnyH_ready (rs := [2]) (by kernel_rfl) (by simp) ?_;refine (AllReadyH.cons rfl (fun K hK => ?_) AllReadyH.nil);go_simp;refine (makeC 0 _ ⟨1, 1⟩ _ (by repeat (first | assumption | exact C_newS _ _ _ | exact C_newS1 _ _ _ _ | exact C_newS2 _ _ _ _ _ | (with_reducible refine Kd.C_drew ?_) | (with_reducible refine Kd.C_alloc ?_ _) | (refine Kd.C_below ?_ (by assumption))))).mono ?_
    rintro e wa ⟨ba, rfl, hCa, hba⟩
    refine hK.out _ _ ?_ (fun hHeld => ?_)
    ·exact ⟨pw_cell_below hba hHeld.1, pw_cell_below hba hHeld.2.1, pw_cell_below hba hHeld.2.2.1, pw_cell_below hba hHeld.2.2.2.1, hHeld.2.2.2.2.trans (hba.mono hHeld.2.2.2.2.size)⟩
    clear hK K
    try simp only [List.getElem_toArray, List.getElem_cons_succ, List.getElem_cons_zero, Act.put, List.setIfInBounds_toArray, List.set_cons_zero, List.set_cons_succ]
    refine wpAnyH_ready (rs := [5]) (by kernel_rfl) (by simp) ?_;refine (AllReadyH.cons rfl (fun K hK => ?_) AllReadyH.nil);go_simp;refine (makeC 0 _ ⟨2, 1⟩ _ (by repeat (first | assumption | exact C_newS _ _ _ | exact C_newS1 _ _ _ _ | exact C_newS2 _ _ _ _ _ | (with_reducible refine Kd.C_drew ?_) | (with_reducible refine Kd.C_alloc ?_ _) | (refine Kd.C_below ?_ (by assumption))))).mono ?_
    rintro e wb ⟨bb, rfl, hCb, hbb⟩
    refine hK.out _ _ ?_ (fun hHeld => ?_)
    ·exact ⟨pw_cell_below hbb hHeld.1, pw_cell_below hbb hHeld.2.1, pw_cell_below hbb hHeld.2.2.1, pw_cell_below hbb hHeld.2.2.2.1, hHeld.2.2.2.2.trans (hbb.mono hHeld.2.2.2.2.size)⟩
    clear hK K
    try simp only [List.getElem_toArray, List.getElem_cons_succ, List.getElem_cons_zero, Act.put, List.setIfInBounds_toArray, List.set_cons_zero, List.set_cons_succ]
    refine wpAnyH_ready (rs := [8]) (by kernel_rfl) (by simp) ?_;refine (AllReadyH.cons rfl (fun K hK => ?_) AllReadyH.nil);go_simp;refine (makeC 1 _ ⟨1, 1⟩ _ (by repeat (first | assumption | exact C_newS _ _ _ | exact C_newS1 _ _ _ _ | exact C_newS2 _ _ _ _ _ | (with_reducible refine Kd.C_drew ?_) | (with_reducible refine Kd.C_alloc ?_ _) | (refine Kd.C_below ?_ (by assumption))))).mono ?_
    rintro e wc ⟨bc, rfl, hCc, hbc⟩
    refine hK.out _ _ ?_ (fun hHeld => ?_)
    ·exact ⟨pw_cell_below hbc hHeld.1, pw_cell_below hbc hHeld.2.1, pw_cell_below hbc hHeld.2.2.1, pw_cell_below hbc hHeld.2.2.2.1, hHeld.2.2.2.2.trans (hbc.mono hHeld.2.2.2.2.size)⟩
    clear hK K
    try simp only [List.getElem_toArray, List.getElem_cons_succ, List.getElem_cons_zero, Act.put, List.setIfInBounds_toArray, List.set_cons_zero, List.set_cons_succ]
    refine wpAnyH_done (by kernel_rfl) ?_ _;refine lastPost_wp ?_
    go_wp2_with fail
    refine lastPost_wp ?_
    go_wp2_with fail
    refine (mergeC _ ba bb bc (by repeat (first | assumption | (with_reducible refine Kd.C_drew ?_) | (with_reducible refine Kd.C_alloc ?_ _) | (refine Kd.C_below ?_ (by assumption)))) (by repeat (first | assumption | (with_reducible refine Kd.C_drew ?_) | (with_reducible refine Kd.C_alloc ?_ _) | (refine Kd.C_below ?_ (by assumption)))) (by repeat (first | assumption | (with_reducible refine Kd.C_drew ?_) | (with_reducible refine Kd.C_alloc ?_ _) | (refine Kd.C_below ?_ (by assumption))))).mono ?_
    rintro e wm ⟨A3, c3, rfl, hc3, hC3, hbm⟩
    have HM := Lib.hid (And.intro hc3 (And.intro hC3 (hHeld.2.2.2.2.trans (hbm.mono hHeld.2.2.2.2.size))))
    clear hc3 hC3 hbm
    go_wp2_with fail
    refine lastPost_wp ?_
    go_wp2_with fail
    go_meet
    case rel => exact ⟨A3, c3, rfl, HM.out⟩
  ·go_simp;refine hK.out _ _ ?_ (fun hHeld => ?_)
   ·exact ⟨cellA hHeld.1 _, cellA hHeld.2.1 _, cellA hHeld.2.2.1 _, cellA hHeld.2.2.2.1 _, hHeld.2.2.2.2.alloc hHeld.2.2.2.2.size _⟩
   clear hK K
   try simp only [List.getElem_toArray, List.getElem_cons_succ, List.getElem_cons_zero, Act.put, List.setIfInBounds_toArray, List.set_cons_zero, List.set_cons_succ]
   refine wpAnyH_ready (rs := [1, 4]) (by kernel_rfl) (by simp) ?_;refine (AllReadyH.cons rfl (fun K hK => ?_) (AllReadyH.cons rfl (fun K hK => ?_) AllReadyH.nil))
   ·go_simp;refine hK.out _ _ ?_ (fun hHeld => ?_)
    ·exact ⟨cellA hHeld.1 _, cellA hHeld.2.1 _, cellA hHeld.2.2.1 _, cellA hHeld.2.2.2.1 _, hHeld.2.2.2.2.alloc hHeld.2.2.2.2.size _⟩
    clear hK K
    try simp only [List.getElem_toArray, List.getElem_cons_succ, List.getElem_cons_zero, Act.put, List.setIfInBounds_toArray, List.set_cons_zero, List.set_cons_succ]
    refine wpAnyH_ready (rs := [2, 4]) (by kernel_rfl) (by simp) ?_;refine (AllReadyH.cons rfl (fun K hK => ?_) (AllReadyH.cons rfl (fun K hK => ?_) AllReadyH.nil))
    ·go_simp;refine (makeC 0 _ ⟨1, 1⟩ _ (by repeat (first | assumption | exact C_newS _ _ _ | exact C_newS1 _ _ _ _ | exact C_newS2 _ _ _ _ _ | (with_reducible refine Kd.C_drew ?_) | (with_reducible refine Kd.C_alloc ?_ _) | (refine Kd.C_below ?_ (by assumption))))).mono ?_
     rintro e wa ⟨ba, rfl, hCa, hba⟩
     refine hK.out _ _ ?_ (fun hHeld => ?_)
     ·exact ⟨pw_cell_below hba hHeld.1, pw_cell_below hba hHeld.2.1, pw_cell_below hba hHeld.2.2.1, pw_cell_below hba hHeld.2.2.2.1, hHeld.2.2.2.2.trans (hba.mono hHeld.2.2.2.2.size)⟩
     clear hK K
     try simp only [List.getElem_toArray, List.getElem_cons_succ, List.getElem_cons_zero, Act.put, List.setIfInBounds_toArray, List.set_cons_zero, List.set_cons_succ]
     refine wpAnyH_ready (rs := [4]) (by kernel_rfl) (by simp) ?_;refine (AllReadyH.cons rfl (fun K hK => ?_) AllReadyH.nil);go_simp;refine hK.out _ _ ?_ (fun hHeld => ?_)
     ·exact ⟨cellA hHeld.1 _, cellA hHeld.2.1 _, cellA hHeld.2.2.1 _, cellA hHeld.2.2.2.1 _, hHeld.2.2.2.2.alloc hHeld.2.2.2.2.size _⟩
     clear hK K
     try simp only [List.getElem_toArray, List.getElem_cons_succ, List.getElem_cons_zero, Act.put, List.setIfInBounds_toArray, List.set_cons_zero, List.set_cons_succ]
     refine wpAnyH_ready (rs := [5]) (by kernel_rfl) (by simp) ?_;refine (AllReadyH.cons rfl (fun K hK => ?_) AllReadyH.nil);go_simp;refine (makeC 0 _ ⟨2, 1⟩ _ (by repeat (first | assumption | exact C_newS _ _ _ | exact C_newS1 _ _ _ _ | exact C_newS2 _ _ _ _ _ | (with_reducible refine Kd.C_drew ?_) | (with_reducible refine Kd.C_alloc ?_ _) | (refine Kd.C_below ?_ (by assumption))))).mono ?_
     rintro e wb ⟨bb, rfl, hCb, hbb⟩
     refine hK.out _ _ ?_ (fun hHeld => ?_)
     ·exact ⟨pw_cell_below hbb hHeld.1, pw_cell_below hbb hHeld.2.1, pw_cell_below hbb hHeld.2.2.1, pw_cell_below hbb hHeld.2.2.2.1, hHeld.2.2.2.2.trans (hbb.mono hHeld.2.2.2.2.size)⟩
     clear hK K
     try simp only [List.getElem_toArray, List.getElem_cons_succ, List.getElem_cons_zero, Act.put, List.setIfInBounds_toArray, List.set_cons_zero, List.set_cons_succ]
     refine wpAnyH_ready (rs := [8]) (by kernel_rfl) (by simp) ?_;refine (AllReadyH.cons rfl (fun K hK => ?_) AllReadyH.nil);go_simp;refine (makeC 1 _ ⟨1, 1⟩ _ (by repeat (first | assumption | exact C_newS _ _ _ | exact C_newS1 _ _ _ _ | exact C_newS2 _ _ _ _ _ | (with_reducible refine Kd.C_drew ?_) | (with_reducible refine Kd.C_alloc ?_ _) | (refine Kd.C_below ?_ (by assumption))))).mono ?_
     rintro e wc ⟨bc, rfl, hCc, hbc⟩
     refine hK.out _ _ ?_ (fun hHeld => ?_)
     ·exact ⟨pw_cell_below hbc hHeld.1, pw_cell_below hbc hHeld.2.1, pw_cell_below hbc hHeld.2.2.1, pw_cell_below hbc hHeld.2.2.2.1, hHeld.2.2.2.2.trans (hbc.mono hHeld.2.2.2.2.size)⟩
     clear hK K
     try simp only [List.getElem_toArray, List.getElem_cons_succ, List.getElem_cons_zero, Act.put, List.setIfInBounds_toArray, List.set_cons_zero, List.set_cons_succ]
     refine wpAnyH_done (by kernel_rfl) ?_ _;refine lastPost_wp ?_
     go_wp2_with fail
     refine lastPost_wp ?_
     go_wp2_with fail
     refine (mergeC _ ba bb bc (by repeat (first | assumption | (with_reducible refine Kd.C_drew ?_) | (with_reducible refine Kd.C_alloc ?_ _) | (refine Kd.C_below ?_ (by assumption)))) (by repeat (first | assumption | (with_reducible refine Kd.C_drew ?_) | (with_reducible refine Kd.C_alloc ?_ _) | (refine Kd.C_below ?_ (by assumption)))) (by repeat (first | assumption | (with_reducible refine Kd.C_drew ?_) | (with_reducible refine Kd.C_alloc ?_ _) | (refine Kd.C_below ?_ (by assumption))))).mono ?_
     rintro e wm ⟨A3, c3, rfl, hc3, hC3, hbm⟩
     have HM := Lib.hid (And.intro hc3 (And.intro hC3 (hHeld.2.2.2.2.trans (hbm.mono hHeld.2.2.2.2.size))))
     clear hc3 hC3 hbm
     go_wp2_with fail
     refine lastPost_wp ?_
     go_wp2_with fail
     go_meet
     case rel => exact ⟨A3, c3, rfl, HM.out⟩
    ·go_simp;refine hK.out _ _ ?_ (fun hHeld => ?_)
     ·exact ⟨cellA hHeld.1 _, cellA hHeld.2.1 _, cellA hHeld.2.2.1 _, cellA hHeld.2.2.2.1 _, hHeld.2.2.2.2.alloc hHeld.2.2.2.2.size _⟩
     clear hK K
     try simp only [List.getElem_toArray, List.getElem_cons_succ, List.getElem_cons_zero, Act.put, List.setIfInBounds_toArray, List.set_cons_zero, List.set_cons_succ]
     refine wpAnyH_ready (rs := [2]) (by kernel_rfl) (by simp) ?_;refine (AllReadyH.cons rfl (fun K hK => ?_) AllReadyH.nil);go_simp;refine (makeC 0 _ ⟨1, 1⟩ _ (by repeat (first | assumption | exact C_newS _ _ _ | exact C_newS1 _ _ _ _ | exact C_newS2 _ _ _ _ _ | (with_reducible refine Kd.C_drew ?_) | (with_reducible refine Kd.C_alloc ?_ _) | (refine Kd.C_below ?_ (by assumption))))).mono ?_
     rintro e wa ⟨ba, rfl, hCa, hba⟩
     refine hK.out _ _ ?_ (fun hHeld => ?_)
     ·exact ⟨pw_cell_below hba hHeld.1, pw_cell_below hba hHeld.2.1, pw_cell_below hba hHeld.2.2.1, pw_cell_below hba hHeld.2.2.2.1, hHeld.2.2.2.2.trans (hba.mono hHeld.2.2.2.2.size)⟩
     clear hK K
     try simp only [List.getElem_toArray, List.getElem_cons_succ, List.getElem_cons_zero, Act.put, List.setIfInBounds_toArray, List.set_cons_zero, List.set_cons_succ]
     refine wpAnyH_ready (rs := [5]) (by kernel_rfl) (by simp) ?_;refine (AllReadyH.cons rfl (fun K hK => ?_) AllReadyH.nil);go_simp;refine (makeC 0 _ ⟨2, 1⟩ _ (by repeat (first | assumption | exact C_newS _ _ _ | exact C_newS1 _ _ _ _ | exact C_newS2 _ _ _ _ _ | (with_reducible refine Kd.C_drew ?_) | (with_reducible refine Kd.C_alloc ?_ _) | (refine Kd.C_below ?_ (by assumption))))).mono ?_
     rintro e wb ⟨bb, rfl, hCb, hbb⟩
     refine hK.out _ _ ?_ (fun hHeld => ?_)
     ·exact ⟨pw_cell_below hbb hHeld.1, pw_cell_below hbb hHeld.2.1, pw_cell_below hbb hHeld.2.2.1, pw_cell_below hbb hHeld.2.2.2.1, hHeld.2.2.2.2.trans (hbb.mono hHeld.2.2.2.2.size)⟩
     clear hK K
     try simp only [List.getElem_toArray, List.getElem_cons_succ, List.getElem_cons_zero, Act.put, List.setIfInBounds_toArray, List.set_cons_zero, List.set_cons_succ]
     refine wpAnyH_ready (rs := [8]) (by kernel_rfl) (by simp) ?_;refine (AllReadyH.cons rfl (fun K hK => ?_) AllReadyH.nil);go_simp;refine (makeC 1 _ ⟨1, 1⟩ _ (by repeat (first | assumption | exact C_newS _ _ _ | exact C_newS1 _ _ _ _ | exact C_newS2 _ _ _ _ _ | (with_reducible refine Kd.C_drew ?_) | (with_reducible refine Kd.C_alloc ?_ _) | (refine Kd.C_below ?_ (by assumption))))).mono ?_
     rintro e wc ⟨bc, rfl, hCc, hbc⟩
     refine hK.out _ _ ?_ (fun hHeld => ?_)
     ·exact ⟨pw_cell_below hbc hHeld.1, pw_cell_below hbc hHeld.2.1, pw_cell_below hbc hHeld.2.2.1, pw_cell_below hbc hHeld.2.2.2.1, hHeld.2.2.2.2.trans (hbc.mono hHeld.2.2.2.2.size)⟩
     clear hK K
     try simp only [List.getElem_toArray, List.getElem_cons_succ, List.getElem_cons_zero, Act.put, List.setIfInBounds_toArray, List.set_cons_zero, List.set_cons_succ]
     refine wpAnyH_done (by kernel_rfl) ?_ _;refine lastPost_wp ?_
     go_wp2_with fail
     refine lastPost_wp ?_
     go_wp2_with fail
     refine (mergeC _ ba bb bc (by repeat (first | assumption | (with_reducible refine Kd.C_drew ?_) | (with_reducible refine Kd.C_alloc ?_ _) | (refine Kd.C_below ?_ (by assumption)))) (by repeat (first | assumption | (with_reducible refine Kd.C_drew ?_) | (with_reducible refine Kd.C_alloc ?_ _) | (refine Kd.C_below ?_ (by assumption)))) (by repeat (first | assumption | (with_reducible refine Kd.C_drew ?_) | (with_reducible refine Kd.C_alloc ?_ _) | (refine Kd.C_below ?_ (by assumption))))).mono ?_
     rintro e wm ⟨A3, c3, rfl, hc3, hC3, hbm⟩
     have HM := Lib.hid (And.intro hc3 (And.intro hC3 (hHeld.2.2.2.2.trans (hbm.mono hHeld.2.2.2.2.size))))
     clear hc3 hC3 hbm
     go_wp2_with fail
     refine lastPost_wp ?_
     go_wp2_with fail
     go_meet
     case rel => exact ⟨A3, c3, rfl, HM.out⟩
   ·go_simp;refine hK.out _ _ ?_ (fun hHeld => ?_)
    ·exact ⟨cellA hHeld.1 _, cellA hHeld.2.1 _, cellA hHeld.2.2.1 _, cellA hHeld.2.2.2.1 _, hHeld.2.2.2.2.alloc hHeld.2.2.2.2.size _⟩
    clear hK K
    try simp only [List.getElem_toArray, List.getElem_cons_succ, List.getElem_cons_zero, Act.put, List.setIfInBounds_toArray, List.set_cons_zero, List.set_cons_succ]
    refine wpAnyH_ready (rs := [1]) (by kernel_rfl) (by simp) ?_;refine (AllReadyH.cons rfl (fun K hK => ?_) AllReadyH.nil);go_simp;refine hK.out _ _ ?_ (fun hHeld => ?_)
    ·exact ⟨cellA hHeld.1 _, cellA hHeld.2.1 _, cellA hHeld.2.2.1 _, cellA hHeld.2.2.2.1 _, hHeld.2.2.2.2.alloc hHeld.2.2.2.2.size _⟩
    clear hK K
    try simp only [List.getElem_toArray, List.getElem_cons_succ, List.getElem_cons_zero, Act.put, List.setIfInBounds_toArray, List.set_cons_zero, List.set_cons_succ]
    refine wpAnyH_ready (rs := [2]) (by kernel_rfl) (by simp) ?_;refine (AllReadyH.cons rfl (fun K hK => ?_) AllReadyH.nil);go_simp;refine (makeC 0 _ ⟨1, 1⟩ _ (by repeat (first | assumption | exact C_newS _ _ _ | exact C_newS1 _ _ _ _ | exact C_newS2 _ _ _ _ _ | (with_reducible refine Kd.C_drew ?_) | (with_reducible refine Kd.C_alloc ?_ _) | (refine Kd.C_below ?_ (by assumption))))).mono ?_
    rintro e wa ⟨ba, rfl, hCa, hba⟩
    refine hK.out _ _ ?_ (fun hHeld => ?_)
    ·exact ⟨pw_cell_below hba hHeld.1, pw_cell_below hba hHeld.2.1, pw_cell_below hba hHeld.2.2.1, pw_cell_below hba hHeld.2.2.2.1, hHeld.2.2.2.2.trans (hba.mono hHeld.2.2.2.2.size)⟩
    clear hK K
    try simp only [List.getElem_toArray, List.getElem_cons_succ, List.getElem_cons_zero, Act.put, List.setIfInBounds_toArray, List.set_cons_zero, List.set_cons_succ]
    refine wpAnyH_ready (rs := [5]) (by kernel_rfl) (by simp) ?_;refine (AllReadyH.cons rfl (fun K hK => ?_) AllReadyH.nil);go_simp;refine (makeC 0 _ ⟨2, 1⟩ _ (by repeat (first | assumption | exact C_newS _ _ _ | exact C_newS1 _ _ _ _ | exact C_newS2 _ _ _ _ _ | (with_reducible refine Kd.C_drew ?_) | (with_reducible refine Kd.C_alloc ?_ _) | (refine Kd.C_below ?_ (by assumption))))).mono ?_
    rintro e wb ⟨bb, rfl, hCb, hbb⟩
    refine hK.out _ _ ?_ (fun hHeld => ?_)
    ·exact ⟨pw_cell_below hbb hHeld.1, pw_cell_below hbb hHeld.2.1, pw_cell_below hbb hHeld.2.2.1, pw_cell_below hbb hHeld.2.2.2.1, hHeld.2.2.2.2.trans (hbb.mono hHeld.2.2.2.2.size)⟩
    clear hK K
    try simp only [List.getElem_toArray, List.getElem_cons_succ, List.getElem_cons_zero, Act.put, List.setIfInBounds_toArray, List.set_cons_zero, List.set_cons_succ]
    refine wpAnyH_ready (rs := [8]) (by kernel_rfl) (by simp) ?_;refine (AllReadyH.cons rfl (fun K hK => ?_) AllReadyH.nil);go_simp;refine (makeC 1 _ ⟨1, 1⟩ _ (by repeat (first | assumption | exact C_newS _ _ _ | exact C_newS1 _ _ _ _ | exact C_newS2 _ _ _ _ _ | (with_reducible refine Kd.C_drew ?_) | (with_reducible refine Kd.C_alloc ?_ _) | (refine Kd.C_below ?_ (by assumption))))).mono ?_
    rintro e wc ⟨bc, rfl, hCc, hbc⟩
    refine hK.out _ _ ?_ (fun hHeld => ?_)
    ·exact ⟨pw_cell_below hbc hHeld.1, pw_cell_below hbc hHeld.2.1, pw_cell_below hbc hHeld.2.2.1, pw_cell_below hbc hHeld.2.2.2.1, hHeld.2.2.2.2.trans (hbc.mono hHeld.2.2.2.2.size)⟩
    clear hK K
    try simp only [List.getElem_toArray, List.getElem_cons_succ, List.getElem_cons_zero, Act.put, List.setIfInBounds_toArray, List.set_cons_zero, List.set_cons_succ]
    refine wpAnyH_done (by kernel_rfl) ?_ _;refine lastPost_wp ?_
    go_wp2_with fail
    refine lastPost_wp ?_
    go_wp2_with fail
    refine (mergeC _ ba bb bc (by repeat (first | assumption | (with_reducible refine Kd.C_drew ?_) | (with_reducible refine Kd.C_alloc ?_ _) | (refine Kd.C_below ?_ (by assumption)))) (by repeat (first | assumption | (with_reducible refine Kd.C_drew ?_) | (with_reducible refine Kd.C_alloc ?_ _) | (refine Kd.C_below ?_ (by assumption)))) (by repeat (first | assumption | (with_reducible refine Kd.C_drew ?_) | (with_reducible refine Kd.C_alloc ?_ _) | (refine Kd.C_below ?_ (by assumption))))).mono ?_
    rintro e wm ⟨A3, c3, rfl, hc3, hC3, hbm⟩
    have HM := Lib.hid (And.intro hc3 (And.intro hC3 (hHeld.2.2.2.2.trans (hbm.mono hHeld.2.2.2.2.size))))
    clear hc3 hC3 hbm
    go_wp2_with fail
    refine lastPost_wp ?_
    go_wp2_with fail
    go_meet
    case rel => exact ⟨A3, c3, rfl, HM.out⟩
 case rest =>
  obtain ⟨A3, c3, rfl, hc3, hC3, hb3⟩ := hcut
  have HC3 := Lib.hid (And.intro hc3 hC3)
  have hb3' := hb3
  clear hc3 hC3
  go_wp2_with fail
  refine (putC A3 c3 _ HC3.out.2).mono ?_
  rintro e wp ⟨A4, c4, rfl, hc4, hC4, hbp⟩
  have HC4 := Lib.hid (And.intro hc4 (And.intro hC4 hbp))
  clear hc4 hC4 hbp
  go_wp2_with fail
  refine (parseC A4 c4 _ HC4.out.2.1 HC4.out.1).mono ?_
  rintro e w4 ⟨A5, c5, rfl, hc5, hC5, hb5⟩
  have hb4 : Below w1.heap.size w1 w4 := hb3.trans ((HC4.out.2.2.trans (hb5.mono HC4.out.2.2.size)).mono hb3.size)
  have HC := Lib.hid (And.intro hc5 (And.intro hC5 (And.intro (Kd.C_below HC3.out.2 (HC4.out.2.2.trans (hb5.mono HC4.out.2.2.size))) HC3.out.1)))
  clear hc5 hC5 hb5
  have hx0' := pw_cell_below hb4 hx0
  have hx1' := pw_cell_below hb4 hx1
  have hy0' := pw_cell_below hb4 hy0
  have hy1' := pw_cell_below hb4 hy1
  go_upto_region 4 with fail
  refine wp_region_held (S := (fun W => W.cell? ⟨w.heap.size, 0, none⟩ = some (.int .i64 1) ∧ W.cell? ⟨w.heap.size, 1, none⟩ = some (.int .i64 1) ∧ W.cell? ⟨w.heap.size + 1, 0, none⟩ = some (.int .i64 2) ∧ W.cell? ⟨w.heap.size + 1, 1, none⟩ = some (.int .i64 1) ∧ Below w4.heap.size w4 W)) (by kernel_rfl) ?_;simp only [List.size_toArray, List.length_cons, List.length_nil, Nat.zero_add, Nat.reduceAdd]
  have hHeld : ((fun W => W.cell? ⟨w.heap.size, 0, none⟩ = some (.int .i64 1) ∧ W.cell? ⟨w.heap.size, 1, none⟩ = some (.int .i64 1) ∧ W.cell? ⟨w.heap.size + 1, 0, none⟩ = some (.int .i64 2) ∧ W.cell? ⟨w.heap.size + 1, 1, none⟩ = some (.int .i64 1) ∧ Below w4.heap.size w4 W)) w4.drew := ⟨hx0', hx1', hy0', hy1', below_drew (Below.refl _ _)⟩
  refine wpAnyH_take (i := 0) (v := ?_) rfl (by kernel_rfl) (by kernel_rfl) (by kernel_rfl) (fun _ _ _ h => h) (Or.inl ⟨by rfl, ?_⟩) (by assumption) ?_;rotate_left
  ·(intro w hSw; (try dsimp only at hSw); go_split_ands; go_simp; try with_reducible rfl)
  try simp only [List.getElem_toArray, List.getElem_cons_succ, List.getElem_cons_zero, Act.put, List.setIfInBounds_toArray, List.set_cons_zero, List.set_cons_succ]
  refine wpAnyH_take (i := 1) (v := ?_) rfl (by kernel_rfl) (by kernel_rfl) (by kernel_rfl) (fun _ _ _ h => h) (Or.inl ⟨by rfl, ?_⟩) (by assumption) ?_;rotate_left
  ·(intro w hSw; (try dsimp only at hSw); go_split_ands; go_simp; try with_reducible rfl)
  try simp only [List.getElem_toArray, List.getElem_cons_succ, List.getElem_cons_zero, Act.put, List.setIfInBounds_toArray, List.set_cons_zero, List.set_cons_succ]
  refine wpAnyH_take (i := 2) (v := ?_) rfl (by kernel_rfl) (by kernel_rfl) (by kernel_rfl) (fun _ _ _ h => h) (Or.inl ⟨by rfl, ?_⟩) (by assumption) ?_;rotate_left
  ·(intro w hSw; (try dsimp only at hSw); go_split_ands; go_simp; try with_reducible rfl)
  try simp only [List.getElem_toArray, List.getElem_cons_succ, List.getElem_cons_zero, Act.put, List.setIfInBounds_toArray, List.set_cons_zero, List.set_cons_succ]
  refine wpAnyH_take (i := 5) (v := ?_) rfl (by kernel_rfl) (by kernel_rfl) (by kernel_rfl) (fun _ _ _ h => h) (Or.inl ⟨by rfl, ?_⟩) (by assumption) ?_;rotate_left
  ·(intro w hSw; (try dsimp only at hSw); go_split_ands; go_simp; try with_reducible rfl)
  try simp only [List.getElem_toArray, List.getElem_cons_succ, List.getElem_cons_zero, Act.put, List.setIfInBounds_toArray, List.set_cons_zero, List.set_cons_succ]
  refine wpAnyH_ready (rs := [3, 6]) (by kernel_rfl) (by simp) ?_;refine (AllReadyH.cons rfl (fun K hK => ?_) (AllReadyH.cons rfl (fun K hK => ?_) AllReadyH.nil))
  ·go_simp;refine hK.out _ _ ?_ (fun hHeld => ?_)
   ·first | exact ⟨cellA hHeld.1 _, cellA hHeld.2.1 _, cellA hHeld.2.2.1 _, cellA hHeld.2.2.2.1 _, hHeld.2.2.2.2.alloc hHeld.2.2.2.2.size _⟩ | exact ⟨pw_cell_below hbn hHeld.1, pw_cell_below hbn hHeld.2.1, pw_cell_below hbn hHeld.2.2.1, pw_cell_below hbn hHeld.2.2.2.1, hHeld.2.2.2.2.trans (hbn.mono hHeld.2.2.2.2.size)⟩
   clear hK K
   try simp only [List.getElem_toArray, List.getElem_cons_succ, List.getElem_cons_zero, Act.put, List.setIfInBounds_toArray, List.set_cons_zero, List.set_cons_succ]
   refine wpAnyH_take (i := 4) (v := ?_) rfl (by kernel_rfl) (by kernel_rfl) (by kernel_rfl) (fun _ _ _ h => h) (Or.inl ⟨by rfl, ?_⟩) (by assumption) ?_;rotate_left
   ·(intro w hSw; (try dsimp only at hSw); go_split_ands; go_simp; try with_reducible rfl)
   try simp only [List.getElem_toArray, List.getElem_cons_succ, List.getElem_cons_zero, Act.put, List.setIfInBounds_toArray, List.set_cons_zero, List.set_cons_succ]
   refine wpAnyH_ready (rs := [6]) (by kernel_rfl) (by simp) ?_;refine (AllReadyH.cons rfl (fun K hK => ?_) AllReadyH.nil);go_simp;refine hK.out _ _ ?_ (fun hHeld => ?_)
   ·first | exact ⟨cellA hHeld.1 _, cellA hHeld.2.1 _, cellA hHeld.2.2.1 _, cellA hHeld.2.2.2.1 _, hHeld.2.2.2.2.alloc hHeld.2.2.2.2.size _⟩ | exact ⟨pw_cell_below hbn hHeld.1, pw_cell_below hbn hHeld.2.1, pw_cell_below hbn hHeld.2.2.1, pw_cell_below hbn hHeld.2.2.2.1, hHeld.2.2.2.2.trans (hbn.mono hHeld.2.2.2.2.size)⟩
   clear hK K
   try simp only [List.getElem_toArray, List.getElem_cons_succ, List.getElem_cons_zero, Act.put, List.setIfInBounds_toArray, List.set_cons_zero, List.set_cons_succ]
   refine wpAnyH_take (i := 7) (v := ?_) rfl (by kernel_rfl) (by kernel_rfl) (by kernel_rfl) (fun _ _ _ h => h) (Or.inl ⟨by rfl, ?_⟩) (by assumption) ?_;rotate_left
   ·(intro w hSw; (try dsimp only at hSw); go_split_ands; go_simp; try with_reducible rfl)
   try simp only [List.getElem_toArray, List.getElem_cons_succ, List.getElem_cons_zero, Act.put, List.setIfInBounds_toArray, List.set_cons_zero, List.set_cons_succ]
   refine wpAnyH_ready (rs := [8]) (by kernel_rfl) (by simp) ?_;refine (AllReadyH.cons rfl (fun K hK => ?_) AllReadyH.nil);go_simp;refine hK.out _ _ ?_ (fun hHeld => ?_)
   ·first | exact ⟨cellA hHeld.1 _, cellA hHeld.2.1 _, cellA hHeld.2.2.1 _, cellA hHeld.2.2.2.1 _, hHeld.2.2.2.2.alloc hHeld.2.2.2.2.size _⟩ | exact ⟨pw_cell_below hbn hHeld.1, pw_cell_below hbn hHeld.2.1, pw_cell_below hbn hHeld.2.2.1, pw_cell_below hbn hHeld.2.2.2.1, hHeld.2.2.2.2.trans (hbn.mono hHeld.2.2.2.2.size)⟩
   clear hK K
   try simp only [List.getElem_toArray, List.getElem_cons_succ, List.getElem_cons_zero, Act.put, List.setIfInBounds_toArray, List.set_cons_zero, List.set_cons_succ]
   refine wpAnyH_ready (rs := [9]) (by kernel_rfl) (by simp) ?_;refine (AllReadyH.cons rfl (fun K hK => ?_) AllReadyH.nil);go_simp
   (first | with_reducible refine (same6A A3 c3 w4 HC.out.2.2.1 HC.out.2.2.2).mono ?_ | with_reducible refine (same6B A3 c3 w4 HC.out.2.2.1 HC.out.2.2.2).mono ?_)
   rintro e wn ⟨rfl, hbn⟩
   refine hK.out _ _ ?_ (fun hHeld => ?_)
   ·exact ⟨pw_cell_below hbn hx0', pw_cell_below hbn hx1', pw_cell_below hbn hy0', pw_cell_below hbn hy1', hbn⟩
   clear hK K hbn
   try simp only [List.getElem_toArray, List.getElem_cons_succ, List.getElem_cons_zero, Act.put, List.setIfInBounds_toArray, List.set_cons_zero, List.set_cons_succ]
   refine wpAnyH_take (i := 10) (v := ?_) rfl (by kernel_rfl) (by kernel_rfl) (by kernel_rfl) (fun _ _ _ h => h) (Or.inl ⟨by rfl, ?_⟩) (by assumption) ?_;rotate_left
   ·(intro w hSw; (try dsimp only at hSw); go_split_ands; go_simp; try with_reducible rfl)
   try simp only [List.getElem_toArray, List.getElem_cons_succ, List.getElem_cons_zero, Act.put, List.setIfInBounds_toArray, List.set_cons_zero, List.set_cons_succ]
   refine wpAnyH_take (i := 11) (v := ?_) rfl (by kernel_rfl) (by kernel_rfl) (by kernel_rfl) (fun _ _ _ h => h) (Or.inl ⟨by rfl, ?_⟩) (by assumption) ?_;rotate_left
   ·(intro w hSw; (try dsimp only at hSw); go_split_ands; go_simp; try with_reducible rfl)
   try simp only [List.getElem_toArray, List.getElem_cons_succ, List.getElem_cons_zero, Act.put, List.setIfInBounds_toArray, List.set_cons_zero, List.set_cons_succ]
   refine wpAnyH_ready (rs := [12]) (by kernel_rfl) (by simp) ?_;refine (AllReadyH.cons rfl (fun K hK => ?_) AllReadyH.nil);go_simp
   with_reducible refine (numC 0 _).mono ?_
   rintro e wn ⟨rfl, hbn⟩
   refine hK.out _ _ ?_ (fun hHeld => ?_)
   ·first | exact ⟨cellA hHeld.1 _, cellA hHeld.2.1 _, cellA hHeld.2.2.1 _, cellA hHeld.2.2.2.1 _, hHeld.2.2.2.2.alloc hHeld.2.2.2.2.size _⟩ | exact ⟨pw_cell_below hbn hHeld.1, pw_cell_below hbn hHeld.2.1, pw_cell_below hbn hHeld.2.2.1, pw_cell_below hbn hHeld.2.2.2.1, hHeld.2.2.2.2.trans (hbn.mono hHeld.2.2.2.2.size)⟩
   clear hK K hbn
   try simp only [List.getElem_toArray, List.getElem_cons_succ, List.getElem_cons_zero, Act.put, List.setIfInBounds_toArray, List.set_cons_zero, List.set_cons_succ]
   refine wpAnyH_take (i := 13) (v := ?_) rfl (by kernel_rfl) (by kernel_rfl) (by kernel_rfl) (fun _ _ _ h => h) (Or.inl ⟨by rfl, ?_⟩) (by assumption) ?_;rotate_left
   ·(intro w hSw; (try dsimp only at hSw); go_split_ands; go_simp; try with_reducible rfl)
   try simp only [List.getElem_toArray, List.getElem_cons_succ, List.getElem_cons_zero, Act.put, List.setIfInBounds_toArray, List.set_cons_zero, List.set_cons_succ]
   refine wpAnyH_take (i := 14) (v := ?_) rfl (by kernel_rfl) (by kernel_rfl) (by kernel_rfl) (fun _ _ _ h => h) (Or.inl ⟨by rfl, ?_⟩) (by assumption) ?_;rotate_left
   ·(intro w hSw; (try dsimp only at hSw); go_split_ands; go_simp; try with_reducible rfl)
   try simp only [List.getElem_toArray, List.getElem_cons_succ, List.getElem_cons_zero, Act.put, List.setIfInBounds_toArray, List.set_cons_zero, List.set_cons_succ]
   refine wpAnyH_take (i := 15) (v := ?_) rfl (by kernel_rfl) (by kernel_rfl) (by kernel_rfl) (fun _ _ _ h => h) (Or.inl ⟨by rfl, ?_⟩) (by assumption) ?_;rotate_left
   ·(intro w hSw; (try dsimp only at hSw); go_split_ands; go_simp; try with_reducible rfl)
   try simp only [List.getElem_toArray, List.getElem_cons_succ, List.getElem_cons_zero, Act.put, List.setIfInBounds_toArray, List.set_cons_zero, List.set_cons_succ]
   refine wpAnyH_take (i := 16) (v := ?_) rfl (by kernel_rfl) (by kernel_rfl) (by kernel_rfl) (fun _ _ _ h => h) (Or.inl ⟨by rfl, ?_⟩) (by assumption) ?_;rotate_left
   ·(intro w hSw; (try dsimp only at hSw); go_split_ands; go_simp; try with_reducible rfl)
   try simp only [List.getElem_toArray, List.getElem_cons_succ, List.getElem_cons_zero, Act.put, List.setIfInBounds_toArray, List.set_cons_zero, List.set_cons_succ]
   refine wpAnyH_take (i := 17) (v := ?_) rfl (by kernel_rfl) (by kernel_rfl) (by kernel_rfl) (fun _ _ _ h => h) (Or.inl ⟨by rfl, ?_⟩) (by assumption) ?_;rotate_left
   ·(intro w hSw; (try dsimp only at hSw); go_split_ands; go_simp; try with_reducible rfl)
   try simp only [List.getElem_toArray, List.getElem_cons_succ, List.getElem_cons_zero, Act.put, List.setIfInBounds_toArray, List.set_cons_zero, List.set_cons_succ]
   refine wpAnyH_ready (rs := [18]) (by kernel_rfl) (by simp) ?_;refine (AllReadyH.cons rfl (fun K hK => ?_) AllReadyH.nil);go_simp
   with_reducible refine (same6C A5 c5 A3 c3 _ (Kd.C_below HC.out.2.1 hHeld.2.2.2.2) HC.out.1 (Kd.C_below HC.out.2.2.1 hHeld.2.2.2.2) HC.out.2.2.2).mono ?_
   rintro e wn ⟨rfl, hbn⟩
   refine hK.out _ _ ?_ (fun hHeld => ?_)
   ·first | exact ⟨cellA hHeld.1 _, cellA hHeld.2.1 _, cellA hHeld.2.2.1 _, cellA hHeld.2.2.2.1 _, hHeld.2.2.2.2.alloc hHeld.2.2.2.2.size _⟩ | exact ⟨pw_cell_below hbn hHeld.1, pw_cell_below hbn hHeld.2.1, pw_cell_below hbn hHeld.2.2.1, pw_cell_below hbn hHeld.2.2.2.1, hHeld.2.2.2.2.trans (hbn.mono hHeld.2.2.2.2.size)⟩
   clear hK K hbn
   try simp only [List.getElem_toArray, List.getElem_cons_succ, List.getElem_cons_zero, Act.put, List.setIfInBounds_toArray, List.set_cons_zero, List.set_cons_succ]
   refine wpAnyH_take (i := 19) (v := ?_) rfl (by kernel_rfl) (by kernel_rfl) (by kernel_rfl) (fun _ _ _ h => h) (Or.inl ⟨by rfl, ?_⟩) (by assumption) ?_;rotate_left
   ·(intro w hSw; (try dsimp only at hSw); go_split_ands; go_simp; try with_reducible rfl)
   try simp only [List.getElem_toArray, List.getElem_cons_succ, List.getElem_cons_zero, Act.put, List.setIfInBounds_toArray, List.set_cons_zero, List.set_cons_succ]
   refine wpAnyH_take (i := 20) (v := ?_) rfl (by kernel_rfl) (by kernel_rfl) (by kernel_rfl) (fun _ _ _ h => h) (Or.inl ⟨by rfl, ?_⟩) (by assumption) ?_;rotate_left
   ·(intro w hSw; (try dsimp only at hSw); go_split_ands; go_simp; try with_reducible rfl)
   try simp only [List.getElem_toArray, List.getElem_cons_succ, List.getElem_cons_zero, Act.put, List.setIfInBounds_toArray, List.set_cons_zero, List.set_cons_succ]
   refine wpAnyH_take (i := 21) (v := ?_) rfl (by kernel_rfl) (by kernel_rfl) (by kernel_rfl) (fun _ _ _ h => h) (Or.inl ⟨by rfl, ?_⟩) (by assumption) ?_;rotate_left
   ·(intro w hSw; (try dsimp only at hSw); go_split_ands; go_simp; try with_reducible rfl)
   try simp only [List.getElem_toArray, List.getElem_cons_succ, List.getElem_cons_zero, Act.put, List.setIfInBounds_toArray, List.set_cons_zero, List.set_cons_succ]
   refine wpAnyH_take (i := 23) (v := ?_) rfl (by kernel_rfl) (by kernel_rfl) (by kernel_rfl) (fun _ _ _ h => h) (Or.inl ⟨by rfl, ?_⟩) (by assumption) ?_;rotate_left
   ·(intro w hSw; (try dsimp only at hSw); go_split_ands; go_simp; try with_reducible rfl)
   try simp only [List.getElem_toArray, List.getElem_cons_succ, List.getElem_cons_zero, Act.put, List.setIfInBounds_toArray, List.set_cons_zero, List.set_cons_succ]
   refine wpAnyH_take (i := 24) (v := ?_) rfl (by kernel_rfl) (by kernel_rfl) (by kernel_rfl) (fun _ _ _ h => h) (Or.inl ⟨by rfl, ?_⟩) (by assumption) ?_;rotate_left
   ·(intro w hSw; (try dsimp only at hSw); go_split_ands; go_simp; try with_reducible rfl)
   try simp only [List.getElem_toArray, List.getElem_cons_succ, List.getElem_cons_zero, Act.put, List.setIfInBounds_toArray, List.set_cons_zero, List.set_cons_succ]
   refine wpAnyH_ready (rs := [22, 25]) (by kernel_rfl) (by simp) ?_;refine (AllReadyH.cons rfl (fun K hK => ?_) (AllReadyH.cons rfl (fun K hK => ?_) AllReadyH.nil))
   ·go_simp
    with_reducible refine (allC A3 c3 _ (Kd.C_below HC.out.2.2.1 hHeld.2.2.2.2) HC.out.2.2.2).mono ?_
    rintro e wn ⟨A6, c6, rfl, hc6, hC6, hbn⟩
    have HC6 := Lib.hid (And.intro hc6 (And.intro hC6 hbn))
    refine hK.out _ _ ?_ (fun hHeld => ?_)
    ·first | exact ⟨cellA hHeld.1 _, cellA hHeld.2.1 _, cellA hHeld.2.2.1 _, cellA hHeld.2.2.2.1 _, hHeld.2.2.2.2.alloc hHeld.2.2.2.2.size _⟩ | exact ⟨pw_cell_below hbn hHeld.1, pw_cell_below hbn hHeld.2.1, pw_cell_below hbn hHeld.2.2.1, pw_cell_below hbn hHeld.2.2.2.1, hHeld.2.2.2.2.trans (hbn.mono hHeld.2.2.2.2.size)⟩
    clear hK K hbn hc6 hC6
    try simp only [List.getElem_toArray, List.getElem_cons_succ, List.getElem_cons_zero, Act.put, List.setIfInBounds_toArray, List.set_cons_zero, List.set_cons_succ]
    refine wpAnyH_ready (rs := [25]) (by kernel_rfl) (by simp) ?_;refine (AllReadyH.cons rfl (fun K hK => ?_) AllReadyH.nil);go_simp;refine hK.out _ _ ?_ (fun hHeld => ?_)
    ·first | exact ⟨cellA hHeld.1 _, cellA hHeld.2.1 _, cellA hHeld.2.2.1 _, cellA hHeld.2.2.2.1 _, hHeld.2.2.2.2.alloc hHeld.2.2.2.2.size _⟩ | exact ⟨pw_cell_below hbn hHeld.1, pw_cell_below hbn hHeld.2.1, pw_cell_below hbn hHeld.2.2.1, pw_cell_below hbn hHeld.2.2.2.1, hHeld.2.2.2.2.trans (hbn.mono hHeld.2.2.2.2.size)⟩
    clear hK K
    try simp only [List.getElem_toArray, List.getElem_cons_succ, List.getElem_cons_zero, Act.put, List.setIfInBounds_toArray, List.set_cons_zero, List.set_cons_succ]
    refine wpAnyH_ready (rs := [26]) (by kernel_rfl) (by simp) ?_;refine (AllReadyH.cons rfl (fun K hK => ?_) AllReadyH.nil);go_simp
    with_reducible refine (same1C A6 c6 _ 2 _ (by first | exact HC6.out.2.1 | exact Kd.C_alloc HC6.out.2.1 _) HC6.out.1 (by first | exact C_two _ | exact Kd.C_below (C_two _) HC6.out.2.2) (by decide)).mono ?_
    rintro e wn ⟨rfl, hbn⟩
    refine hK.out _ _ ?_ (fun hHeld => ?_)
    ·first | exact ⟨cellA hHeld.1 _, cellA hHeld.2.1 _, cellA hHeld.2.2.1 _, cellA hHeld.2.2.2.1 _, hHeld.2.2.2.2.alloc hHeld.2.2.2.2.size _⟩ | exact ⟨pw_cell_below hbn hHeld.1, pw_cell_below hbn hHeld.2.1, pw_cell_below hbn hHeld.2.2.1, pw_cell_below hbn hHeld.2.2.2.1, hHeld.2.2.2.2.trans (hbn.mono hHeld.2.2.2.2.size)⟩
    clear hK K hbn
    try simp only [List.getElem_toArray, List.getElem_cons_succ, List.getElem_cons_zero, Act.put, List.setIfInBounds_toArray, List.set_cons_zero, List.set_cons_succ]
    refine wpAnyH_take (i := 27) (v := ?_) rfl (by kernel_rfl) (by kernel_rfl) (by kernel_rfl) (fun _ _ _ h => h) (Or.inl ⟨by rfl, ?_⟩) (by assumption) ?_;rotate_left
    ·(intro w hSw; (try dsimp only at hSw); go_split_ands; go_simp; try with_reducible rfl)
    try simp only [List.getElem_toArray, List.getElem_cons_succ, List.getElem_cons_zero, Act.put, List.setIfInBounds_toArray, List.set_cons_zero, List.set_cons_succ]
    refine wpAnyH_take (i := 28) (v := ?_) rfl (by kernel_rfl) (by kernel_rfl) (by kernel_rfl) (fun _ _ _ h => h) (Or.inl ⟨by rfl, ?_⟩) (by assumption) ?_;rotate_left
    ·(intro w hSw; (try dsimp only at hSw); go_split_ands; go_simp; try with_reducible rfl)
    try simp only [List.getElem_toArray, List.getElem_cons_succ, List.getElem_cons_zero, Act.put, List.setIfInBounds_toArray, List.set_cons_zero, List.set_cons_succ]
    refine wpAnyH_take (i := 29) (v := ?_) rfl (by kernel_rfl) (by kernel_rfl) (by kernel_rfl) (fun _ _ _ h => h) (Or.inl ⟨by rfl, ?_⟩) (by assumption) ?_;rotate_left
    ·(intro w hSw; (try dsimp only at hSw); go_split_ands; go_simp; try with_reducible rfl)
    try simp only [List.getElem_toArray, List.getElem_cons_succ, List.getElem_cons_zero, Act.put, List.setIfInBounds_toArray, List.set_cons_zero, List.set_cons_succ]
    refine wpAnyH_ready (rs := [30]) (by kernel_rfl) (by simp) ?_;refine (AllReadyH.cons rfl (fun K hK => ?_) AllReadyH.nil);go_simp;refine hK.out _ _ ?_ (fun hHeld => ?_)
    ·first | exact ⟨cellA hHeld.1 _, cellA hHeld.2.1 _, cellA hHeld.2.2.1 _, cellA hHeld.2.2.2.1 _, hHeld.2.2.2.2.alloc hHeld.2.2.2.2.size _⟩ | exact ⟨pw_cell_below hbn hHeld.1, pw_cell_below hbn hHeld.2.1, pw_cell_below hbn hHeld.2.2.1, pw_cell_below hbn hHeld.2.2.2.1, hHeld.2.2.2.2.trans (hbn.mono hHeld.2.2.2.2.size)⟩
    clear hK K
    try simp only [List.getElem_toArray, List.getElem_cons_succ, List.getElem_cons_zero, Act.put, List.setIfInBounds_toArray, List.set_cons_zero, List.set_cons_succ]
    refine wpAnyH_ready (rs := [31]) (by kernel_rfl) (by simp) ?_;refine (AllReadyH.cons rfl (fun K hK => ?_) AllReadyH.nil);go_simp
    with_reducible refine (chkN _).mono ?_
    rintro e wn ⟨rfl, hbn⟩
    refine hK.out _ _ ?_ (fun hHeld => ?_)
    ·first | exact ⟨cellA hHeld.1 _, cellA hHeld.2.1 _, cellA hHeld.2.2.1 _, cellA hHeld.2.2.2.1 _, hHeld.2.2.2.2.alloc hHeld.2.2.2.2.size _⟩ | exact ⟨pw_cell_below hbn hHeld.1, pw_cell_below hbn hHeld.2.1, pw_cell_below hbn hHeld.2.2.1, pw_cell_below hbn hHeld.2.2.2.1, hHeld.2.2.2.2.trans (hbn.mono hHeld.2.2.2.2.size)⟩
    clear hK K hbn
    try simp only [List.getElem_toArray, List.getElem_cons_succ, List.getElem_cons_zero, Act.put, List.setIfInBounds_toArray, List.set_cons_zero, List.set_cons_succ]
    refine wpAnyH_ready (rs := [32]) (by kernel_rfl) (by simp) ?_;refine (AllReadyH.cons rfl (fun K hK => ?_) AllReadyH.nil);go_simp
    with_reducible refine (numC 60 _).mono ?_
    rintro e wn ⟨rfl, hbn⟩
    refine hK.out _ _ ?_ (fun hHeld => ?_)
    ·first | exact ⟨cellA hHeld.1 _, cellA hHeld.2.1 _, cellA hHeld.2.2.1 _, cellA hHeld.2.2.2.1 _, hHeld.2.2.2.2.alloc hHeld.2.2.2.2.size _⟩ | exact ⟨pw_cell_below hbn hHeld.1, pw_cell_below hbn hHeld.2.1, pw_cell_below hbn hHeld.2.2.1, pw_cell_below hbn hHeld.2.2.2.1, hHeld.2.2.2.2.trans (hbn.mono hHeld.2.2.2.2.size)⟩
    clear hK K hbn
    try simp only [List.getElem_toArray, List.getElem_cons_succ, List.getElem_cons_zero, Act.put, List.setIfInBounds_toArray, List.set_cons_zero, List.set_cons_succ]
    refine wpAnyH_take (i := 33) (v := ?_) rfl (by kernel_rfl) (by kernel_rfl) (by kernel_rfl) (fun _ _ _ h => h) (Or.inl ⟨by rfl, ?_⟩) (by assumption) ?_;rotate_left
    ·(intro w hSw; (try dsimp only at hSw); go_split_ands; go_simp; try with_reducible rfl)
    try simp only [List.getElem_toArray, List.getElem_cons_succ, List.getElem_cons_zero, Act.put, List.setIfInBounds_toArray, List.set_cons_zero, List.set_cons_succ]
    refine wpAnyH_take (i := 34) (v := ?_) rfl (by kernel_rfl) (by kernel_rfl) (by kernel_rfl) (fun _ _ _ h => h) (Or.inl ⟨by rfl, ?_⟩) (by assumption) ?_;rotate_left
    ·(intro w hSw; (try dsimp only at hSw); go_split_ands; go_simp; try with_reducible rfl)
    try simp only [List.getElem_toArray, List.getElem_cons_succ, List.getElem_cons_zero, Act.put, List.setIfInBounds_toArray, List.set_cons_zero, List.set_cons_succ]
    refine wpAnyH_take (i := 35) (v := ?_) rfl (by kernel_rfl) (by kernel_rfl) (by kernel_rfl) (fun _ _ _ h => h) (Or.inl ⟨by rfl, ?_⟩) (by assumption) ?_;rotate_left
    ·(intro w hSw; (try dsimp only at hSw); go_split_ands; go_simp; try with_reducible rfl)
    try simp only [List.getElem_toArray, List.getElem_cons_succ, List.getElem_cons_zero, Act.put, List.setIfInBounds_toArray, List.set_cons_zero, List.set_cons_succ]
    refine wpAnyH_take (i := 36) (v := ?_) rfl (by kernel_rfl) (by kernel_rfl) (by kernel_rfl) (fun _ _ _ h => h) (Or.inl ⟨by rfl, ?_⟩) (by assumption) ?_;rotate_left
    ·(intro w hSw; (try dsimp only at hSw); go_split_ands; go_simp; try with_reducible rfl)
    try simp only [List.getElem_toArray, List.getElem_cons_succ, List.getElem_cons_zero, Act.put, List.setIfInBounds_toArray, List.set_cons_zero, List.set_cons_succ]
    refine wpAnyH_take (i := 37) (v := ?_) rfl (by kernel_rfl) (by kernel_rfl) (by kernel_rfl) (fun _ _ _ h => h) (Or.inl ⟨by rfl, ?_⟩) (by assumption) ?_;rotate_left
    ·(intro w hSw; (try dsimp only at hSw); go_split_ands; go_simp; try with_reducible rfl)
    try simp only [List.getElem_toArray, List.getElem_cons_succ, List.getElem_cons_zero, Act.put, List.setIfInBounds_toArray, List.set_cons_zero, List.set_cons_succ]
    refine wpAnyH_ready (rs := [38]) (by kernel_rfl) (by simp) ?_;refine (AllReadyH.cons rfl (fun K hK => ?_) AllReadyH.nil);go_simp
    with_reducible refine (dsameC A3 c3 A5 c5 _ (Kd.C_below HC.out.2.2.1 hHeld.2.2.2.2) HC.out.2.2.2 (Kd.C_below HC.out.2.1 hHeld.2.2.2.2) HC.out.1).mono ?_
    rintro e wn ⟨rfl, hbn⟩
    refine hK.out _ _ ?_ (fun hHeld => ?_)
    ·first | exact ⟨cellA hHeld.1 _, cellA hHeld.2.1 _, cellA hHeld.2.2.1 _, cellA hHeld.2.2.2.1 _, hHeld.2.2.2.2.alloc hHeld.2.2.2.2.size _⟩ | exact ⟨pw_cell_below hbn hHeld.1, pw_cell_below hbn hHeld.2.1, pw_cell_below hbn hHeld.2.2.1, pw_cell_below hbn hHeld.2.2.2.1, hHeld.2.2.2.2.trans (hbn.mono hHeld.2.2.2.2.size)⟩
    clear hK K hbn
    try simp only [List.getElem_toArray, List.getElem_cons_succ, List.getElem_cons_zero, Act.put, List.setIfInBounds_toArray, List.set_cons_zero, List.set_cons_succ]
    refine wpAnyH_take (i := 39) (v := ?_) rfl (by kernel_rfl) (by kernel_rfl) (by kernel_rfl) (fun _ _ _ h => h) (Or.inl ⟨by rfl, ?_⟩) (by assumption) ?_;rotate_left
    ·(intro w hSw; (try dsimp only at hSw); go_split_ands; go_simp; try with_reducible rfl)
    try simp only [List.getElem_toArray, List.getElem_cons_succ, List.getElem_cons_zero, Act.put, List.setIfInBounds_toArray, List.set_cons_zero, List.set_cons_succ]
    refine wpAnyH_take (i := 40) (v := ?_) rfl (by kernel_rfl) (by kernel_rfl) (by kernel_rfl) (fun _ _ _ h => h) (Or.inl ⟨by rfl, ?_⟩) (by assumption) ?_;rotate_left
    ·(intro w hSw; (try dsimp only at hSw); go_split_ands; go_simp; try with_reducible rfl)
    try simp only [List.getElem_toArray, List.getElem_cons_succ, List.getElem_cons_zero, Act.put, List.setIfInBounds_toArray, List.set_cons_zero, List.set_cons_succ]
    refine wpAnyH_done (by kernel_rfl) ?_ _
    go_wp2
    go_ret
    exact ⟨rfl, HW.out.1.trans ((hb4.trans (hHeld.2.2.2.2.mono hb4.size)).mono HW.out.1.size)⟩
   ·go_simp;refine hK.out _ _ ?_ (fun hHeld => ?_)
    ·first | exact ⟨cellA hHeld.1 _, cellA hHeld.2.1 _, cellA hHeld.2.2.1 _, cellA hHeld.2.2.2.1 _, hHeld.2.2.2.2.alloc hHeld.2.2.2.2.size _⟩ | exact ⟨pw_cell_below hbn hHeld.1, pw_cell_below hbn hHeld.2.1, pw_cell_below hbn hHeld.2.2.1, pw_cell_below hbn hHeld.2.2.2.1, hHeld.2.2.2.2.trans (hbn.mono hHeld.2.2.2.2.size)⟩
    clear hK K
    try simp only [List.getElem_toArray, List.getElem_cons_succ, List.getElem_cons_zero, Act.put, List.setIfInBounds_toArray, List.set_cons_zero, List.set_cons_succ]
    refine wpAnyH_ready (rs := [22]) (by kernel_rfl) (by simp) ?_;refine (AllReadyH.cons rfl (fun K hK => ?_) AllReadyH.nil);go_simp
    with_reducible refine (allC A3 c3 _ (Kd.C_below HC.out.2.2.1 hHeld.2.2.2.2) HC.out.2.2.2).mono ?_
    rintro e wn ⟨A6, c6, rfl, hc6, hC6, hbn⟩
    have HC6 := Lib.hid (And.intro hc6 (And.intro hC6 hbn))
    refine hK.out _ _ ?_ (fun hHeld => ?_)
    ·first | exact ⟨cellA hHeld.1 _, cellA hHeld.2.1 _, cellA hHeld.2.2.1 _, cellA hHeld.2.2.2.1 _, hHeld.2.2.2.2.alloc hHeld.2.2.2.2.size _⟩ | exact ⟨pw_cell_below hbn hHeld.1, pw_cell_below hbn hHeld.2.1, pw_cell_below hbn hHeld.2.2.1, pw_cell_below hbn hHeld.2.2.2.1, hHeld.2.2.2.2.trans (hbn.mono hHeld.2.2.2.2.size)⟩
    clear hK K hbn hc6 hC6
    try simp only [List.getElem_toArray, List.getElem_cons_succ, List.getElem_cons_zero, Act.put, List.setIfInBounds_toArray, List.set_cons_zero, List.set_cons_succ]
    refine wpAnyH_ready (rs := [26]) (by kernel_rfl) (by simp) ?_;refine (AllReadyH.cons rfl (fun K hK => ?_) AllReadyH.nil);go_simp
    with_reducible refine (same1C A6 c6 _ 2 _ (by first | exact HC6.out.2.1 | exact Kd.C_alloc HC6.out.2.1 _) HC6.out.1 (by first | exact C_two _ | exact Kd.C_below (C_two _) HC6.out.2.2) (by decide)).mono ?_
    rintro e wn ⟨rfl, hbn⟩
    refine hK.out _ _ ?_ (fun hHeld => ?_)
    ·first | exact ⟨cellA hHeld.1 _, cellA hHeld.2.1 _, cellA hHeld.2.2.1 _, cellA hHeld.2.2.2.1 _, hHeld.2.2.2.2.alloc hHeld.2.2.2.2.size _⟩ | exact ⟨pw_cell_below hbn hHeld.1, pw_cell_below hbn hHeld.2.1, pw_cell_below hbn hHeld.2.2.1, pw_cell_below hbn hHeld.2.2.2.1, hHeld.2.2.2.2.trans (hbn.mono hHeld.2.2.2.2.size)⟩
    clear hK K hbn
    try simp only [List.getElem_toArray, List.getElem_cons_succ, List.getElem_cons_zero, Act.put, List.setIfInBounds_toArray, List.set_cons_zero, List.set_cons_succ]
    refine wpAnyH_take (i := 27) (v := ?_) rfl (by kernel_rfl) (by kernel_rfl) (by kernel_rfl) (fun _ _ _ h => h) (Or.inl ⟨by rfl, ?_⟩) (by assumption) ?_;rotate_left
    ·(intro w hSw; (try dsimp only at hSw); go_split_ands; go_simp; try with_reducible rfl)
    try simp only [List.getElem_toArray, List.getElem_cons_succ, List.getElem_cons_zero, Act.put, List.setIfInBounds_toArray, List.set_cons_zero, List.set_cons_succ]
    refine wpAnyH_take (i := 28) (v := ?_) rfl (by kernel_rfl) (by kernel_rfl) (by kernel_rfl) (fun _ _ _ h => h) (Or.inl ⟨by rfl, ?_⟩) (by assumption) ?_;rotate_left
    ·(intro w hSw; (try dsimp only at hSw); go_split_ands; go_simp; try with_reducible rfl)
    try simp only [List.getElem_toArray, List.getElem_cons_succ, List.getElem_cons_zero, Act.put, List.setIfInBounds_toArray, List.set_cons_zero, List.set_cons_succ]
    refine wpAnyH_take (i := 29) (v := ?_) rfl (by kernel_rfl) (by kernel_rfl) (by kernel_rfl) (fun _ _ _ h => h) (Or.inl ⟨by rfl, ?_⟩) (by assumption) ?_;rotate_left
    ·(intro w hSw; (try dsimp only at hSw); go_split_ands; go_simp; try with_reducible rfl)
    try simp only [List.getElem_toArray, List.getElem_cons_succ, List.getElem_cons_zero, Act.put, List.setIfInBounds_toArray, List.set_cons_zero, List.set_cons_succ]
    refine wpAnyH_ready (rs := [30]) (by kernel_rfl) (by simp) ?_;refine (AllReadyH.cons rfl (fun K hK => ?_) AllReadyH.nil);go_simp;refine hK.out _ _ ?_ (fun hHeld => ?_)
    ·first | exact ⟨cellA hHeld.1 _, cellA hHeld.2.1 _, cellA hHeld.2.2.1 _, cellA hHeld.2.2.2.1 _, hHeld.2.2.2.2.alloc hHeld.2.2.2.2.size _⟩ | exact ⟨pw_cell_below hbn hHeld.1, pw_cell_below hbn hHeld.2.1, pw_cell_below hbn hHeld.2.2.1, pw_cell_below hbn hHeld.2.2.2.1, hHeld.2.2.2.2.trans (hbn.mono hHeld.2.2.2.2.size)⟩
    clear hK K
    try simp only [List.getElem_toArray, List.getElem_cons_succ, List.getElem_cons_zero, Act.put, List.setIfInBounds_toArray, List.set_cons_zero, List.set_cons_succ]
    refine wpAnyH_ready (rs := [31]) (by kernel_rfl) (by simp) ?_;refine (AllReadyH.cons rfl (fun K hK => ?_) AllReadyH.nil);go_simp
    with_reducible refine (chkN _).mono ?_
    rintro e wn ⟨rfl, hbn⟩
    refine hK.out _ _ ?_ (fun hHeld => ?_)
    ·first | exact ⟨cellA hHeld.1 _, cellA hHeld.2.1 _, cellA hHeld.2.2.1 _, cellA hHeld.2.2.2.1 _, hHeld.2.2.2.2.alloc hHeld.2.2.2.2.size _⟩ | exact ⟨pw_cell_below hbn hHeld.1, pw_cell_below hbn hHeld.2.1, pw_cell_below hbn hHeld.2.2.1, pw_cell_below hbn hHeld.2.2.2.1, hHeld.2.2.2.2.trans (hbn.mono hHeld.2.2.2.2.size)⟩
    clear hK K hbn
    try simp only [List.getElem_toArray, List.getElem_cons_succ, List.getElem_cons_zero, Act.put, List.setIfInBounds_toArray, List.set_cons_zero, List.set_cons_succ]
    refine wpAnyH_ready (rs := [32]) (by kernel_rfl) (by simp) ?_;refine (AllReadyH.cons rfl (fun K hK => ?_) AllReadyH.nil);go_simp
    with_reducible refine (numC 60 _).mono ?_
    rintro e wn ⟨rfl, hbn⟩
    refine hK.out _ _ ?_ (fun hHeld => ?_)
    ·first | exact ⟨cellA hHeld.1 _, cellA hHeld.2.1 _, cellA hHeld.2.2.1 _, cellA hHeld.2.2.2.1 _, hHeld.2.2.2.2.alloc hHeld.2.2.2.2.size _⟩ | exact ⟨pw_cell_below hbn hHeld.1, pw_cell_below hbn hHeld.2.1, pw_cell_below hbn hHeld.2.2.1, pw_cell_below hbn hHeld.2.2.2.1, hHeld.2.2.2.2.trans (hbn.mono hHeld.2.2.2.2.size)⟩
    clear hK K hbn
    try simp only [List.getElem_toArray, List.getElem_cons_succ, List.getElem_cons_zero, Act.put, List.setIfInBounds_toArray, List.set_cons_zero, List.set_cons_succ]
    refine wpAnyH_take (i := 33) (v := ?_) rfl (by kernel_rfl) (by kernel_rfl) (by kernel_rfl) (fun _ _ _ h => h) (Or.inl ⟨by rfl, ?_⟩) (by assumption) ?_;rotate_left
    ·(intro w hSw; (try dsimp only at hSw); go_split_ands; go_simp; try with_reducible rfl)
    try simp only [List.getElem_toArray, List.getElem_cons_succ, List.getElem_cons_zero, Act.put, List.setIfInBounds_toArray, List.set_cons_zero, List.set_cons_succ]
    refine wpAnyH_take (i := 34) (v := ?_) rfl (by kernel_rfl) (by kernel_rfl) (by kernel_rfl) (fun _ _ _ h => h) (Or.inl ⟨by rfl, ?_⟩) (by assumption) ?_;rotate_left
    ·(intro w hSw; (try dsimp only at hSw); go_split_ands; go_simp; try with_reducible rfl)
    try simp only [List.getElem_toArray, List.getElem_cons_succ, List.getElem_cons_zero, Act.put, List.setIfInBounds_toArray, List.set_cons_zero, List.set_cons_succ]
    refine wpAnyH_take (i := 35) (v := ?_) rfl (by kernel_rfl) (by kernel_rfl) (by kernel_rfl) (fun _ _ _ h => h) (Or.inl ⟨by rfl, ?_⟩) (by assumption) ?_;rotate_left
    ·(intro w hSw; (try dsimp only at hSw); go_split_ands; go_simp; try with_reducible rfl)
    try simp only [List.getElem_toArray, List.getElem_cons_succ, List.getElem_cons_zero, Act.put, List.setIfInBounds_toArray, List.set_cons_zero, List.set_cons_succ]
    refine wpAnyH_take (i := 36) (v := ?_) rfl (by kernel_rfl) (by kernel_rfl) (by kernel_rfl) (fun _ _ _ h => h) (Or.inl ⟨by rfl, ?_⟩) (by assumption) ?_;rotate_left
    ·(intro w hSw; (try dsimp only at hSw); go_split_ands; go_simp; try with_reducible rfl)
    try simp only [List.getElem_toArray, List.getElem_cons_succ, List.getElem_cons_zero, Act.put, List.setIfInBounds_toArray, List.set_cons_zero, List.set_cons_succ]
    refine wpAnyH_take (i := 37) (v := ?_) rfl (by kernel_rfl) (by kernel_rfl) (by kernel_rfl) (fun _ _ _ h => h) (Or.inl ⟨by rfl, ?_⟩) (by assumption) ?_;rotate_left
    ·(intro w hSw; (try dsimp only at hSw); go_split_ands; go_simp; try with_reducible rfl)
    try simp only [List.getElem_toArray, List.getElem_cons_succ, List.getElem_cons_zero, Act.put, List.setIfInBounds_toArray, List.set_cons_zero, List.set_cons_succ]
    refine wpAnyH_ready (rs := [38]) (by kernel_rfl) (by simp) ?_;refine (AllReadyH.cons rfl (fun K hK => ?_) AllReadyH.nil);go_simp
    with_reducible refine (dsameC A3 c3 A5 c5 _ (Kd.C_below HC.out.2.2.1 hHeld.2.2.2.2) HC.out.2.2.2 (Kd.C_below HC.out.2.1 hHeld.2.2.2.2) HC.out.1).mono ?_
    rintro e wn ⟨rfl, hbn⟩
    refine hK.out _ _ ?_ (fun hHeld => ?_)
    ·first | exact ⟨cellA hHeld.1 _, cellA hHeld.2.1 _, cellA hHeld.2.2.1 _, cellA hHeld.2.2.2.1 _, hHeld.2.2.2.2.alloc hHeld.2.2.2.2.size _⟩ | exact ⟨pw_cell_below hbn hHeld.1, pw_cell_below hbn hHeld.2.1, pw_cell_below hbn hHeld.2.2.1, pw_cell_below hbn hHeld.2.2.2.1, hHeld.2.2.2.2.trans (hbn.mono hHeld.2.2.2.2.size)⟩
    clear hK K hbn
    try simp only [List.getElem_toArray, List.getElem_cons_succ, List.getElem_cons_zero, Act.put, List.setIfInBounds_toArray, List.set_cons_zero, List.set_cons_succ]
    refine wpAnyH_take (i := 39) (v := ?_) rfl (by kernel_rfl) (by kernel_rfl) (by kernel_rfl) (fun _ _ _ h => h) (Or.inl ⟨by rfl, ?_⟩) (by assumption) ?_;rotate_left
    ·(intro w hSw; (try dsimp only at hSw); go_split_ands; go_simp; try with_reducible rfl)
    try simp only [List.getElem_toArray, List.getElem_cons_succ, List.getElem_cons_zero, Act.put, List.setIfInBounds_toArray, List.set_cons_zero, List.set_cons_succ]
    refine wpAnyH_take (i := 40) (v := ?_) rfl (by kernel_rfl) (by kernel_rfl) (by kernel_rfl) (fun _ _ _ h => h) (Or.inl ⟨by rfl, ?_⟩) (by assumption) ?_;rotate_left
    ·(intro w hSw; (try dsimp only at hSw); go_split_ands; go_simp; try with_reducible rfl)
    try simp only [List.getElem_toArray, List.getElem_cons_succ, List.getElem_cons_zero, Act.put, List.setIfInBounds_toArray, List.set_cons_zero, List.set_cons_succ]
    refine wpAnyH_done (by kernel_rfl) ?_ _
    go_wp2
    go_ret
    exact ⟨rfl, HW.out.1.trans ((hb4.trans (hHeld.2.2.2.2.mono hb4.size)).mono HW.out.1.size)⟩
  ·go_simp;refine hK.out _ _ ?_ (fun hHeld => ?_)
   ·first | exact ⟨cellA hHeld.1 _, cellA hHeld.2.1 _, cellA hHeld.2.2.1 _, cellA hHeld.2.2.2.1 _, hHeld.2.2.2.2.alloc hHeld.2.2.2.2.size _⟩ | exact ⟨pw_cell_below hbn hHeld.1, pw_cell_below hbn hHeld.2.1, pw_cell_below hbn hHeld.2.2.1, pw_cell_below hbn hHeld.2.2.2.1, hHeld.2.2.2.2.trans (hbn.mono hHeld.2.2.2.2.size)⟩
   clear hK K
   try simp only [List.getElem_toArray, List.getElem_cons_succ, List.getElem_cons_zero, Act.put, List.setIfInBounds_toArray, List.set_cons_zero, List.set_cons_succ]
   refine wpAnyH_take (i := 7) (v := ?_) rfl (by kernel_rfl) (by kernel_rfl) (by kernel_rfl) (fun _ _ _ h => h) (Or.inl ⟨by rfl, ?_⟩) (by assumption) ?_;rotate_left
   ·(intro w hSw; (try dsimp only at hSw); go_split_ands; go_simp; try with_reducible rfl)
   try simp only [List.getElem_toArray, List.getElem_cons_succ, List.getElem_cons_zero, Act.put, List.setIfInBounds_toArray, List.set_cons_zero, List.set_cons_succ]
   refine wpAnyH_ready (rs := [3]) (by kernel_rfl) (by simp) ?_;refine (AllReadyH.cons rfl (fun K hK => ?_) AllReadyH.nil);go_simp;refine hK.out _ _ ?_ (fun hHeld => ?_)
   ·first | exact ⟨cellA hHeld.1 _, cellA hHeld.2.1 _, cellA hHeld.2.2.1 _, cellA hHeld.2.2.2.1 _, hHeld.2.2.2.2.alloc hHeld.2.2.2.2.size _⟩ | exact ⟨pw_cell_below hbn hHeld.1, pw_cell_below hbn hHeld.2.1, pw_cell_below hbn hHeld.2.2.1, pw_cell_below hbn hHeld.2.2.2.1, hHeld.2.2.2.2.trans (hbn.mono hHeld.2.2.2.2.size)⟩
   clear hK K
   try simp only [List.getElem_toArray, List.getElem_cons_succ, List.getElem_cons_zero, Act.put, List.setIfInBounds_toArray, List.set_cons_zero, List.set_cons_succ]
   refine wpAnyH_take (i := 4) (v := ?_) rfl (by kernel_rfl) (by kernel_rfl) (by kernel_rfl) (fun _ _ _ h => h) (Or.inl ⟨by rfl, ?_⟩) (by assumption) ?_;rotate_left
   ·(intro w hSw; (try dsimp only at hSw); go_split_ands; go_simp; try with_reducible rfl)
   try simp only [List.getElem_toArray, List.getElem_cons_succ, List.getElem_cons_zero, Act.put, List.setIfInBounds_toArray, List.set_cons_zero, List.set_cons_succ]
   refine wpAnyH_ready (rs := [8]) (by kernel_rfl) (by simp) ?_;refine (AllReadyH.cons rfl (fun K hK => ?_) AllReadyH.nil);go_simp;refine hK.out _ _ ?_ (fun hHeld => ?_)
   ·first | exact ⟨cellA hHeld.1 _, cellA hHeld.2.1 _, cellA hHeld.2.2.1 _, cellA hHeld.2.2.2.1 _, hHeld.2.2.2.2.alloc hHeld.2.2.2.2.size _⟩ | exact ⟨pw_cell_below hbn hHeld.1, pw_cell_below hbn hHeld.2.1, pw_cell_below hbn hHeld.2.2.1, pw_cell_below hbn hHeld.2.2.2.1, hHeld.2.2.2.2.trans (hbn.mono hHeld.2.2.2.2.size)⟩
   clear hK K
   try simp only [List.getElem_toArray, List.getElem_cons_succ, List.getElem_cons_zero, Act.put, List.setIfInBounds_toArray, List.set_cons_zero, List.set_cons_succ]
   refine wpAnyH_ready (rs := [9]) (by kernel_rfl) (by simp) ?_;refine (AllReadyH.cons rfl (fun K hK => ?_) AllReadyH.nil);go_simp
   (first | with_reducible refine (same6A A3 c3 w4 HC.out.2.2.1 HC.out.2.2.2).mono ?_ | with_reducible refine (same6B A3 c3 w4 HC.out.2.2.1 HC.out.2.2.2).mono ?_)
   rintro e wn ⟨rfl, hbn⟩
   refine hK.out _ _ ?_ (fun hHeld => ?_)
   ·exact ⟨pw_cell_below hbn hx0', pw_cell_below hbn hx1', pw_cell_below hbn hy0', pw_cell_below hbn hy1', hbn⟩
   clear hK K hbn
   try simp only [List.getElem_toArray, List.getElem_cons_succ, List.getElem_cons_zero, Act.put, List.setIfInBounds_toArray, List.set_cons_zero, List.set_cons_succ]
   refine wpAnyH_take (i := 10) (v := ?_) rfl (by kernel_rfl) (by kernel_rfl) (by kernel_rfl) (fun _ _ _ h => h) (Or.inl ⟨by rfl, ?_⟩) (by assumption) ?_;rotate_left
   ·(intro w hSw; (try dsimp only at hSw); go_split_ands; go_simp; try with_reducible rfl)
   try simp only [List.getElem_toArray, List.getElem_cons_succ, List.getElem_cons_zero, Act.put, List.setIfInBounds_toArray, List.set_cons_zero, List.set_cons_succ]
   refine wpAnyH_take (i := 11) (v := ?_) rfl (by kernel_rfl) (by kernel_rfl) (by kernel_rfl) (fun _ _ _ h => h) (Or.inl ⟨by rfl, ?_⟩) (by assumption) ?_;rotate_left
   ·(intro w hSw; (try dsimp only at hSw); go_split_ands; go_simp; try with_reducible rfl)
   try simp only [List.getElem_toArray, List.getElem_cons_succ, List.getElem_cons_zero, Act.put, List.setIfInBounds_toArray, List.set_cons_zero, List.set_cons_succ]
   refine wpAnyH_ready (rs := [12]) (by kernel_rfl) (by simp) ?_;refine (AllReadyH.cons rfl (fun K hK => ?_) AllReadyH.nil);go_simp
   with_reducible refine (numC 0 _).mono ?_
   rintro e wn ⟨rfl, hbn⟩
   refine hK.out _ _ ?_ (fun hHeld => ?_)
   ·first | exact ⟨cellA hHeld.1 _, cellA hHeld.2.1 _, cellA hHeld.2.2.1 _, cellA hHeld.2.2.2.1 _, hHeld.2.2.2.2.alloc hHeld.2.2.2.2.size _⟩ | exact ⟨pw_cell_below hbn hHeld.1, pw_cell_below hbn hHeld.2.1, pw_cell_below hbn hHeld.2.2.1, pw_cell_below hbn hHeld.2.2.2.1, hHeld.2.2.2.2.trans (hbn.mono hHeld.2.2.2.2.size)⟩
   clear hK K hbn
   try simp only [List.getElem_toArray, List.getElem_cons_succ, List.getElem_cons_zero, Act.put, List.setIfInBounds_toArray, List.set_cons_zero, List.set_cons_succ]
   refine wpAnyH_take (i := 13) (v := ?_) rfl (by kernel_rfl) (by kernel_rfl) (by kernel_rfl) (fun _ _ _ h => h) (Or.inl ⟨by rfl, ?_⟩) (by assumption) ?_;rotate_left
   ·(intro w hSw; (try dsimp only at hSw); go_split_ands; go_simp; try with_reducible rfl)
   try simp only [List.getElem_toArray, List.getElem_cons_succ, List.getElem_cons_zero, Act.put, List.setIfInBounds_toArray, List.set_cons_zero, List.set_cons_succ]
   refine wpAnyH_take (i := 14) (v := ?_) rfl (by kernel_rfl) (by kernel_rfl) (by kernel_rfl) (fun _ _ _ h => h) (Or.inl ⟨by rfl, ?_⟩) (by assumption) ?_;rotate_left
   ·(intro w hSw; (try dsimp only at hSw); go_split_ands; go_simp; try with_reducible rfl)
   try simp only [List.getElem_toArray, List.getElem_cons_succ, List.getElem_cons_zero, Act.put, List.setIfInBounds_toArray, List.set_cons_zero, List.set_cons_succ]
   refine wpAnyH_take (i := 15) (v := ?_) rfl (by kernel_rfl) (by kernel_rfl) (by kernel_rfl) (fun _ _ _ h => h) (Or.inl ⟨by rfl, ?_⟩) (by assumption) ?_;rotate_left
   ·(intro w hSw; (try dsimp only at hSw); go_split_ands; go_simp; try with_reducible rfl)
   try simp only [List.getElem_toArray, List.getElem_cons_succ, List.getElem_cons_zero, Act.put, List.setIfInBounds_toArray, List.set_cons_zero, List.set_cons_succ]
   refine wpAnyH_take (i := 16) (v := ?_) rfl (by kernel_rfl) (by kernel_rfl) (by kernel_rfl) (fun _ _ _ h => h) (Or.inl ⟨by rfl, ?_⟩) (by assumption) ?_;rotate_left
   ·(intro w hSw; (try dsimp only at hSw); go_split_ands; go_simp; try with_reducible rfl)
   try simp only [List.getElem_toArray, List.getElem_cons_succ, List.getElem_cons_zero, Act.put, List.setIfInBounds_toArray, List.set_cons_zero, List.set_cons_succ]
   refine wpAnyH_take (i := 17) (v := ?_) rfl (by kernel_rfl) (by kernel_rfl) (by kernel_rfl) (fun _ _ _ h => h) (Or.inl ⟨by rfl, ?_⟩) (by assumption) ?_;rotate_left
   ·(intro w hSw; (try dsimp only at hSw); go_split_ands; go_simp; try with_reducible rfl)
   try simp only [List.getElem_toArray, List.getElem_cons_succ, List.getElem_cons_zero, Act.put, List.setIfInBounds_toArray, List.set_cons_zero, List.set_cons_succ]
   refine wpAnyH_ready (rs := [18]) (by kernel_rfl) (by simp) ?_;refine (AllReadyH.cons rfl (fun K hK => ?_) AllReadyH.nil);go_simp
   with_reducible refine (same6C A5 c5 A3 c3 _ (Kd.C_below HC.out.2.1 hHeld.2.2.2.2) HC.out.1 (Kd.C_below HC.out.2.2.1 hHeld.2.2.2.2) HC.out.2.2.2).mono ?_
   rintro e wn ⟨rfl, hbn⟩
   refine hK.out _ _ ?_ (fun hHeld => ?_)
   ·first | exact ⟨cellA hHeld.1 _, cellA hHeld.2.1 _, cellA hHeld.2.2.1 _, cellA hHeld.2.2.2.1 _, hHeld.2.2.2.2.alloc hHeld.2.2.2.2.size _⟩ | exact ⟨pw_cell_below hbn hHeld.1, pw_cell_below hbn hHeld.2.1, pw_cell_below hbn hHeld.2.2.1, pw_cell_below hbn hHeld.2.2.2.1, hHeld.2.2.2.2.trans (hbn.mono hHeld.2.2.2.2.size)⟩
   clear hK K hbn
   try simp only [List.getElem_toArray, List.getElem_cons_succ, List.getElem_cons_zero, Act.put, List.setIfInBounds_toArray, List.set_cons_zero, List.set_cons_succ]
   refine wpAnyH_take (i := 19) (v := ?_) rfl (by kernel_rfl) (by kernel_rfl) (by kernel_rfl) (fun _ _ _ h => h) (Or.inl ⟨by rfl, ?_⟩) (by assumption) ?_;rotate_left
   ·(intro w hSw; (try dsimp only at hSw); go_split_ands; go_simp; try with_reducible rfl)
   try simp only [List.getElem_toArray, List.getElem_cons_succ, List.getElem_cons_zero, Act.put, List.setIfInBounds_toArray, List.set_cons_zero, List.set_cons_succ]
   refine wpAnyH_take (i := 20) (v := ?_) rfl (by kernel_rfl) (by kernel_rfl) (by kernel_rfl) (fun _ _ _ h => h) (Or.inl ⟨by rfl, ?_⟩) (by assumption) ?_;rotate_left
   ·(intro w hSw; (try dsimp only at hSw); go_split_ands; go_simp; try with_reducible rfl)
   try simp only [List.getElem_toArray, List.getElem_cons_succ, List.getElem_cons_zero, Act.put, List.setIfInBounds_toArray, List.set_cons_zero, List.set_cons_succ]
   refine wpAnyH_take (i := 21) (v := ?_) rfl (by kernel_rfl) (by kernel_rfl) (by kernel_rfl) (fun _ _ _ h => h) (Or.inl ⟨by rfl, ?_⟩) (by assumption) ?_;rotate_left
   ·(intro w hSw; (try dsimp only at hSw); go_split_ands; go_simp; try with_reducible rfl)
   try simp only [List.getElem_toArray, List.getElem_cons_succ, List.getElem_cons_zero, Act.put, List.setIfInBounds_toArray, List.set_cons_zero, List.set_cons_succ]
   refine wpAnyH_take (i := 23) (v := ?_) rfl (by kernel_rfl) (by kernel_rfl) (by kernel_rfl) (fun _ _ _ h => h) (Or.inl ⟨by rfl, ?_⟩) (by assumption) ?_;rotate_left
   ·(intro w hSw; (try dsimp only at hSw); go_split_ands; go_simp; try with_reducible rfl)
   try simp only [List.getElem_toArray, List.getElem_cons_succ, List.getElem_cons_zero, Act.put, List.setIfInBounds_toArray, List.set_cons_zero, List.set_cons_succ]
   refine wpAnyH_take (i := 24) (v := ?_) rfl (by kernel_rfl) (by kernel_rfl) (by kernel_rfl) (fun _ _ _ h => h) (Or.inl ⟨by rfl, ?_⟩) (by assumption) ?_;rotate_left
   ·(intro w hSw; (try dsimp only at hSw); go_split_ands; go_simp; try with_reducible rfl)
   try simp only [List.getElem_toArray, List.getElem_cons_succ, List.getElem_cons_zero, Act.put, List.setIfInBounds_toArray, List.set_cons_zero, List.set_cons_succ]
   refine wpAnyH_ready (rs := [22, 25]) (by kernel_rfl) (by simp) ?_;refine (AllReadyH.cons rfl (fun K hK => ?_) (AllReadyH.cons rfl (fun K hK => ?_) AllReadyH.nil))
   ·go_simp
    with_reducible refine (allC A3 c3 _ (Kd.C_below HC.out.2.2.1 hHeld.2.2.2.2) HC.out.2.2.2).mono ?_
    rintro e wn ⟨A6, c6, rfl, hc6, hC6, hbn⟩
    have HC6 := Lib.hid (And.intro hc6 (And.intro hC6 hbn))
    refine hK.out _ _ ?_ (fun hHeld => ?_)
    ·first | exact ⟨cellA hHeld.1 _, cellA hHeld.2.1 _, cellA hHeld.2.2.1 _, cellA hHeld.2.2.2.1 _, hHeld.2.2.2.2.alloc hHeld.2.2.2.2.size _⟩ | exact ⟨pw_cell_below hbn hHeld.1, pw_cell_below hbn hHeld.2.1, pw_cell_below hbn hHeld.2.2.1, pw_cell_below hbn hHeld.2.2.2.1, hHeld.2.2.2.2.trans (hbn.mono hHeld.2.2.2.2.size)⟩
    clear hK K hbn hc6 hC6
    try simp only [List.getElem_toArray, List.getElem_cons_succ, List.getElem_cons_zero, Act.put, List.setIfInBounds_toArray, List.set_cons_zero, List.set_cons_succ]
    refine wpAnyH_ready (rs := [25]) (by kernel_rfl) (by simp) ?_;refine (AllReadyH.cons rfl (fun K hK => ?_) AllReadyH.nil);go_simp;refine hK.out _ _ ?_ (fun hHeld => ?_)
    ·first | exact ⟨cellA hHeld.1 _, cellA hHeld.2.1 _, cellA hHeld.2.2.1 _, cellA hHeld.2.2.2.1 _, hHeld.2.2.2.2.alloc hHeld.2.2.2.2.size _⟩ | exact ⟨pw_cell_below hbn hHeld.1, pw_cell_below hbn hHeld.2.1, pw_cell_below hbn hHeld.2.2.1, pw_cell_below hbn hHeld.2.2.2.1, hHeld.2.2.2.2.trans (hbn.mono hHeld.2.2.2.2.size)⟩
    clear hK K
    try simp only [List.getElem_toArray, List.getElem_cons_succ, List.getElem_cons_zero, Act.put, List.setIfInBounds_toArray, List.set_cons_zero, List.set_cons_succ]
    refine wpAnyH_ready (rs := [26]) (by kernel_rfl) (by simp) ?_;refine (AllReadyH.cons rfl (fun K hK => ?_) AllReadyH.nil);go_simp
    with_reducible refine (same1C A6 c6 _ 2 _ (by first | exact HC6.out.2.1 | exact Kd.C_alloc HC6.out.2.1 _) HC6.out.1 (by first | exact C_two _ | exact Kd.C_below (C_two _) HC6.out.2.2) (by decide)).mono ?_
    rintro e wn ⟨rfl, hbn⟩
    refine hK.out _ _ ?_ (fun hHeld => ?_)
    ·first | exact ⟨cellA hHeld.1 _, cellA hHeld.2.1 _, cellA hHeld.2.2.1 _, cellA hHeld.2.2.2.1 _, hHeld.2.2.2.2.alloc hHeld.2.2.2.2.size _⟩ | exact ⟨pw_cell_below hbn hHeld.1, pw_cell_below hbn hHeld.2.1, pw_cell_below hbn hHeld.2.2.1, pw_cell_below hbn hHeld.2.2.2.1, hHeld.2.2.2.2.trans (hbn.mono hHeld.2.2.2.2.size)⟩
    clear hK K hbn
    try simp only [List.getElem_toArray, List.getElem_cons_succ, List.getElem_cons_zero, Act.put, List.setIfInBounds_toArray, List.set_cons_zero, List.set_cons_succ]
    refine wpAnyH_take (i := 27) (v := ?_) rfl (by kernel_rfl) (by kernel_rfl) (by kernel_rfl) (fun _ _ _ h => h) (Or.inl ⟨by rfl, ?_⟩) (by assumption) ?_;rotate_left
    ·(intro w hSw; (try dsimp only at hSw); go_split_ands; go_simp; try with_reducible rfl)
    try simp only [List.getElem_toArray, List.getElem_cons_succ, List.getElem_cons_zero, Act.put, List.setIfInBounds_toArray, List.set_cons_zero, List.set_cons_succ]
    refine wpAnyH_take (i := 28) (v := ?_) rfl (by kernel_rfl) (by kernel_rfl) (by kernel_rfl) (fun _ _ _ h => h) (Or.inl ⟨by rfl, ?_⟩) (by assumption) ?_;rotate_left
    ·(intro w hSw; (try dsimp only at hSw); go_split_ands; go_simp; try with_reducible rfl)
    try simp only [List.getElem_toArray, List.getElem_cons_succ, List.getElem_cons_zero, Act.put, List.setIfInBounds_toArray, List.set_cons_zero, List.set_cons_succ]
    refine wpAnyH_take (i := 29) (v := ?_) rfl (by kernel_rfl) (by kernel_rfl) (by kernel_rfl) (fun _ _ _ h => h) (Or.inl ⟨by rfl, ?_⟩) (by assumption) ?_;rotate_left
    ·(intro w hSw; (try dsimp only at hSw); go_split_ands; go_simp; try with_reducible rfl)
    try simp only [List.getElem_toArray, List.getElem_cons_succ, List.getElem_cons_zero, Act.put, List.setIfInBounds_toArray, List.set_cons_zero, List.set_cons_succ]
    refine wpAnyH_ready (rs := [30]) (by kernel_rfl) (by simp) ?_;refine (AllReadyH.cons rfl (fun K hK => ?_) AllReadyH.nil);go_simp;refine hK.out _ _ ?_ (fun hHeld => ?_)
    ·first | exact ⟨cellA hHeld.1 _, cellA hHeld.2.1 _, cellA hHeld.2.2.1 _, cellA hHeld.2.2.2.1 _, hHeld.2.2.2.2.alloc hHeld.2.2.2.2.size _⟩ | exact ⟨pw_cell_below hbn hHeld.1, pw_cell_below hbn hHeld.2.1, pw_cell_below hbn hHeld.2.2.1, pw_cell_below hbn hHeld.2.2.2.1, hHeld.2.2.2.2.trans (hbn.mono hHeld.2.2.2.2.size)⟩
    clear hK K
    try simp only [List.getElem_toArray, List.getElem_cons_succ, List.getElem_cons_zero, Act.put, List.setIfInBounds_toArray, List.set_cons_zero, List.set_cons_succ]
    refine wpAnyH_ready (rs := [31]) (by kernel_rfl) (by simp) ?_;refine (AllReadyH.cons rfl (fun K hK => ?_) AllReadyH.nil);go_simp
    with_reducible refine (chkN _).mono ?_
    rintro e wn ⟨rfl, hbn⟩
    refine hK.out _ _ ?_ (fun hHeld => ?_)
    ·first | exact ⟨cellA hHeld.1 _, cellA hHeld.2.1 _, cellA hHeld.2.2.1 _, cellA hHeld.2.2.2.1 _, hHeld.2.2.2.2.alloc hHeld.2.2.2.2.size _⟩ | exact ⟨pw_cell_below hbn hHeld.1, pw_cell_below hbn hHeld.2.1, pw_cell_below hbn hHeld.2.2.1, pw_cell_below hbn hHeld.2.2.2.1, hHeld.2.2.2.2.trans (hbn.mono hHeld.2.2.2.2.size)⟩
    clear hK K hbn
    try simp only [List.getElem_toArray, List.getElem_cons_succ, List.getElem_cons_zero, Act.put, List.setIfInBounds_toArray, List.set_cons_zero, List.set_cons_succ]
    refine wpAnyH_ready (rs := [32]) (by kernel_rfl) (by simp) ?_;refine (AllReadyH.cons rfl (fun K hK => ?_) AllReadyH.nil);go_simp
    with_reducible refine (numC 60 _).mono ?_
    rintro e wn ⟨rfl, hbn⟩
    refine hK.out _ _ ?_ (fun hHeld => ?_)
    ·first | exact ⟨cellA hHeld.1 _, cellA hHeld.2.1 _, cellA hHeld.2.2.1 _, cellA hHeld.2.2.2.1 _, hHeld.2.2.2.2.alloc hHeld.2.2.2.2.size _⟩ | exact ⟨pw_cell_below hbn hHeld.1, pw_cell_below hbn hHeld.2.1, pw_cell_below hbn hHeld.2.2.1, pw_cell_below hbn hHeld.2.2.2.1, hHeld.2.2.2.2.trans (hbn.mono hHeld.2.2.2.2.size)⟩
    clear hK K hbn
    try simp only [List.getElem_toArray, List.getElem_cons_succ, List.getElem_cons_zero, Act.put, List.setIfInBounds_toArray, List.set_cons_zero, List.set_cons_succ]
    refine wpAnyH_take (i := 33) (v := ?_) rfl (by kernel_rfl) (by kernel_rfl) (by kernel_rfl) (fun _ _ _ h => h) (Or.inl ⟨by rfl, ?_⟩) (by assumption) ?_;rotate_left
    ·(intro w hSw; (try dsimp only at hSw); go_split_ands; go_simp; try with_reducible rfl)
    try simp only [List.getElem_toArray, List.getElem_cons_succ, List.getElem_cons_zero, Act.put, List.setIfInBounds_toArray, List.set_cons_zero, List.set_cons_succ]
    refine wpAnyH_take (i := 34) (v := ?_) rfl (by kernel_rfl) (by kernel_rfl) (by kernel_rfl) (fun _ _ _ h => h) (Or.inl ⟨by rfl, ?_⟩) (by assumption) ?_;rotate_left
    ·(intro w hSw; (try dsimp only at hSw); go_split_ands; go_simp; try with_reducible rfl)
    try simp only [List.getElem_toArray, List.getElem_cons_succ, List.getElem_cons_zero, Act.put, List.setIfInBounds_toArray, List.set_cons_zero, List.set_cons_succ]
    refine wpAnyH_take (i := 35) (v := ?_) rfl (by kernel_rfl) (by kernel_rfl) (by kernel_rfl) (fun _ _ _ h => h) (Or.inl ⟨by rfl, ?_⟩) (by assumption) ?_;rotate_left
    ·(intro w hSw; (try dsimp only at hSw); go_split_ands; go_simp; try with_reducible rfl)
    try simp only [List.getElem_toArray, List.getElem_cons_succ, List.getElem_cons_zero, Act.put, List.setIfInBounds_toArray, List.set_cons_zero, List.set_cons_succ]
    refine wpAnyH_take (i := 36) (v := ?_) rfl (by kernel_rfl) (by kernel_rfl) (by kernel_rfl) (fun _ _ _ h => h) (Or.inl ⟨by rfl, ?_⟩) (by assumption) ?_;rotate_left
    ·(intro w hSw; (try dsimp only at hSw); go_split_ands; go_simp; try with_reducible rfl)
    try simp only [List.getElem_toArray, List.getElem_cons_succ, List.getElem_cons_zero, Act.put, List.setIfInBounds_toArray, List.set_cons_zero, List.set_cons_succ]
    refine wpAnyH_take (i := 37) (v := ?_) rfl (by kernel_rfl) (by kernel_rfl) (by kernel_rfl) (fun _ _ _ h => h) (Or.inl ⟨by rfl, ?_⟩) (by assumption) ?_;rotate_left
    ·(intro w hSw; (try dsimp only at hSw); go_split_ands; go_simp; try with_reducible rfl)
    try simp only [List.getElem_toArray, List.getElem_cons_succ, List.getElem_cons_zero, Act.put, List.setIfInBounds_toArray, List.set_cons_zero, List.set_cons_succ]
    refine wpAnyH_ready (rs := [38]) (by kernel_rfl) (by simp) ?_;refine (AllReadyH.cons rfl (fun K hK => ?_) AllReadyH.nil);go_simp
    with_reducible refine (dsameC A3 c3 A5 c5 _ (Kd.C_below HC.out.2.2.1 hHeld.2.2.2.2) HC.out.2.2.2 (Kd.C_below HC.out.2.1 hHeld.2.2.2.2) HC.out.1).mono ?_
    rintro e wn ⟨rfl, hbn⟩
    refine hK.out _ _ ?_ (fun hHeld => ?_)
    ·first | exact ⟨cellA hHeld.1 _, cellA hHeld.2.1 _, cellA hHeld.2.2.1 _, cellA hHeld.2.2.2.1 _, hHeld.2.2.2.2.alloc hHeld.2.2.2.2.size _⟩ | exact ⟨pw_cell_below hbn hHeld.1, pw_cell_below hbn hHeld.2.1, pw_cell_below hbn hHeld.2.2.1, pw_cell_below hbn hHeld.2.2.2.1, hHeld.2.2.2.2.trans (hbn.mono hHeld.2.2.2.2.size)⟩
    clear hK K hbn
    try simp only [List.getElem_toArray, List.getElem_cons_succ, List.getElem_cons_zero, Act.put, List.setIfInBounds_toArray, List.set_cons_zero, List.set_cons_succ]
    refine wpAnyH_take (i := 39) (v := ?_) rfl (by kernel_rfl) (by kernel_rfl) (by kernel_rfl) (fun _ _ _ h => h) (Or.inl ⟨by rfl, ?_⟩) (by assumption) ?_;rotate_left
    ·(intro w hSw; (try dsimp only at hSw); go_split_ands; go_simp; try with_reducible rfl)
    try simp only [List.getElem_toArray, List.getElem_cons_succ, List.getElem_cons_zero, Act.put, List.setIfInBounds_toArray, List.set_cons_zero, List.set_cons_succ]
    refine wpAnyH_take (i := 40) (v := ?_) rfl (by kernel_rfl) (by kernel_rfl) (by kernel_rfl) (fun _ _ _ h => h) (Or.inl ⟨by rfl, ?_⟩) (by assumption) ?_;rotate_left
    ·(intro w hSw; (try dsimp only at hSw); go_split_ands; go_simp; try with_reducible rfl)
    try simp only [List.getElem_toArray, List.getElem_cons_succ, List.getElem_cons_zero, Act.put, List.setIfInBounds_toArray, List.set_cons_zero, List.set_cons_succ]
    refine wpAnyH_done (by kernel_rfl) ?_ _
    go_wp2
    go_ret
    exact ⟨rfl, HW.out.1.trans ((hb4.trans (hHeld.2.2.2.2.mono hb4.size)).mono HW.out.1.size)⟩
   ·go_simp;refine hK.out _ _ ?_ (fun hHeld => ?_)
    ·first | exact ⟨cellA hHeld.1 _, cellA hHeld.2.1 _, cellA hHeld.2.2.1 _, cellA hHeld.2.2.2.1 _, hHeld.2.2.2.2.alloc hHeld.2.2.2.2.size _⟩ | exact ⟨pw_cell_below hbn hHeld.1, pw_cell_below hbn hHeld.2.1, pw_cell_below hbn hHeld.2.2.1, pw_cell_below hbn hHeld.2.2.2.1, hHeld.2.2.2.2.trans (hbn.mono hHeld.2.2.2.2.size)⟩
    clear hK K
    try simp only [List.getElem_toArray, List.getElem_cons_succ, List.getElem_cons_zero, Act.put, List.setIfInBounds_toArray, List.set_cons_zero, List.set_cons_succ]
    refine wpAnyH_ready (rs := [22]) (by kernel_rfl) (by simp) ?_;refine (AllReadyH.cons rfl (fun K hK => ?_) AllReadyH.nil);go_simp
    with_reducible refine (allC A3 c3 _ (Kd.C_below HC.out.2.2.1 hHeld.2.2.2.2) HC.out.2.2.2).mono ?_
    rintro e wn ⟨A6, c6, rfl, hc6, hC6, hbn⟩
    have HC6 := Lib.hid (And.intro hc6 (And.intro hC6 hbn))
    refine hK.out _ _ ?_ (fun hHeld => ?_)
    ·first | exact ⟨cellA hHeld.1 _, cellA hHeld.2.1 _, cellA hHeld.2.2.1 _, cellA hHeld.2.2.2.1 _, hHeld.2.2.2.2.alloc hHeld.2.2.2.2.size _⟩ | exact ⟨pw_cell_below hbn hHeld.1, pw_cell_below hbn hHeld.2.1, pw_cell_below hbn hHeld.2.2.1, pw_cell_below hbn hHeld.2.2.2.1, hHeld.2.2.2.2.trans (hbn.mono hHeld.2.2.2.2.size)⟩
    clear hK K hbn hc6 hC6
    try simp only [List.getElem_toArray, List.getElem_cons_succ, List.getElem_cons_zero, Act.put, List.setIfInBounds_toArray, List.set_cons_zero, List.set_cons_succ]
    refine wpAnyH_ready (rs := [26]) (by kernel_rfl) (by simp) ?_;refine (AllReadyH.cons rfl (fun K hK => ?_) AllReadyH.nil);go_simp
    with_reducible refine (same1C A6 c6 _ 2 _ (by first | exact HC6.out.2.1 | exact Kd.C_alloc HC6.out.2.1 _) HC6.out.1 (by first | exact C_two _ | exact Kd.C_below (C_two _) HC6.out.2.2) (by decide)).mono ?_
    rintro e wn ⟨rfl, hbn⟩
    refine hK.out _ _ ?_ (fun hHeld => ?_)
    ·first | exact ⟨cellA hHeld.1 _, cellA hHeld.2.1 _, cellA hHeld.2.2.1 _, cellA hHeld.2.2.2.1 _, hHeld.2.2.2.2.alloc hHeld.2.2.2.2.size _⟩ | exact ⟨pw_cell_below hbn hHeld.1, pw_cell_below hbn hHeld.2.1, pw_cell_below hbn hHeld.2.2.1, pw_cell_below hbn hHeld.2.2.2.1, hHeld.2.2.2.2.trans (hbn.mono hHeld.2.2.2.2.size)⟩
    clear hK K hbn
    try simp only [List.getElem_toArray, List.getElem_cons_succ, List.getElem_cons_zero, Act.put, List.setIfInBounds_toArray, List.set_cons_zero, List.set_cons_succ]
    refine wpAnyH_take (i := 27) (v := ?_) rfl (by kernel_rfl) (by kernel_rfl) (by kernel_rfl) (fun _ _ _ h => h) (Or.inl ⟨by rfl, ?_⟩) (by assumption) ?_;rotate_left
    ·(intro w hSw; (try dsimp only at hSw); go_split_ands; go_simp; try with_reducible rfl)
    try simp only [List.getElem_toArray, List.getElem_cons_succ, List.getElem_cons_zero, Act.put, List.setIfInBounds_toArray, List.set_cons_zero, List.set_cons_succ]
    refine wpAnyH_take (i := 28) (v := ?_) rfl (by kernel_rfl) (by kernel_rfl) (by kernel_rfl) (fun _ _ _ h => h) (Or.inl ⟨by rfl, ?_⟩) (by assumption) ?_;rotate_left
    ·(intro w hSw; (try dsimp only at hSw); go_split_ands; go_simp; try with_reducible rfl)
    try simp only [List.getElem_toArray, List.getElem_cons_succ, List.getElem_cons_zero, Act.put, List.setIfInBounds_toArray, List.set_cons_zero, List.set_cons_succ]
    refine wpAnyH_take (i := 29) (v := ?_) rfl (by kernel_rfl) (by kernel_rfl) (by kernel_rfl) (fun _ _ _ h => h) (Or.inl ⟨by rfl, ?_⟩) (by assumption) ?_;rotate_left
    ·(intro w hSw; (try dsimp only at hSw); go_split_ands; go_simp; try with_reducible rfl)
    try simp only [List.getElem_toArray, List.getElem_cons_succ, List.getElem_cons_zero, Act.put, List.setIfInBounds_toArray, List.set_cons_zero, List.set_cons_succ]
    refine wpAnyH_ready (rs := [30]) (by kernel_rfl) (by simp) ?_;refine (AllReadyH.cons rfl (fun K hK => ?_) AllReadyH.nil);go_simp;refine hK.out _ _ ?_ (fun hHeld => ?_)
    ·first | exact ⟨cellA hHeld.1 _, cellA hHeld.2.1 _, cellA hHeld.2.2.1 _, cellA hHeld.2.2.2.1 _, hHeld.2.2.2.2.alloc hHeld.2.2.2.2.size _⟩ | exact ⟨pw_cell_below hbn hHeld.1, pw_cell_below hbn hHeld.2.1, pw_cell_below hbn hHeld.2.2.1, pw_cell_below hbn hHeld.2.2.2.1, hHeld.2.2.2.2.trans (hbn.mono hHeld.2.2.2.2.size)⟩
    clear hK K
    try simp only [List.getElem_toArray, List.getElem_cons_succ, List.getElem_cons_zero, Act.put, List.setIfInBounds_toArray, List.set_cons_zero, List.set_cons_succ]
    refine wpAnyH_ready (rs := [31]) (by kernel_rfl) (by simp) ?_;refine (AllReadyH.cons rfl (fun K hK => ?_) AllReadyH.nil);go_simp
    with_reducible refine (chkN _).mono ?_
    rintro e wn ⟨rfl, hbn⟩
    refine hK.out _ _ ?_ (fun hHeld => ?_)
    ·first | exact ⟨cellA hHeld.1 _, cellA hHeld.2.1 _, cellA hHeld.2.2.1 _, cellA hHeld.2.2.2.1 _, hHeld.2.2.2.2.alloc hHeld.2.2.2.2.size _⟩ | exact ⟨pw_cell_below hbn hHeld.1, pw_cell_below hbn hHeld.2.1, pw_cell_below hbn hHeld.2.2.1, pw_cell_below hbn hHeld.2.2.2.1, hHeld.2.2.2.2.trans (hbn.mono hHeld.2.2.2.2.size)⟩
    clear hK K hbn
    try simp only [List.getElem_toArray, List.getElem_cons_succ, List.getElem_cons_zero, Act.put, List.setIfInBounds_toArray, List.set_cons_zero, List.set_cons_succ]
    refine wpAnyH_ready (rs := [32]) (by kernel_rfl) (by simp) ?_;refine (AllReadyH.cons rfl (fun K hK => ?_) AllReadyH.nil);go_simp
    with_reducible refine (numC 60 _).mono ?_
    rintro e wn ⟨rfl, hbn⟩
    refine hK.out _ _ ?_ (fun hHeld => ?_)
    ·first | exact ⟨cellA hHeld.1 _, cellA hHeld.2.1 _, cellA hHeld.2.2.1 _, cellA hHeld.2.2.2.1 _, hHeld.2.2.2.2.alloc hHeld.2.2.2.2.size _⟩ | exact ⟨pw_cell_below hbn hHeld.1, pw_cell_below hbn hHeld.2.1, pw_cell_below hbn hHeld.2.2.1, pw_cell_below hbn hHeld.2.2.2.1, hHeld.2.2.2.2.trans (hbn.mono hHeld.2.2.2.2.size)⟩
    clear hK K hbn
    try simp only [List.getElem_toArray, List.getElem_cons_succ, List.getElem_cons_zero, Act.put, List.setIfInBounds_toArray, List.set_cons_zero, List.set_cons_succ]
    refine wpAnyH_take (i := 33) (v := ?_) rfl (by kernel_rfl) (by kernel_rfl) (by kernel_rfl) (fun _ _ _ h => h) (Or.inl ⟨by rfl, ?_⟩) (by assumption) ?_;rotate_left
    ·(intro w hSw; (try dsimp only at hSw); go_split_ands; go_simp; try with_reducible rfl)
    try simp only [List.getElem_toArray, List.getElem_cons_succ, List.getElem_cons_zero, Act.put, List.setIfInBounds_toArray, List.set_cons_zero, List.set_cons_succ]
    refine wpAnyH_take (i := 34) (v := ?_) rfl (by kernel_rfl) (by kernel_rfl) (by kernel_rfl) (fun _ _ _ h => h) (Or.inl ⟨by rfl, ?_⟩) (by assumption) ?_;rotate_left
    ·(intro w hSw; (try dsimp only at hSw); go_split_ands; go_simp; try with_reducible rfl)
    try simp only [List.getElem_toArray, List.getElem_cons_succ, List.getElem_cons_zero, Act.put, List.setIfInBounds_toArray, List.set_cons_zero, List.set_cons_succ]
    refine wpAnyH_take (i := 35) (v := ?_) rfl (by kernel_rfl) (by kernel_rfl) (by kernel_rfl) (fun _ _ _ h => h) (Or.inl ⟨by rfl, ?_⟩) (by assumption) ?_;rotate_left
    ·(intro w hSw; (try dsimp only at hSw); go_split_ands; go_simp; try with_reducible rfl)
    try simp only [List.getElem_toArray, List.getElem_cons_succ, List.getElem_cons_zero, Act.put, List.setIfInBounds_toArray, List.set_cons_zero, List.set_cons_succ]
    refine wpAnyH_take (i := 36) (v := ?_) rfl (by kernel_rfl) (by kernel_rfl) (by kernel_rfl) (fun _ _ _ h => h) (Or.inl ⟨by rfl, ?_⟩) (by assumption) ?_;rotate_left
    ·(intro w hSw; (try dsimp only at hSw); go_split_ands; go_simp; try with_reducible rfl)
    try simp only [List.getElem_toArray, List.getElem_cons_succ, List.getElem_cons_zero, Act.put, List.setIfInBounds_toArray, List.set_cons_zero, List.set_cons_succ]
    refine wpAnyH_take (i := 37) (v := ?_) rfl (by kernel_rfl) (by kernel_rfl) (by kernel_rfl) (fun _ _ _ h => h) (Or.inl ⟨by rfl, ?_⟩) (by assumption) ?_;rotate_left
    ·(intro w hSw; (try dsimp only at hSw); go_split_ands; go_simp; try with_reducible rfl)
    try simp only [List.getElem_toArray, List.getElem_cons_succ, List.getElem_cons_zero, Act.put, List.setIfInBounds_toArray, List.set_cons_zero, List.set_cons_succ]
    refine wpAnyH_ready (rs := [38]) (by kernel_rfl) (by simp) ?_;refine (AllReadyH.cons rfl (fun K hK => ?_) AllReadyH.nil);go_simp
    with_reducible refine (dsameC A3 c3 A5 c5 _ (Kd.C_below HC.out.2.2.1 hHeld.2.2.2.2) HC.out.2.2.2 (Kd.C_below HC.out.2.1 hHeld.2.2.2.2) HC.out.1).mono ?_
    rintro e wn ⟨rfl, hbn⟩
    refine hK.out _ _ ?_ (fun hHeld => ?_)
    ·first | exact ⟨cellA hHeld.1 _, cellA hHeld.2.1 _, cellA hHeld.2.2.1 _, cellA hHeld.2.2.2.1 _, hHeld.2.2.2.2.alloc hHeld.2.2.2.2.size _⟩ | exact ⟨pw_cell_below hbn hHeld.1, pw_cell_below hbn hHeld.2.1, pw_cell_below hbn hHeld.2.2.1, pw_cell_below hbn hHeld.2.2.2.1, hHeld.2.2.2.2.trans (hbn.mono hHeld.2.2.2.2.size)⟩
    clear hK K hbn
    try simp only [List.getElem_toArray, List.getElem_cons_succ, List.getElem_cons_zero, Act.put, List.setIfInBounds_toArray, List.set_cons_zero, List.set_cons_succ]
    refine wpAnyH_take (i := 39) (v := ?_) rfl (by kernel_rfl) (by kernel_rfl) (by kernel_rfl) (fun _ _ _ h => h) (Or.inl ⟨by rfl, ?_⟩) (by assumption) ?_;rotate_left
    ·(intro w hSw; (try dsimp only at hSw); go_split_ands; go_simp; try with_reducible rfl)
    try simp only [List.getElem_toArray, List.getElem_cons_succ, List.getElem_cons_zero, Act.put, List.setIfInBounds_toArray, List.set_cons_zero, List.set_cons_succ]
    refine wpAnyH_take (i := 40) (v := ?_) rfl (by kernel_rfl) (by kernel_rfl) (by kernel_rfl) (fun _ _ _ h => h) (Or.inl ⟨by rfl, ?_⟩) (by assumption) ?_;rotate_left
    ·(intro w hSw; (try dsimp only at hSw); go_split_ands; go_simp; try with_reducible rfl)
    try simp only [List.getElem_toArray, List.getElem_cons_succ, List.getElem_cons_zero, Act.put, List.setIfInBounds_toArray, List.set_cons_zero, List.set_cons_succ]
    refine wpAnyH_done (by kernel_rfl) ?_ _
    go_wp2
    go_ret
    exact ⟨rfl, HW.out.1.trans ((hb4.trans (hHeld.2.2.2.2.mono hb4.size)).mono HW.out.1.size)⟩
def folkmootlaw06_live.f : Option Bool := some true
theorem folkmootlaw06_live.calls (r : Bool) (w : World) (h : folkmootlaw06_live.f = some r) : Calls Tryz.prog 8 #[] w fun e w' => e = .returned (.bool r) ∧ Below w.heap.size w w' := by
 obtain rfl := Option.some.inj h
 exact live6_any w
end Go.Proofs.YtaedlmeaconflaaGreat.P
end
