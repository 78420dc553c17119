/- what the claim's row stands on, part 6. -/
import Derived.Test.YtgmlenpcchhmbaaGreatZu2
import Derived.Test.YtgmlenpcchhmbaaGreatZu4
import Derived.Test.YtgmlenpcchhmbaaGreatZu3
import Derived.IntWalk
section
set_option linter.unusedVariables false
set_option linter.unusedSimpArgs false
namespace Go.Proofs.YtgmlenpcchhmbaaGreat.P
def Ev {α : Type} (F : Nat → Option α) (r : α) : Prop := ∃ K, ∀ k, K ≤ k → F k = some r
section
variable {α β : Type}
theorem Ev.of (F : Nat → Option α) {r : α} (h : ∀ k, F k = some r) : Ev F r := ⟨0, fun k _ => h k⟩
theorem Ev.some (r : α) : Ev (fun _ => Option.some r) r := ⟨0, fun _ _ => rfl⟩
theorem Ev.succ {F : Nat → Option α} {r : α} (h : Ev (fun k => F (k + 1)) r) : Ev F r := by
  obtain ⟨K, h⟩ := h
  refine ⟨K + 1, fun k hk => ?_⟩
  obtain ⟨j, rfl⟩ : ∃ j, k = j + 1 := ⟨k - 1, by omega⟩
  exact h j (by omega)
theorem Ev.bind {F : Nat → Option α} {G : Nat → α → Option β} {r : α} {s : β} (h : Ev F r) (g : Ev (fun k => G k r) s) : Ev (fun k => (F k).bind (G k)) s := by
  obtain ⟨K, h⟩ := h
  obtain ⟨L, g⟩ := g
  refine ⟨max K L, fun k hk => ?_⟩
  show (F k).bind (G k) = _
  rw [h k (by omega)]
  exact g k (by omega)
theorem Ev.bind1 {x : Option α} {G : Nat → α → Option β} {r : α} {s : β} (h : x = Option.some r) (g : Ev (fun k => G k r) s) : Ev (fun k => x.bind (G k)) s := by
  subst h; exact g
theorem Ev.cond {c : Prop} [Decidable c] {F G : Nat → Option α} {r : α} (h1 : c → Ev F r) (h2 : ¬ c → Ev G r) : Ev (fun k => if c then F k else G k) r := by
  by_cases h : c
  · simp only [if_pos h]; exact h1 h
  · simp only [if_neg h]; exact h2 h
theorem Ev.yes {c : Prop} [Decidable c] {F G : Nat → Option α} {r : α} (h : c) (h1 : Ev F r) : Ev (fun k => if c then F k else G k) r := Ev.cond (fun _ => h1) (fun n => absurd h n)
theorem Ev.no {c : Prop} [Decidable c] {F G : Nat → Option α} {r : α} (h : ¬ c) (h1 : Ev G r) : Ev (fun k => if c then F k else G k) r := Ev.cond (fun y => absurd y h) (fun _ => h1)
theorem Ev.get {F : Nat → Option α} {r : α} (h : Ev F r) : ∃ k, F k = Option.some r := by obtain ⟨K, h⟩ := h; exact ⟨K, h K (Nat.le_refl _)⟩
theorem Ev.eq {F : Nat → Option α} {r s : α} (h : Ev F r) (e : r = s) : Ev F s := e ▸ h
end
theorem w64_succ {n : Nat} (h : n < 9223372036854775807) : Go.RowKit.wrap64 ((n : Int) + 1) = ((n + 1 : Nat) : Int) := by unfold Go.RowKit.wrap64; omega
theorem w64_of {x : Int} (h0 : -9223372036854775808 ≤ x) (h1 : x < 9223372036854775808) : Go.RowKit.wrap64 x = x := by unfold Go.RowKit.wrap64; omega
end Go.Proofs.YtgmlenpcchhmbaaGreat.P
end
section
set_option linter.unusedVariables false
set_option linter.unusedSimpArgs false
namespace Go.Proofs.YtgmlenpcchhmbaaGreat.P
open Go.RowKit Go.Proofs.YtgmlenpcchhmbaaGreatW.PrintWords Go.Proofs.YtgmlenpcchhmbaaGreatW.PrintLast Go.Proofs.YtgmlenpcchhmbaaGreatW.PrintMore
attribute [local go_sem] max2_int min2_int max_two min_two max_three min_three max_four min_four   -- for this text's walks alone
set_option linter.unusedVariables false
set_option linter.unusedSimpArgs false
end Go.Proofs.YtgmlenpcchhmbaaGreat.P
end
section
set_option linter.unusedVariables false
set_option linter.unusedSimpArgs false
namespace Go.Proofs.YtgmlenpcchhmbaaGreat.P
open Go.RowKit Go.Proofs.YtgmlenpcchhmbaaGreatW.PrintWords Go.Proofs.YtgmlenpcchhmbaaGreatW.PrintLast Go.Proofs.YtgmlenpcchhmbaaGreatW.PrintMore
attribute [local go_sem] max2_int min2_int max_two min_two max_three min_three max_four min_four   -- for this text's walks alone
set_option linter.unusedVariables false
set_option linter.unusedSimpArgs false
end Go.Proofs.YtgmlenpcchhmbaaGreat.P
end
section
set_option linter.unusedVariables false
set_option linter.unusedSimpArgs false
namespace Go.Proofs.YtgmlenpcchhmbaaGreat.P
open Go.RowKit Go.Proofs.YtgmlenpcchhmbaaGreatW.PrintWords Go.Proofs.YtgmlenpcchhmbaaGreatW.PrintLast Go.Proofs.YtgmlenpcchhmbaaGreatW.PrintMore
attribute [local go_sem] max2_int min2_int max_two min_two max_three min_three max_four min_four   -- for this text's walks alone
set_option linter.unusedVariables false
set_option linter.unusedSimpArgs false
end Go.Proofs.YtgmlenpcchhmbaaGreat.P
end
section
set_option linter.unusedVariables false
set_option linter.unusedSimpArgs false
namespace Go.Proofs.YtgmlenpcchhmbaaGreat.P
open Go.RowKit Go.Proofs.YtgmlenpcchhmbaaGreatW.PrintWords Go.Proofs.YtgmlenpcchhmbaaGreatW.PrintLast Go.Proofs.YtgmlenpcchhmbaaGreatW.PrintMore
attribute [local go_sem] max2_int min2_int max_two min_two max_three min_three max_four min_four   -- for this text's walks alone
set_option linter.unusedVariables false
set_option linter.unusedSimpArgs false
end Go.Proofs.YtgmlenpcchhmbaaGreat.P
end
section
set_option linter.unusedVariables false
set_option linter.unusedSimpArgs false
namespace Go.Proofs.YtgmlenpcchhmbaaGreat.P
open Go.RowKit Go.Proofs.YtgmlenpcchhmbaaGreatW.PrintWords Go.Proofs.YtgmlenpcchhmbaaGreatW.PrintLast
def pairT (p : S61) : Prop := 1 ≤ p.f0.size ∧ p.f0.size ≤ 16 ∧ rightN p.f1 = p.f1
def dataT (d : List S61) : Prop := SortK (d.map toA) ∧ ∀ p ∈ d, pairT p
end Go.Proofs.YtgmlenpcchhmbaaGreat.P
end
section
set_option linter.unusedVariables false
set_option linter.unusedSimpArgs false
namespace Go.Proofs.YtgmlenpcchhmbaaGreat.P
open Ieee
theorem dConst : Ieee.double.leastPlace = -1074 ∧ Ieee.double.binade = 4503599627370496 ∧ Ieee.double.infRung = 9218868437227405312 ∧ Ieee.double.signWeight = 9223372036854775808 ∧ Ieee.double.fractionBits = 52 := by decide
theorem cut_zero (s : Bool) (n : Nat) : Toward.even.cut s n 0 = n := by
  unfold Toward.cut
  simp [Nat.mod_one]
theorem cut_exact (s : Bool) (n d : Nat) (h : d ≤ (n * 2 ^ d).log2 + 2) : Toward.even.cut s (n * 2 ^ d) d = n := by
  unfold Toward.cut
  rw [Nat.min_eq_left h, Nat.one_shiftLeft]
  have hp : 0 < 2 ^ d := Nat.two_pow_pos d
  simp only [Nat.mul_mod_left, Nat.mul_div_cancel _ hp]
  have h1 : decide (2 ^ d < 2 * 0) = false := by simp
  have h2 : (2 ^ d == 2 * 0) = false := by simp
  rw [h1, h2]
  simp
def rungW (n : Nat) : Nat := (n.log2 + 1022) * 4503599627370496 + n * 2 ^ (52 - n.log2)
theorem norm_bnd {n : Nat} (h0 : n ≠ 0) (h1 : n < 9007199254740992) : n.log2 ≤ 52 ∧ 4503599627370496 ≤ n * 2 ^ (52 - n.log2) ∧ n * 2 ^ (52 - n.log2) < 9007199254740992 := by
  have hl : n.log2 < 53 := (Nat.log2_lt h0).2 h1
  have g1 := Nat.log2_self_le h0
  have g2 : n < 2 ^ (n.log2 + 1) := Nat.lt_log2_self
  have hp : 0 < 2 ^ (52 - n.log2) := Nat.two_pow_pos _
  have e1 : (4503599627370496 : Nat) = 2 ^ n.log2 * 2 ^ (52 - n.log2) := by rw [← Nat.pow_add, show n.log2 + (52 - n.log2) = 52 by omega]
  have e2 : (9007199254740992 : Nat) = 2 ^ (n.log2 + 1) * 2 ^ (52 - n.log2) := by rw [← Nat.pow_add, show n.log2 + 1 + (52 - n.log2) = 53 by omega]
  refine ⟨by omega, ?_, ?_⟩
  · rw [e1]; exact Nat.mul_le_mul_right _ g1
  · rw [e2]; exact Nat.mul_lt_mul_of_pos_right g2 hp
theorem log2_mul_pow {n : Nat} (h0 : n ≠ 0) (d : Nat) : (n * 2 ^ d).log2 = n.log2 + d := by
  have hp : 0 < 2 ^ d := Nat.two_pow_pos d
  have hn : n * 2 ^ d ≠ 0 := by
    have := Nat.mul_pos (Nat.pos_of_ne_zero h0) hp
    omega
  rw [Nat.log2_eq_iff hn]
  constructor
  · rw [Nat.pow_add]; exact Nat.mul_le_mul_right _ (Nat.log2_self_le h0)
  · rw [show n.log2 + d + 1 = n.log2 + 1 + d by omega, Nat.pow_add]; exact Nat.mul_lt_mul_of_pos_right Nat.lt_log2_self hp
theorem nearest_whole (s : Bool) {n : Nat} (h0 : n ≠ 0) (h1 : n < 9007199254740992) (D : Nat) : Ieee.double.nearest s (n * 2 ^ D) (-(D : Int)) = Ieee.double.word s (rungW n) := by
  obtain ⟨c1, c2, c3, c4, c5⟩ := dConst
  obtain ⟨hl, hk1, hk2⟩ := norm_bnd h0 h1
  have hp : 0 < 2 ^ D := Nat.two_pow_pos D
  have hn : n * 2 ^ D ≠ 0 := by
    have := Nat.mul_pos (Nat.pos_of_ne_zero h0) hp
    omega
  have hlast : max (-(D : Int) + ((n * 2 ^ D).log2 : Nat) - ((52 : Nat) : Int)) (-1074 : Int) = (n.log2 : Int) - 52 := by
    rw [log2_mul_pow h0]; omega
  unfold Format.nearest
  simp only [if_neg hn, c1, c2, c3, c5, hlast]
  have hkept : Toward.even.cut s ((n * 2 ^ D) <<< (-(D : Int) - ((n.log2 : Int) - 52)).toNat) (((n.log2 : Int) - 52) - -(D : Int)).toNat = n * 2 ^ (52 - n.log2) := by
    by_cases h : D ≤ 52 - n.log2
    · have e1 : (((n.log2 : Int) - 52) - -(D : Int)).toNat = 0 := by omega
      have e2 : (-(D : Int) - ((n.log2 : Int) - 52)).toNat = 52 - n.log2 - D := by omega
      rw [e1, e2, cut_zero, Nat.shiftLeft_eq, Nat.mul_assoc, ← Nat.pow_add, show D + (52 - n.log2 - D) = 52 - n.log2 by omega]
    · have e1 : (((n.log2 : Int) - 52) - -(D : Int)).toNat = D - (52 - n.log2) := by omega
      have e2 : (-(D : Int) - ((n.log2 : Int) - 52)).toNat = 0 := by omega
      have e3 : n * 2 ^ D = n * 2 ^ (52 - n.log2) * 2 ^ (D - (52 - n.log2)) := by rw [Nat.mul_assoc, ← Nat.pow_add, show 52 - n.log2 + (D - (52 - n.log2)) = D by omega]
      rw [e1, e2, Nat.shiftLeft_zero, e3]
      refine cut_exact s _ _ ?_
      rw [← e3, log2_mul_pow h0]
      omega
  rw [hkept, Nat.min_eq_left]
  · simp only [rungW, show (((n.log2 : Int) - 52) - -1074).toNat = n.log2 + 1022 by omega]
  · rw [show (((n.log2 : Int) - 52) - -1074).toNat = n.log2 + 1022 by omega]
    clear hkept hlast hn
    generalize n * 2 ^ (52 - n.log2) = K at *
    generalize n.log2 = L at *
    omega
def wrd (n : Nat) : Nat := Ieee.double.nearest false n 0
theorem wrd_pos {n : Nat} (h0 : n ≠ 0) (h1 : n < 9007199254740992) : wrd n = rungW n := by
  have := nearest_whole false h0 h1 0
  rw [Nat.pow_zero, Nat.mul_one] at this
  exact this
theorem wrd_zero : wrd 0 = 0 := by decide
theorem rung_lt {n : Nat} (h0 : n ≠ 0) (h1 : n < 9007199254740992) : rungW n < 9223372036854775808 := by
  obtain ⟨hl, hk1, hk2⟩ := norm_bnd h0 h1
  unfold rungW
  have : (n.log2 + 1022) * 4503599627370496 ≤ 1074 * 4503599627370496 := Nat.mul_le_mul_right _ (by omega)
  omega
theorem wrd_lt {n : Nat} (h1 : n < 9007199254740992) : wrd n < 9223372036854775808 := by
  by_cases h0 : n = 0
  · subst h0; rw [wrd_zero]; decide
  · rw [wrd_pos h0 h1]; exact rung_lt h0 h1
def RepW (d : Datum) (s : Bool) (n : Nat) : Prop := ∃ (m : Nat) (k : Nat), d = .number s m (-(k : Int)) ∧ k ≤ 1074 ∧ m = n * 2 ^ k
theorem rep_zero (s : Bool) (k : Nat) (h : k ≤ 1074) : RepW (.number s 0 (-(k : Int))) s 0 := ⟨0, k, rfl, h, (Nat.zero_mul _).symm⟩
theorem read_word (s : Bool) {n : Nat} (h1 : n < 9007199254740992) : RepW (Ieee.double.read (Ieee.double.word s (wrd n))) s n := by
  obtain ⟨c1, c2, c3, c4, c5⟩ := dConst
  have hlt := wrd_lt h1
  have hw : Ieee.double.word s (wrd n) % 9223372036854775808 = wrd n ∧ (Ieee.double.word s (wrd n) / 9223372036854775808 % 2 == 1) = s := by
    unfold Format.word
    rw [c4]
    cases s with
    | true => simp only [if_true]; exact ⟨by omega, by rw [beq_iff_eq]; omega⟩
    | false => simp only [Bool.false_eq_true, if_false]; exact ⟨by omega, by rw [beq_eq_false_iff_ne]; omega⟩
  unfold Format.read
  simp only [c1, c2, c3, c4, hw.1, hw.2]
  by_cases h0 : n = 0
  · subst h0
    rw [wrd_zero, if_pos (by decide)]
    exact rep_zero s 1074 (Nat.le_refl _)
  · obtain ⟨hl, hk1, hk2⟩ := norm_bnd h0 h1
    have hr := wrd_pos h0 h1
    have hru : rungW n = (n.log2 + 1022) * 4503599627370496 + n * 2 ^ (52 - n.log2) := rfl
    generalize hK : n * 2 ^ (52 - n.log2) = K at *
    rw [hr, hru]
    have e1 : ((n.log2 + 1022) * 4503599627370496 + K) / 4503599627370496 = n.log2 + 1023 := by omega
    have e2 : ((n.log2 + 1022) * 4503599627370496 + K) % 4503599627370496 = K - 4503599627370496 := by omega
    rw [if_neg (by omega), if_pos (by omega), e1, e2]
    refine ⟨K, 52 - n.log2, ?_, by omega, hK.symm⟩
    rw [show 4503599627370496 + (K - 4503599627370496) = K by omega, show (-1074 : Int) + ((n.log2 + 1023 - 1 : Nat) : Int) = -((52 - n.log2 : Nat) : Int) by omega]
theorem signed_rep (s : Bool) (n k D : Nat) (h : k ≤ D) : signed s (n * 2 ^ k) (-(k : Int) - -(D : Int)).toNat = (if s then -((n * 2 ^ D : Nat) : Int) else ((n * 2 ^ D : Nat) : Int)) := by
  unfold signed
  rw [Nat.shiftLeft_eq, Nat.mul_assoc, ← Nat.pow_add, show k + (-(k : Int) - -(D : Int)).toNat = D by omega]
theorem min_rep (i j : Nat) : min (-(i : Int)) (-(j : Int)) = -((max i j : Nat) : Int) := by omega
theorem write_whole {n : Nat} (h1 : n < 9007199254740992) (D : Nat) : Ieee.double.nearest false (n * 2 ^ D) (-(D : Int)) = wrd n := by
  by_cases h0 : n = 0
  · subst h0; rw [Nat.zero_mul, wrd_zero]; unfold Format.nearest; rw [if_pos rfl]; rfl
  · rw [nearest_whole false h0 h1, wrd_pos h0 h1]; rfl
theorem sum_plus {d e : Datum} {a b : Nat} (hd : RepW d false a) (he : RepW e false b) (h : a + b < 9007199254740992) : (d.sum e).map Ieee.double.write = some (wrd (a + b)) := by
  obtain ⟨m, i, rfl, hi, rfl⟩ := hd
  obtain ⟨n, j, rfl, hj, rfl⟩ := he
  unfold Datum.sum
  simp only [min_rep, signed_rep _ _ _ _ (Nat.le_max_left i j), signed_rep _ _ _ _ (Nat.le_max_right i j), Bool.false_eq_true, if_false, Bool.and_self, Option.map_some]
  generalize max i j = D
  have hp : 0 < 2 ^ D := Nat.two_pow_pos D
  have e1 : ((a * 2 ^ D : Nat) : Int) + ((b * 2 ^ D : Nat) : Int) = (((a + b) * 2 ^ D : Nat) : Int) := by rw [Nat.add_mul]; omega
  rw [e1, Int.natAbs_natCast]
  have e2 : (if (((a + b) * 2 ^ D : Nat) : Int) = 0 then false else decide ((((a + b) * 2 ^ D : Nat) : Int) < 0)) = false := by
    split
    · rfl
    · exact decide_eq_false (by omega)
  rw [e2]
  show some (Ieee.double.nearest false _ _) = _
  rw [write_whole h]
theorem sum_minus {d e : Datum} {a b : Nat} (hd : RepW d false a) (he : RepW e true b) (h : a < 9007199254740992) (hab : b ≤ a) : (d.sum e).map Ieee.double.write = some (wrd (a - b)) := by
  obtain ⟨m, i, rfl, hi, rfl⟩ := hd
  obtain ⟨n, j, rfl, hj, rfl⟩ := he
  unfold Datum.sum
  simp only [min_rep, signed_rep _ _ _ _ (Nat.le_max_left i j), signed_rep _ _ _ _ (Nat.le_max_right i j), Bool.false_eq_true, if_false, if_true, Bool.false_and, Option.map_some]
  generalize max i j = D
  have hp : 0 < 2 ^ D := Nat.two_pow_pos D
  have hle : b * 2 ^ D ≤ a * 2 ^ D := Nat.mul_le_mul_right _ hab
  have e1 : ((a * 2 ^ D : Nat) : Int) + -((b * 2 ^ D : Nat) : Int) = (((a - b) * 2 ^ D : Nat) : Int) := by rw [Nat.sub_mul]; omega
  rw [e1, Int.natAbs_natCast]
  have e2 : (if (((a - b) * 2 ^ D : Nat) : Int) = 0 then false else decide ((((a - b) * 2 ^ D : Nat) : Int) < 0)) = false := by
    split
    · rfl
    · exact decide_eq_false (by omega)
  rw [e2]
  show some (Ieee.double.nearest false _ _) = _
  rw [write_whole (by omega)]
theorem order_rep {d e : Datum} {a b : Nat} (hd : RepW d false a) (he : RepW e false b) : d.order e = some (compare a b) := by
  obtain ⟨m, i, rfl, hi, rfl⟩ := hd
  obtain ⟨n, j, rfl, hj, rfl⟩ := he
  unfold Datum.order
  simp only [min_rep, signed_rep _ _ _ _ (Nat.le_max_left i j), signed_rep _ _ _ _ (Nat.le_max_right i j), Bool.false_eq_true, if_false]
  generalize max i j = D
  have hp : 0 < 2 ^ D := Nat.two_pow_pos D
  congr 1
  rcases Nat.lt_trichotomy a b with h | h | h
  · rw [Nat.compare_eq_lt.2 h, Int.compare_eq_lt.2]
    have := Nat.mul_lt_mul_of_pos_right h hp
    omega
  · subst h; rw [Nat.compare_eq_eq.2 rfl, Int.compare_eq_eq.2 rfl]
  · rw [Nat.compare_eq_gt.2 h, Int.compare_eq_gt.2]
    have := Nat.mul_lt_mul_of_pos_right h hp
    omega
def wN (n : Nat) : Int := (wrd n : Nat)
theorem word_false (n : Nat) : Ieee.double.word false n = n := rfl
theorem read_wrd {n : Nat} (h : n < 9007199254740992) : RepW (Ieee.double.read (wrd n)) false n := by
  have := read_word false h
  rwa [word_false] at this
theorem right_wN {n : Nat} (h : n < 9007199254740992) : rightN (wN n) = wN n := by
  obtain ⟨m, k, e, _⟩ := read_wrd h
  have : nanN (wN n) = false := by
    unfold nanN wN
    rw [Int.toNat_natCast, e]; rfl
  unfold rightN
  rw [this]; simp
theorem right_neg {n : Nat} (h : n < 9007199254740992) : rightN ((Ieee.double.word true (wrd n) : Nat) : Int) = ((Ieee.double.word true (wrd n) : Nat) : Int) := by
  obtain ⟨m, k, e, _⟩ := read_word true h
  have : nanN ((Ieee.double.word true (wrd n) : Nat) : Int) = false := by
    unfold nanN
    rw [Int.toNat_natCast, e]; rfl
  unfold rightN
  rw [this]; simp
theorem ofN_wN (n : Nat) : ((floatOfInt .f64 (n : Int) : Nat) : Int) = wN n := by
  unfold floatOfInt FloatKind.nearest
  have h : decide ((n : Int) < 0) = false := decide_eq_false (by omega)
  rw [h, Int.natAbs_natCast]
  rfl
theorem wN_zero : wN 0 = 0 := by decide
theorem add_wN {a b : Nat} (h : a + b < 9007199254740992) : addN (wN a) (wN b) = wN (a + b) := by
  unfold addN
  rw [right_wN (by omega), right_wN (by omega)]
  unfold wN
  rw [Int.toNat_natCast, Int.toNat_natCast]
  unfold Format.add
  rw [sum_plus (read_wrd (by omega)) (read_wrd (by omega)) h]
  exact right_wN h
theorem xor_msb (n : Nat) (h : n < 9223372036854775808) : n ^^^ 9223372036854775808 = 9223372036854775808 + n := by
  have e : (9223372036854775808 : Nat) = 2 ^ 63 := by decide
  have h1 : 2 ^ 63 + n = 2 ^ 63 ||| n := by
    have := Nat.two_pow_add_eq_or_of_lt (i := 63) (b := n) (by rw [← e]; exact h) 1
    simpa using this
  rw [e, h1]
  apply Nat.eq_of_testBit_eq
  intro i
  rw [Nat.testBit_xor, Nat.testBit_or, Nat.testBit_two_pow]
  by_cases hi : 63 = i
  · subst hi
    rw [Nat.testBit_lt_two_pow (by rw [← e]; exact h)]
    simp
  · simp [hi]
theorem neg_wN {b : Nat} (h : b < 9007199254740992) : negN (wN b) = ((Ieee.double.word true (wrd b) : Nat) : Int) := by
  have hlt := wrd_lt h
  unfold negN
  have e : Go.bits .xor .u64 (wN b) 9223372036854775808 = ((Ieee.double.word true (wrd b) : Nat) : Int) := by
    have hw : ∀ n : Int, 0 ≤ n → n < 2 ^ 64 → IntKind.u64.wrap n = n := fun n h0 h1 => Go.IntWalk.u64_in n (by omega)
    unfold wN
    generalize wrd b = n at *
    simp only [Go.bits]
    show IntKind.u64.wrap (((BitVec.ofInt 64 (n : Int)) ^^^ (BitVec.ofInt 64 9223372036854775808)).toNat : Int) = _
    have e2 : BitVec.ofInt 64 9223372036854775808 = 9223372036854775808#64 := by rfl
    have e3 : (9223372036854775808#64).toNat = 9223372036854775808 := by rfl
    rw [e2, BitVec.toNat_xor, BitVec.ofInt_natCast, BitVec.toNat_ofNat, Nat.mod_eq_of_lt (by omega), e3, xor_msb n hlt, hw _ (by omega) (by omega)]
    unfold Format.word
    rw [dConst.2.2.2.1, if_pos rfl]
  rw [e, right_neg h]
theorem sub_wN {a b : Nat} (h : a < 9007199254740992) (hb : b ≤ a) : addN (wN a) (negN (wN b)) = wN (a - b) := by
  unfold addN
  rw [neg_wN (by omega), right_wN h, right_neg (by omega)]
  unfold wN
  rw [Int.toNat_natCast, Int.toNat_natCast]
  unfold Format.add
  rw [sum_minus (read_wrd h) (read_word true (by omega)) h hb]
  exact right_wN (by omega)
theorem ge_wN {a b : Nat} (ha : a < 9007199254740992) (hb : b < 9007199254740992) : geN (wN a) (wN b) = decide (b ≤ a) := by
  unfold geN
  rw [right_wN ha, right_wN hb]
  unfold wN
  rw [Int.toNat_natCast, Int.toNat_natCast]
  unfold Format.order
  rw [order_rep (read_wrd ha) (read_wrd hb)]
  rcases Nat.lt_trichotomy a b with h | h | h
  · rw [Nat.compare_eq_lt.2 h, decide_eq_false (by omega)]; rfl
  · rw [Nat.compare_eq_eq.2 h, decide_eq_true (by omega)]; rfl
  · rw [Nat.compare_eq_gt.2 h, decide_eq_true (by omega)]; rfl
end Go.Proofs.YtgmlenpcchhmbaaGreat.P
end
