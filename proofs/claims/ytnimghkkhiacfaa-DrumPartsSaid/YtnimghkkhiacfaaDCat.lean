/- slices.Concat of lists of bytes. -/
import Derived.Test.YtnimghkkhiacfaaDFile
namespace Go.Proofs.Ytnimghkkhiacfaa.P
open Go.RowKit Go.Proofs.YtnimghkkhiacfaaW.PrintWords Go.Proofs.YtnimghkkhiacfaaW.PrintLast Go.Proofs.YtnimghkkhiacfaaW.PrintMore
theorem infoB : (Try.prog.info? 5).map (fun i => (i.zero, i.size, i.bytes)) = some (some (.int .u8 0), 1, 1) := by kernel_rfl
abbrev kBs : Kd (List Int) := Kd.slice 5 (Kd.int .u8)
def rdB (xs : List (List Int)) (i : Int) : (List Int) := xs.getD i.toNat ([] : List Int)
theorem at_B {w : World} {A : Option Addr} {n : Nat} {xs : List (List Int)} (h : Kd.C kBs w A n xs) (i : Int) (h0 : 0 ≤ i) (h1 : i < n) : ∃ ad A0 c0, A = some ad ∧ w.cell? (ad.add i.toNat) = some (.slice A0 (rdB xs i).length c0) ∧ (rdB xs i).length ≤ c0 ∧ (Kd.int .u8).C w A0 (rdB xs i).length (rdB xs i) := by
  obtain ⟨ad, c, e, _, hK, hc0⟩ := Kd.C_get h ([] : List Int) i h0 h1
  have hc : ∀ j u, c[j]? = some u → w.cell? (ad.add (i.toNat * 1 + j)) = some u := hc0
  obtain ⟨A0, c0, rfl, l0, g0⟩ := hK
  exact ⟨ad, A0, c0, e, by have hq := hc 0 _ rfl; rwa [Nat.mul_one, Nat.add_zero] at hq, l0, g0⟩
theorem rdB_nat (xs : List (List Int)) {k : Nat} (hk : k < xs.length) : rdB xs (k : Int) = xs[k] := by unfold rdB; simp [List.getD_eq_getElem?_getD, List.getElem?_eq_getElem hk]
theorem reads_of {w : World} {A : Option Addr} {xs : List Int} (h : Kd.C (Kd.int .u8) w A xs.length xs) : ReadsInt w .u8 A xs.length xs := readsInt_of.2 (Kd.reads_of_C (d := (0 : Int)) h)
theorem w64 {x : Int} (h0 : -9223372036854775808 ≤ x) (h1 : x ≤ 9223372036854775807) : wrap64 x = x := by unfold wrap64; omega
/-- a row of bytes that lies from base on. -/
def RowB (w : World) (base : Nat) (v : Value) (xs : List Int) : Prop := w.ownsRow base 5 1 v xs.length (nums .u8 xs)
theorem grow_any (m : Nat) (hm : m ≤ 1099511627776) (w : World) : Calls Try.prog 45 #[.slice none 0 0, .int .i64 m] w fun e w' => ∃ v, e = .returned v ∧ RowB w' w.heap.size v [] ∧ Below w.heap.size w w' := by
  have d0 : decide ((m : Int) < 0) = false := decide_eq_false (by omega)
  have e1 : wrap64 ((m : Int) - 0) = m := by rw [w64 (by omega) (by omega)]; omega
  go_enter Try.func45, Try.ntmps45
  by_cases hz : m = 0
  · subst hz
    go_wp2
    go_ret
    exact ⟨_, rfl, ⟨rfl, .inl ⟨rfl, rfl⟩⟩, Below.refl _ _⟩
  · have d1 : decide ((0 : Int) < m) = true := decide_eq_true (by omega)
    go_wp2_with ((with_reducible refine gate_builtin (b := .append) (xs := #[.tmp 20, .tmp 21]) rfl ?_); at_builtin; refine Kd.R_append_zeros (Kd.int .u8) (w0 := w) w.heap.size rfl (.tmp 20) (.tmp 21) 22 3 5 (.int .u8 0) 1 rfl Try.underlying22 Try.underlying3 infoB rfl (by decide) (by decide) (.slice none 0 0) [] 0 (m : Int) (fun k => w.heap.size ≤ k) rfl rfl rfl (fun _ h => h) (Kd.R_nil _ _ _ _ _) (by omega) (Below.refl _ _) (Nat.le_refl _) (by simp; omega) ?_; intro v1 w1 hR hb hg hat; have ho := Kd.own_of_R hR; obtain ⟨A, c, rfl, hrd⟩ := own_reads ho)
    go_ret
    refine ⟨_, rfl, ?_, hb⟩
    have := own_take ho (Nat.zero_le _)
    simpa [RowB, nums] using this
theorem flat_snoc (l : List (List Int)) {k : Nat} (hk : k < l.length) : (l.take (k + 1)).flatten = (l.take k).flatten ++ l[k] := by
  rw [List.take_succ_eq_append_getElem hk, List.flatten_append]; simp
theorem flat_le (l : List (List Int)) (k : Nat) : (l.take k).flatten.length ≤ l.flatten.length := by
  conv => rhs; rw [← List.take_append_drop k l, List.flatten_append, List.length_append]
  omega
def CatA (l : List (List Int)) (w : World) (sv kv : Value) (wr : World) : Prop := ∃ k : Nat, sv = .int .i64 (l.take k).flatten.length ∧ kv = .int .i64 k ∧ k ≤ l.length ∧ wr = w
def CatB (l : List (List Int)) (w : World) (v kv : Value) (wr : World) : Prop := ∃ k : Nat, kv = .int .i64 k ∧ k ≤ l.length ∧ RowB wr w.heap.size v (l.take k).flatten ∧ Below w.heap.size w wr
set_option maxHeartbeats 4000000 in
theorem concat_any (A : Option Addr) (c : Nat) (l : List (List Int)) (w : World) (hC : Kd.C kBs w A l.length l) (hl : l.flatten.length ≤ 1099511627776) :
    Calls Try.prog 32 #[.slice A l.length c] w fun e w' => ∃ v, e = .returned v ∧ RowB w' w.heap.size v l.flatten ∧ Below w.heap.size w w' := by
  have hm := hC.2.1
  have HC := Lib.hid hC; clear hC
  obtain ⟨Q, hQ⟩ : ∃ Q, l.flatten = Q := ⟨_, rfl⟩
  have hle := flat_le l
  rw [hQ] at hl hle ⊢
  have HQ := Lib.hid hQ; have HLE := Lib.hid hle; clear hQ hle
  go_enter Try.func32, Try.ntmps32
  go_wp2
  go_loopw [3, 11] (fun sv kv wr => CatA l w sv kv wr) (fun _ k _ => l.length - (intOf k).toNat)
  case atStart => exact ⟨0, rfl, rfl, Nat.zero_le _, rfl⟩
  case round =>
    obtain ⟨k, rfl, rfl, hk, hw⟩ := hrel
    replace hw := hw.symm
    subst hw
    by_cases hlt : k < l.length
    · obtain ⟨ad, A0, c0, rfl, hx, hl0, hi0⟩ := at_B HC.out (k : Int) (by omega) (by omega)
      rw [rdB_nat l hlt] at hx
      simp only [Int.toNat_natCast] at hx
      have hfs := flat_snoc l hlt
      have hfl := HLE.out (k + 1)
      rw [hfs, List.length_append] at hfl
      generalize (l.take k).flatten = P at *
      generalize l[k] = u at *
      have HFS := Lib.hid hfs; clear hfs
      have e1 : wrap64 ((P.length : Int) + u.length) = (P.length : Int) + u.length := w64 (by omega) (by omega)
      have d1 : decide ((P.length : Int) + u.length < 0) = false := decide_eq_false (by omega)
      go_wp2
      go_roundw
      case rel => exact ⟨k + 1, by rw [HFS.out, List.length_append, Int.natCast_add], by go_num, by omega, rfl⟩
      case measure => simp [intOf]; omega
    · obtain rfl : k = l.length := by omega
      rw [List.take_length, HQ.out]
      go_wp2_with fail
      refine (grow_any Q.length hl w).mono ?_
      rintro e w1 ⟨v, rfl, ho, hb⟩
      go_wp2
      go_loopw [6, 27] (fun v kv wr => CatB l w v kv wr) (fun _ k _ => l.length - (intOf k).toNat)
      case atStart => exact ⟨0, rfl, Nat.zero_le _, ho, hb⟩
      case round =>
        clear ho hb
        obtain ⟨k, rfl, hk, ho, hb⟩ := hrel
        by_cases hlt : k < l.length
        · obtain ⟨ad, A0, c0, rfl, hx, hl0, hi0⟩ := at_B HC.out (k : Int) (by omega) (by omega)
          rw [rdB_nat l hlt] at hx hi0
          simp only [Int.toNat_natCast] at hx
          have hx := pw_cell_below hb hx
          have hrd := reads_of (Kd.C_below hi0 hb)
          have hfs := flat_snoc l hlt
          have hfl := HLE.out (k + 1)
          rw [hfs, List.length_append] at hfl
          generalize (l.take k).flatten = P at *
          generalize l[k] = u at *
          have HFS := Lib.hid hfs; clear hfs
          have HO := Lib.hid ho; have HRD := Lib.hid hrd; have HB := Lib.hid hb
          obtain ⟨A6, c6, rfl, _⟩ := own_reads ho
          clear ho hrd hb hi0
          go_wp2_with ((with_reducible refine gate_builtin (b := .append) (xs := #[.tmp 31, .tmp 32]) rfl ?_); at_builtin; refine print_append_row (w0 := w) w.heap.size rfl (.tmp 31) (.tmp 32) 22 5 .u8 1 rfl Try.underlying22 infoB (by decide) (.slice A6 P.length c6) P u A0 u.length c0 rfl rfl HO.out HRD.out HB.out HB.out.size (by omega) ?_; intro v1 w6 hO1 hb6 hg6 hat6)
          go_roundw
          case rel => exact ⟨k + 1, by go_num, by omega, by rw [HFS.out]; assumption, by assumption⟩
          case measure => simp [intOf]; omega
        · obtain rfl : k = l.length := by omega
          rw [List.take_length, HQ.out] at ho
          go_wp2
          go_ret
          exact ⟨_, rfl, ho, hb⟩
end Go.Proofs.Ytnimghkkhiacfaa.P
