/- what the claim's row stands on, part 4. -/
import Derived.Test.YtaedlmeaconflaaZo3
import Derived.Defers
import Derived.Recover
import Derived.Test.YtaedlmeaconflaaZo2
import Derived.OrdersHeld
import Derived.Shelf.SlSortCmp.WholeK
import Derived.Shelf.SlGeneric
import Derived.Shelf.SlLaysF0
import Derived.Shelf.SlIterI.Nil
import Derived.Shelf.Sort.Plain
import Derived.Ground.NamesProg
import Derived.Ground.SlsfProg
import Derived.Ground.GgzProg
import Derived.Test.YtaedlmeaconflaaProg
import Derived.Shelf.SlSortCmp.NoneTotal
import Derived.Deep.QuietTactic
import Derived.BigQuiet
import Derived.Shelf.SlSortCmp.QuietGrown
section
set_option linter.unusedVariables false
set_option linter.unusedSimpArgs false
namespace Go.Proofs.Ytaedlmeaconflaa.P
open Go.RowKit Go.Proofs.YtaedlmeaconflaaW.PrintWords Go.Proofs.YtaedlmeaconflaaW.PrintLast Go.Proofs.YtaedlmeaconflaaW.PrintMore
structure EyeIs (w : World) (g ab : Nat) (xs : List Int) (bl : Bool) : Prop where
  ne : ab ≠ g ∨ xs = []
  old : ab < w.heap.size
  ex : ∃ A c, Blk w g 68 #[.slice A xs.length c, .bool bl] ∧ xs.length ≤ c ∧ Kd.F (Kd.int .u8) w (· = ab) A xs.length xs
theorem F_zero {w : World} {ok : Nat → Prop} (A : Option Addr) : Kd.F (Kd.int .u8) w ok A 0 [] := fun _ _ => ⟨rfl, by decide, fun h => absurd h (by decide)⟩
theorem rep23 : Array.replicate 23 undef = #[undef, undef, undef, undef, undef, undef, undef, undef, undef, undef, undef, undef, undef, undef, undef, undef, undef, undef, undef, undef, undef, undef, undef] := rfl
theorem sight_assert (w : World) : (Instr.typeAssert (.iface 87 (.agg #[])) 20 87 true).run Try.prog w = .ok (.tuple #[.agg #[], .bool true]) w := by kernel_rfl
structure Caught (w w' : World) (g bx : Nat) (was : Value) (z : Value) (tX : TypeId) : Prop where
  upd : Upd w w' (fun k => k = g ∨ k = bx)
  eye : Blk w' g 68 #[was, .bool true]
  res : Blk w' bx tX #[z]
section
variable {w w' : World} {g ab : Nat} {xs : List Int} {bl : Bool}
theorem EyeIs.upd {S : Nat → Prop} (h : EyeIs w g ab xs bl) (hu : Upd w w' S) (hg : ¬ S g) (ha : ¬ S ab) : EyeIs w' g ab xs bl := by
  obtain ⟨A, c, hB, hc, hF⟩ := h.ex
  exact ⟨h.ne, Nat.lt_of_lt_of_le h.old hu.size, A, c, hB.upd hu hg, hc, Kd.F_step hF (fun k hk hlt => hu.block k hlt (hk ▸ ha))⟩
theorem EyeIs.below (h : EyeIs w g ab xs bl) (hb : Below w.heap.size w w') : EyeIs w' g ab xs bl := h.upd (Upd.of_below hb (fun _ => False)) (fun h => h) (fun h => h)
theorem EyeIs.lt (h : EyeIs w g ab xs bl) : g < w.heap.size := by obtain ⟨A, c, hB, _⟩ := h.ex; exact hB.lt
def sightP : List PanicEntry := [{ v := .iface 87 (.agg #[]), recovered := false }]
theorem must_true (w : World) : Calls Try.prog 38 #[.bool true] w fun e w' => e = .returned (.tuple #[]) ∧ w' = w := by
  go_enter Try.func38, Try.ntmps38
  go_wp2
  (try simp only [Exit.inBlock, Exit.then]); refine bodyPost_end (results_none rfl _ _ _) rfl ?_
  exact ⟨rfl, rfl⟩
theorem must_false (w : World) : Calls Try.prog 38 #[.bool false] w fun e w' => e = .panicked sightP ∧ w' = w := by
  go_enter Try.func38, Try.ntmps38
  go_wp2
  exact ⟨rfl, rfl, rfl⟩
theorem C_of_int {W : World} {A : Option Addr} {n : Nat} {xs : List Int} (h : ReadsInt W .u8 A n xs) : Kd.C (Kd.int .u8) W A n xs := Kd.C_of_reads (d := (0 : Int)) (readsInt_of.1 h)
theorem reads_F {A : Option Addr} {n : Nat} {ys : List Int} {ok : Nat → Prop} (h : Kd.F (Kd.int .u8) w ok A n ys) : ReadsInt w .u8 A n ys := readsInt_of.2 (Kd.reads_of_C (d := (0 : Int)) (Kd.F_now h))
theorem F_reads {A A' : Option Addr} {n n' : Nat} {ys ys' : List Int} {ok : Nat → Prop} (h : Kd.F (Kd.int .u8) w ok A n ys) (hi : ∀ W, ReadsInt W .u8 A n ys → ReadsInt W .u8 A' n' ys') : Kd.F (Kd.int .u8) w ok A' n' ys' :=
  Kd.F_imp h (fun W hC => C_of_int (hi W (readsInt_of.2 (Kd.reads_of_C (d := (0 : Int)) hC))))
theorem take_done {A : Option Addr} {n c n2 c2 : Nat} (hB : Blk w g 68 #[.slice A xs.length c, .bool bl]) (hne : ab ≠ g ∨ xs = []) (hold : ab < w.heap.size) (hF : Kd.F (Kd.int .u8) w (· = ab) A xs.length xs) (hn : n ≤ xs.length) (hc : xs.length ≤ c) (h2 : n2 = xs.length - n) (hc2 : c2 = c - n) {A2 : Option Addr} (hA2 : A2 = if c = n then A else A.map (·.add n)) :
    Kd.F (Kd.int .u8) (w.setCell ⟨g, 0, none⟩ (.slice A2 n2 c2)) (· = ab) A n (xs.take n) ∧ EyeIs (w.setCell ⟨g, 0, none⟩ (.slice A2 n2 c2)) g ab (xs.drop n) bl ∧ Upd w (w.setCell ⟨g, 0, none⟩ (.slice A2 n2 c2)) (· = g) := by
  have hu : Upd w (w.setCell ⟨g, 0, none⟩ (.slice A2 n2 c2)) (· = g) := (Upd.refl w (· = g)).setCell (p := ⟨g, 0, none⟩) (.inl rfl) _
  have hF' : Kd.F (Kd.int .u8) (w.setCell ⟨g, 0, none⟩ (.slice A2 n2 c2)) (· = ab) A xs.length xs := by
    rcases hne with hne | rfl
    · exact Kd.F_step hF (fun k hk hlt => hu.block k hlt (fun e => hne (hk ▸ e)))
    · exact F_zero A
  have hl : n2 = (xs.drop n).length := by rw [List.length_drop]; exact h2
  refine ⟨F_reads hF' (fun W h => h.take_ n hn), ⟨hne.imp id (fun h => by rw [h, List.drop_nil]), Nat.lt_of_lt_of_le hold hu.size, A2, c2, ?_, by rw [← hl]; omega, ?_⟩, hu⟩
  · have := hB.set_ 0 (.slice A2 n2 c2)
    rw [hl] at this ⊢
    exact this
  · rw [← hl, hA2, h2]
    rw [hA2, h2] at hF'
    exact F_reads hF' (fun W h => h.drop_ n hn hc)
theorem take_short (h : EyeIs w g ab xs bl) (n : Int) (hn : (xs.length : Int) < n) : Calls Try.prog 54 #[ptr g, .int .i64 n] w fun e w' => e = .panicked sightP ∧ w' = w := by
  obtain ⟨A, c, hB, hc, hF⟩ := h.ex
  have hc0 : w.cell? ⟨g, 0, none⟩ = some (.slice A xs.length c) := hB.cell 0
  have d1 : decide (n ≤ (xs.length : Int)) = false := decide_eq_false (by omega)
  clear h hB hF
  go_enter Try.func54, Try.ntmps54
  go_wp2_with fail
  refine (must_false w).mono ?_
  rintro e w1 ⟨rfl, rfl⟩
  go_wp2_with fail
  exact ⟨rfl, rfl, rfl⟩
theorem take_ok (h : EyeIs w g ab xs bl) (n : Nat) (hn : n ≤ xs.length) : Calls Try.prog 54 #[ptr g, .int .i64 (n : Int)] w fun e w' => ∃ A1 c1, e = .returned (.slice A1 n c1) ∧ n ≤ c1 ∧ Kd.F (Kd.int .u8) w' (· = ab) A1 n (xs.take n) ∧ EyeIs w' g ab (xs.drop n) bl ∧ Upd w w' (· = g) := by
  obtain ⟨A, c, hB, hc, hF⟩ := h.ex
  have hne := h.ne; have hold := h.old
  have hm := (reads_F hF).2.1
  have hc0 : w.cell? ⟨g, 0, none⟩ = some (.slice A xs.length c) := hB.cell 0
  have hfz := hB.frozen 0
  have d1 : decide ((n : Int) ≤ (xs.length : Int)) = true := decide_eq_true (by omega)
  have hnc : n ≤ c := by omega
  have hu : ∀ v : Value, Upd w (w.setCell ⟨g, 0, none⟩ v) (· = g) := fun v => (Upd.refl w (· = g)).setCell (p := ⟨g, 0, none⟩) (.inl rfl) v
  have HB := Lib.hid hB; have HF := Lib.hid hF; have HU := Lib.hid hu; have HNE := Lib.hid hne; have HC := Lib.hid hc; have HOL := Lib.hid hold
  clear h hB hF hu hne hold
  go_enter Try.func54, Try.ntmps54
  go_wp2_with fail
  refine (must_true w).mono ?_
  rintro e w1 ⟨rfl, rfl⟩
  by_cases hcn : c = n
  · have hD := take_done (n := n) (n2 := 0) (c2 := 0) HB.out HNE.out HOL.out HF.out hn HC.out (by omega) (by omega) (A2 := A) (by rw [if_pos hcn])
    have HD := Lib.hid hD; clear hD
    subst hcn
    go_wp2
    go_ret
    exact ⟨A, c, rfl, Nat.le_refl _, HD.out⟩
  · have hD := take_done (n := n) (n2 := xs.length - n) (c2 := c - n) HB.out HNE.out HOL.out HF.out hn HC.out rfl rfl (A2 := A.map (·.add n)) (by rw [if_neg hcn])
    have HD := Lib.hid hD; clear hD
    go_wp2
    go_ret
    exact ⟨A, c, rfl, hnc, HD.out⟩
def numOf (xs : List Int) (many : Nat) : Nat := leNum (xs.take many)
theorem number_short (h : EyeIs w g ab xs bl) (n : Nat) (hn : xs.length < n) : Calls Try.prog 35 #[ptr g, .int .i64 (n : Int)] w fun e w' => e = .panicked sightP ∧ w' = w := by
  have ht := take_short h (n : Int) (by omega)
  have HT := Lib.hid ht
  clear h ht
  go_enter Try.func35, Try.ntmps35
  go_wp2_with fail
  refine HT.out.mono ?_
  rintro e w1 ⟨rfl, rfl⟩
  go_wp2_with fail
  exact ⟨rfl, rfl, rfl⟩
def NumA (w1 : World) (ys : List Int) (nv kv : Value) (wr : World) : Prop := ∃ k : Nat, kv = .int .i64 k ∧ k ≤ ys.length ∧ nv = .int .u64 (leNum (ys.take k) : Nat) ∧ wr = w1
theorem number_ok (h : EyeIs w g ab xs bl) (hx : bytesOk xs) (n : Nat) (hn : n ≤ xs.length) (h8 : n ≤ 8) : Calls Try.prog 35 #[ptr g, .int .i64 (n : Int)] w fun e w' => e = .returned (.int .u64 (numOf xs n : Nat)) ∧ EyeIs w' g ab (xs.drop n) bl ∧ Upd w w' (· = g) := by
  have ht := take_ok h n hn
  have HT := Lib.hid ht
  clear h ht
  go_enter Try.func35, Try.ntmps35
  go_wp2_with fail
  refine HT.out.mono ?_
  rintro e w1 ⟨A1, c1, rfl, hc1, hF1, hE1, hu1⟩
  have HR := Lib.hid (reads_F hF1)
  have HE := Lib.hid (And.intro hE1 hu1)
  have hyl : (xs.take n).length = n := by rw [List.length_take]; omega
  have hyb : bytesOk (xs.take n) := fun x hx' => hx x (List.mem_of_mem_take hx')
  obtain ⟨ys, hys⟩ : ∃ ys, xs.take n = ys := ⟨_, rfl⟩
  rw [hys] at HR hyl hyb
  have HYB := Lib.hid hyb
  have HYS := Lib.hid (show numOf xs n = leNum ys by unfold numOf; rw [hys])
  clear hF1 hE1 hu1 hx hys hyb HT
  subst hyl
  go_wp2
  go_loopw [4, 5, 6, 11] (fun nv _ _ kv wr => NumA w1 ys nv kv wr) (fun _ _ _ k _ => ys.length - (intOf k).toNat)
  case atStart => exact ⟨0, rfl, Nat.zero_le _, rfl, rfl⟩
  case round =>
    obtain ⟨k, rfl, hk, rfl, hw⟩ := hrel
    replace hw := hw.symm
    subst hw
    by_cases hlt : k < ys.length
    · obtain ⟨ad, hA, hcell⟩ := HR.out.at_ (k : Int) (by omega) (by omega)
      subst hA
      rw [rd_nat ys hlt] at hcell
      simp only [Int.toNat_natCast] at hcell
      have hb := HYB.out ys[k] (List.getElem_mem hlt)
      obtain ⟨b, hbe⟩ : ∃ b : Nat, ys[k] = b := ⟨ys[k].toNat, by omega⟩
      have hsn := leNum_snoc (ys.take k) ys[k]
      rw [← List.take_succ_eq_append_getElem hlt, List.length_take, Nat.min_eq_left (by omega), hbe, Int.toNat_natCast] at hsn
      have hlt2 := leNum_lt (ys.take k) (fun x hx => HYB.out x (List.mem_of_mem_take hx))
      rw [List.length_take, Nat.min_eq_left (by omega)] at hlt2
      have hj := or_join (k := k) (acc := leNum (ys.take k)) (b := b) (by omega) hlt2 (by omega)
      rw [hbe] at hcell
      have HJ := Lib.hid hj; have HSN := Lib.hid hsn
      clear hb hbe hsn hlt2 hj
      go_wp2
      go_roundw
      case rel => exact ⟨k + 1, by go_num, by omega, by rw [HSN.out, HJ.out], rfl⟩
      case measure => simp [intOf]; omega
    · obtain rfl : k = ys.length := by omega
      rw [List.take_length]
      go_wp2
      go_ret
      refine ⟨?_, HE.out⟩
      rw [HYS.out]
      rfl
end
end Go.Proofs.Ytaedlmeaconflaa.P
end
section
set_option linter.unusedVariables false
set_option linter.unusedSimpArgs false
namespace Go.Proofs.Ytaedlmeaconflaa.P
open Go.RowKit
def LastPost (P : Program) (ops : Array Oper) (o : Oper) (Q : Exit → Act → World → Prop) : Exit → Act → World → Prop
  | .normal, a, w => wpList P ops Q [o] a w
  | e, a, w => Q e a w
theorem lastPost_wp {P : Program} {ops : Array Oper} {o : Oper} {Q : Exit → Act → World → Prop} {a : Act} {w : World} (h : wpList P ops Q [o] a w) : LastPost P ops o Q .normal a w := h
def lastOk (l : List Oper) (o : Oper) : Bool :=
  (List.range l.length).all (fun i => match l[i]? with
    | some x => x.after.toList.all (fun e => decide (e.on < i)) && (match x.guard with | none => true | some (j, _) => decide (j < l.length))
    | none => true) &&
  (List.range l.length).all (fun j => o.after.toList.any (fun e => e.on == j && Region.binds .any e) || (List.range l.length).any (fun k => decide (j < k) && (match l[k]? with | some x => x.after.toList.any (fun e => e.on == j && Region.binds .any e) | none => false))) &&
  o.after.toList.all (fun e => decide (e.on < l.length)) && (match o.guard with | none => true | some _ => false)
structure LastOk (l : List Oper) (o : Oper) : Prop where
  low : ∀ (i : Nat) (x : Oper), l[i]? = some x → ∀ e ∈ x.after, e.on < i
  guard : ∀ (i : Nat) (x : Oper), l[i]? = some x → ∀ (j : Nat) (b : Bool), x.guard = some (j, b) → j < l.length
  all : ∀ j, j < l.length → (∃ e ∈ o.after, e.on = j ∧ Region.binds .any e = true) ∨ ∃ k x, j < k ∧ l[k]? = some x ∧ ∃ e ∈ x.after, e.on = j ∧ Region.binds .any e = true
  lt : ∀ e ∈ o.after, e.on < l.length
  ng : o.guard = none
theorem LastOk.of {l : List Oper} {o : Oper} (h : lastOk l o = true) : LastOk l o := by
  simp only [lastOk, Bool.and_eq_true, List.all_eq_true, List.any_eq_true, List.mem_range, Array.mem_toList_iff, decide_eq_true_eq, beq_iff_eq, Bool.or_eq_true] at h
  obtain ⟨⟨⟨h1, h2⟩, h3⟩, h4⟩ := h
  refine ⟨fun i x hx => ?_, fun i x hx j b hg => ?_, fun j hj => ?_, h3, ?_⟩
  · have := h1 i (List.getElem?_eq_some_iff.1 hx).1
    rw [hx] at this
    simp only [Bool.and_eq_true, List.all_eq_true, Array.mem_toList_iff, decide_eq_true_eq] at this
    exact this.1
  · have := h1 i (List.getElem?_eq_some_iff.1 hx).1
    rw [hx] at this
    simp only [Bool.and_eq_true, hg, decide_eq_true_eq] at this
    exact this.2
  · rcases h2 j hj with ⟨e, he, h, k⟩ | ⟨k, hk, hjk, hx⟩
    · exact .inl ⟨e, he, h, k⟩
    · right
      rw [List.getElem?_eq_getElem hk] at hx
      simp only [List.any_eq_true, Array.mem_toList_iff, Bool.and_eq_true, beq_iff_eq] at hx
      exact ⟨k, l[k], hjk, List.getElem?_eq_getElem hk, hx⟩
  · revert h4; cases o.guard <;> simp
section
variable {P : Program} {l : List Oper} {o : Oper} {Q : Exit → Act → World → Prop}
theorem lastPost_out (h : LetsOut (LastPost P (l ++ [o]).toArray o Q)) : LetsOut Q := h
theorem oper_post {x : Oper} {a : Act} {w : World} {K : Act → World → Prop} {Q' : Exit → Act → World → Prop} (hp : ∀ c a w, Q' (.panic c) a w → Q (.panic c) a w) (ho : LetsOut Q' → LetsOut Q)
    (hh : x.wp P a w K Q') : x.wp P a w K Q := by
  unfold Oper.wp at *
  generalize (execOp a.eval x).run P w = r at *
  cases r with
  | ok n w' =>
    cases n <;> simp only [Oper.upon] at hh ⊢ <;>
      first
        | exact hh
        | exact Calls.mono hh (fun e w'' he => by cases e <;> first | exact he | exact hp _ _ _ he | exact ho he)
  | halt y w' => cases y <;> simp only [Oper.upon] at hh ⊢ <;> first | exact hh | exact hp _ _ _ hh
theorem all_listed (hok : LastOk l o) {listed : Array Bool} (hs : listed.size = l.length) (h : Region.ready .any l.toArray listed = []) : ∀ i, i < l.length → listed.getD i false = true := by
  intro i
  induction i using Nat.strongRecOn with
  | _ i ih =>
    intro hi
    by_cases hl : listed.getD i false = true
    · exact hl
    · have hx := List.getElem?_eq_getElem hi
      have : i ∈ Region.ready .any l.toArray listed := by
        rw [mem_ready]
        refine ⟨?_, l[i], (by simp [hi]), fun e he _ => ih e.on (hok.low i _ hx e he) (by have := hok.low i _ hx e he; omega)⟩
        simp only [Array.getD_eq_getD_getElem?, Array.getElem?_eq_getElem (show i < listed.size by omega), Option.getD_some] at hl ⊢
        simpa using hl
      rw [h] at this; cases this
theorem push_getD {listed : Array Bool} {i : Nat} (hi : i < listed.size) (b d : Bool) : (listed.push b).getD i d = listed.getD i d := by
  simp [Array.getD_eq_getD_getElem?, Array.getElem?_push, Nat.ne_of_lt hi]
theorem ready_old (hok : LastOk l o) {listed : Array Bool} (hs : listed.size = l.length) {i : Nat} (hi : i < l.length) (h : i ∈ Region.ready .any (l ++ [o]).toArray (listed.push false)) : i ∈ Region.ready .any l.toArray listed := by
  rw [mem_ready] at h ⊢
  obtain ⟨h1, x, hx, h2⟩ := h
  rw [push_getD (by omega)] at h1
  have hx' : l[i]? = some x := by simpa [List.getElem?_append_left hi] using hx
  refine ⟨h1, x, by simpa using hx', fun e he hb => ?_⟩
  have := h2 e he hb
  rwa [push_getD (by have := hok.low i x hx' e he; omega)] at this
theorem old_ready (hok : LastOk l o) {listed : Array Bool} (hs : listed.size = l.length) {i : Nat} (h : i ∈ Region.ready .any l.toArray listed) : i ∈ Region.ready .any (l ++ [o]).toArray (listed.push false) := by
  rw [mem_ready] at h ⊢
  obtain ⟨h1, x, hx, h2⟩ := h
  have hi : i < l.length := by have := (Array.getElem?_eq_some_iff.1 hx).1; simpa using this
  have hx' : l[i]? = some x := by simpa using hx
  refine ⟨by rw [push_getD (by omega)]; exact h1, x, by simpa [List.getElem?_append_left hi] using hx', fun e he hb => ?_⟩
  rw [push_getD (by have := hok.low i x hx' e he; omega)]
  exact h2 e he hb
def Closed (l : List Oper) (listed : Array Bool) : Prop := ∀ i x, l[i]? = some x → listed.getD i false = true → ∀ e ∈ x.after, Region.binds .any e = true → listed.getD e.on false = true
theorem closed_set {listed : Array Bool} (hc : Closed l listed) {i : Nat} (hi : i ∈ Region.ready .any l.toArray listed) : Closed l (listed.setIfInBounds i true) := by
  intro j x hx hj e he hb
  obtain ⟨_, y, hy, h2⟩ := mem_ready.1 hi
  have hy' : l[i]? = some y := by simpa using hy
  by_cases hij : i = j
  · subst hij
    rw [hx] at hy'
    injection hy' with hy'
    subst hy'
    exact getD_set_true (h2 e he hb)
  · rw [getD_set_ne false hij] at hj
    exact getD_set_true (hc j x hx hj e he hb)
theorem ready_last (hok : LastOk l o) {listed : Array Bool} (hs : listed.size = l.length) (hc : Closed l listed) : l.length ∈ Region.ready .any (l ++ [o]).toArray (listed.push false) ↔ ∀ i, i < l.length → listed.getD i false = true := by
  rw [mem_ready]
  constructor
  · rintro ⟨_, x, hx, h⟩
    have : x = o := by simp at hx; exact hx.symm
    subst this
    have key : ∀ d i, i < l.length → l.length - i ≤ d → listed.getD i false = true := by
      intro d
      induction d with
      | zero => intro i hi hd; omega
      | succ d ih =>
        intro i hi hd
        rcases hok.all i hi with ⟨e, he, rfl, hb⟩ | ⟨k, y, hk, hy, e, he, rfl, hb⟩
        · have := h e he hb
          rwa [push_getD (by omega)] at this
        · have hkl := (List.getElem?_eq_some_iff.1 hy).1
          exact hc k y hy (ih k hkl (by omega)) e he hb
    exact fun i hi => key _ i hi (Nat.le_refl _)
  · intro h
    refine ⟨by simp [Array.getD_eq_getD_getElem?, ← hs], o, by simp, fun e he _ => ?_⟩
    rw [push_getD (by have := hok.lt e he; omega)]
    exact h _ (hok.lt e he)
theorem ready_end {listed : Array Bool} (hs : listed.size = l.length) (h : ∀ i, i < l.length → listed.getD i false = true) : Region.ready .any (l ++ [o]).toArray ((listed.push false).setIfInBounds l.length true) = [] := by
  apply List.eq_nil_iff_forall_not_mem.2
  intro i hi
  rw [mem_ready] at hi
  obtain ⟨h1, x, hx, _⟩ := hi
  have hlt : i < l.length + 1 := by have := (Array.getElem?_eq_some_iff.1 hx).1; simpa using this
  have e : (listed.push false).setIfInBounds l.length true = listed.push true := by
    apply Array.ext_getElem?
    intro j
    simp only [Array.getElem?_setIfInBounds, Array.getElem?_push, Array.size_push]
    by_cases hj : l.length = j
    · subst hj; simp [hs]
    · simp [hj, show ¬ j = listed.size by omega]
  rw [e] at h1
  rcases Nat.lt_or_ge i l.length with hl | hl
  · rw [push_getD (by omega)] at h1
    have := h i hl
    simp only [Array.getD_eq_getD_getElem?, Array.getElem?_eq_getElem (show i < listed.size by omega), Option.getD_some] at h1 this
    rw [this] at h1; cases h1
  · have : i = listed.size := by omega
    subst this
    simp [Array.getD_eq_getD_getElem?] at h1
theorem wpOp_last (_hok : LastOk l o) {K : Act → World → Prop} {a : Act} {w : World} (h : wpList P (l ++ [o]).toArray Q [o] a w) (hK : ∀ a w, Q .normal a w → K a w) : wpOp P (l ++ [o]).toArray Q l.length K a w := by
  unfold wpOp
  have e : (l ++ [o]).toArray[l.length]? = some o := by simp
  rw [e]
  have hw : Region.wanted o (yielded (l ++ [o]).toArray a.tmps) = true := by simp [Region.wanted, _hok.ng]
  simp only [wpList, hw, if_true] at h ⊢
  exact h.imp (Oper.wp_mono fun a w h => hK a w h) id
theorem wpOp_old (hok : LastOk l o) {K K' : Act → World → Prop} {a : Act} {w : World} {i : Nat} (hi : i < l.length) (hK : ∀ a w, K a w → K' a w) (h : wpOp P l.toArray (LastPost P (l ++ [o]).toArray o Q) i K a w) :
    wpOp P (l ++ [o]).toArray Q i K' a w := by
  unfold wpOp at h ⊢
  have hx := List.getElem?_eq_getElem hi
  have e1 : l.toArray[i]? = some l[i] := by simp [hi]
  have e2 : (l ++ [o]).toArray[i]? = some l[i] := by simp [List.getElem?_append_left hi, hi]
  rw [e1] at h
  rw [e2]
  have hy : Region.wanted l[i] (yielded (l ++ [o]).toArray a.tmps) = Region.wanted l[i] (yielded l.toArray a.tmps) := by
    unfold Region.wanted
    split
    · rfl
    · rename_i j b hg
      have hj := hok.guard i _ hx j b hg
      have : yielded (l ++ [o]).toArray a.tmps j = yielded l.toArray a.tmps j := by
        unfold yielded
        rw [show (l ++ [o]).toArray[j]? = l.toArray[j]? from by simp [List.getElem?_append_left hj]]
      rw [this]
  simp only [hy]
  split
  · rename_i hw
    simp only [hw, if_true] at h
    rcases h with h | h
    · exact .inl (oper_post (Q' := LastPost P (l ++ [o]).toArray o Q) (fun _ _ _ h => h) lastPost_out (Oper.wp_mono hK h))
    · exact .inr ⟨h.1, lastPost_out h.2⟩
  · rename_i hw
    simp only [hw] at h
    exact hK _ _ h
theorem wpAny_last (hok : LastOk l o) : ∀ (fuel : Nat) (listed : Array Bool) (a : Act) (w : World), listed.size = l.length → Closed l listed → wpAny P .any l.toArray (LastPost P (l ++ [o]).toArray o Q) fuel listed a w →
    wpAny P .any (l ++ [o]).toArray Q (fuel + 1) (listed.push false) a w := by
  intro fuel
  induction fuel with
  | zero =>
    intro listed a w hs hc h
    obtain ⟨h1, h2⟩ := h
    have hall := all_listed hok hs h1
    have hin := (ready_last hok hs hc).2 hall
    refine ⟨fun h0 => (by rw [h0] at hin; cases hin), fun i hi => ?_⟩
    have hlt : i < l.length + 1 := by
      obtain ⟨_, x, hx, _⟩ := mem_ready.1 hi
      have := (Array.getElem?_eq_some_iff.1 hx).1; simpa using this
    rcases Nat.lt_or_ge i l.length with hl | hl
    · have := ready_old hok hs hl hi
      rw [h1] at this; cases this
    · obtain rfl : i = l.length := by omega
      exact wpOp_last hok h2 (fun a w h => ⟨ready_end hs hall, h⟩)
  | succ fuel ih =>
    intro listed a w hs hc h
    obtain ⟨h1, h2⟩ := h
    refine ⟨fun h0 => ?_, fun i hi => ?_⟩
    · by_cases hr : Region.ready .any l.toArray listed = []
      · have hin := (ready_last hok hs hc).2 (all_listed hok hs hr)
        rw [h0] at hin; cases hin
      · obtain ⟨j, hj⟩ := List.exists_mem_of_ne_nil _ hr
        have := old_ready hok hs hj
        rw [h0] at this; cases this
    · have hlt : i < l.length + 1 := by
        obtain ⟨_, x, hx, _⟩ := mem_ready.1 hi
        have := (Array.getElem?_eq_some_iff.1 hx).1; simpa using this
      rcases Nat.lt_or_ge i l.length with hl | hl
      · refine wpOp_old hok hl (fun a w h => ?_) (h2 i (ready_old hok hs hl hi))
        have e : (listed.push false).setIfInBounds i true = (listed.setIfInBounds i true).push false := by
          apply Array.ext_getElem?
          intro j
          simp only [Array.getElem?_setIfInBounds, Array.getElem?_push, Array.size_push, Array.size_setIfInBounds]
          by_cases hj : i = j
          · subst hj; simp [show i < listed.size by omega, show ¬ i = listed.size by omega, show i < listed.size + 1 by omega]
          · simp [hj]
        rw [e]
        exact ih _ a w (by simpa using hs) (closed_set hc (ready_old hok hs hl hi)) h
      · obtain rfl : i = l.length := by omega
        have hall := (ready_last hok hs hc).1 hi
        have hr : Region.ready .any l.toArray listed = [] := by
          apply List.eq_nil_iff_forall_not_mem.2
          intro j hj
          obtain ⟨h0, x, hx, _⟩ := mem_ready.1 hj
          have hjl : j < l.length := by have := (Array.getElem?_eq_some_iff.1 hx).1; simpa using this
          have := hall j hjl
          simp only [Array.getD_eq_getD_getElem?, Array.getElem?_eq_getElem (show j < listed.size by omega), Option.getD_some] at h0 this
          rw [this] at h0; cases h0
        exact wpOp_last hok (h1 hr) (fun a w h => ⟨fun _ => h, fun j hj => by rw [ready_end hs hall] at hj; cases hj⟩)
theorem wp_region_last {id : Nat} {a : Act} {w : World} (hm : P.follows .mixedOrders = true) (hk : lastOk l o = true)
    (h : wpAny P .any l.toArray (LastPost P (l ++ [o]).toArray o Q) l.length (Array.replicate l.length false) a { w with drawn := w.drawn + 1 }) : (Code.region id (l ++ [o]).toArray true).wp P Q a w := by
  refine wp_region_any hm ?_
  have := wpAny_last (LastOk.of hk) l.length (Array.replicate l.length false) a _ (by simp) (fun i x hx hi => by simp [Array.getD_eq_getD_getElem?, Array.getElem?_replicate] at hi; split at hi <;> simp at hi) h
  have e : Array.replicate (l ++ [o]).toArray.size false = (Array.replicate l.length false).push false := by
    simp [Array.replicate_succ]
  rw [e]
  simpa using this
end
theorem cellA {W : World} {a : Addr} {v : Value} (h : W.cell? a = some v) (o : Obj) : (W.alloc o).cell? a = some v :=
  (World.cell?_of_block (w := W) (Below.heap_alloc W o a.block (World.block_lt_of_cell? W _ h))).trans h
theorem cellG {W w1 : World} {row : Option Nat} (hg : W.grownBy w1 row) {a : Addr} {v : Value} (hn : some a.block ≠ row) (h : W.cell? a = some v) : w1.cell? a = some v :=
  (World.cell?_of_block (w := W) (hg.block a.block (World.block_lt_of_cell? W _ h) hn)).trans h
end Go.Proofs.Ytaedlmeaconflaa.P
end
section
set_option linter.unusedVariables false
set_option linter.unusedSimpArgs false
namespace Go.Proofs.Ytaedlmeaconflaa.P
open Go.RowKit
def lastOk2 (l : List Oper) (o : Oper) : Bool :=
  (List.range l.length).all (fun i => match l[i]? with
    | some x => x.after.toList.all (fun e => !Region.binds .any e || decide (e.on < i)) && (match x.guard with | none => true | some (j, _) => decide (j < l.length))
    | none => true) &&
  (List.range l.length).all (fun j => o.after.toList.any (fun e => e.on == j && Region.binds .any e) || (List.range l.length).any (fun k => decide (j < k) && (match l[k]? with | some x => x.after.toList.any (fun e => e.on == j && Region.binds .any e) | none => false))) &&
  o.after.toList.all (fun e => !Region.binds .any e || decide (e.on < l.length))
structure LastOk2 (l : List Oper) (o : Oper) : Prop where
  low : ∀ (i : Nat) (x : Oper), l[i]? = some x → ∀ e ∈ x.after, Region.binds .any e = true → e.on < i
  guard : ∀ (i : Nat) (x : Oper), l[i]? = some x → ∀ (j : Nat) (b : Bool), x.guard = some (j, b) → j < l.length
  all : ∀ j, j < l.length → (∃ e ∈ o.after, e.on = j ∧ Region.binds .any e = true) ∨ ∃ k x, j < k ∧ l[k]? = some x ∧ ∃ e ∈ x.after, e.on = j ∧ Region.binds .any e = true
  lt : ∀ e ∈ o.after, Region.binds .any e = true → e.on < l.length
theorem LastOk2.of {l : List Oper} {o : Oper} (h : lastOk2 l o = true) : LastOk2 l o := by
  simp only [lastOk2, Bool.and_eq_true, List.all_eq_true, List.any_eq_true, List.mem_range, Array.mem_toList_iff, decide_eq_true_eq, beq_iff_eq, Bool.or_eq_true] at h
  obtain ⟨⟨h1, h2⟩, h3⟩ := h
  refine ⟨fun i x hx => ?_, fun i x hx j b hg => ?_, fun j hj => ?_, fun e he hb => by have := h3 e he; simpa [hb] using this⟩
  · have := h1 i (List.getElem?_eq_some_iff.1 hx).1
    rw [hx] at this
    simp only [Bool.and_eq_true, List.all_eq_true, Array.mem_toList_iff] at this
    exact fun e he hb => by have := this.1 e he; simpa [hb] using this
  · have := h1 i (List.getElem?_eq_some_iff.1 hx).1
    rw [hx] at this
    simp only [Bool.and_eq_true, hg, decide_eq_true_eq] at this
    exact this.2
  · rcases h2 j hj with ⟨e, he, h, k⟩ | ⟨k, hk, hjk, hx⟩
    · exact .inl ⟨e, he, h, k⟩
    · right
      rw [List.getElem?_eq_getElem hk] at hx
      simp only [List.any_eq_true, Array.mem_toList_iff, Bool.and_eq_true, beq_iff_eq] at hx
      exact ⟨k, l[k], hjk, List.getElem?_eq_getElem hk, hx⟩
section
variable {P : Program} {l : List Oper} {o : Oper} {Q : Exit → Act → World → Prop}
theorem lastPost_out2 (h : LetsOut (LastPost P (l ++ [o]).toArray o Q)) : LetsOut Q := h
theorem oper_post2 {x : Oper} {a : Act} {w : World} {K : Act → World → Prop} {Q' : Exit → Act → World → Prop} (hp : ∀ c a w, Q' (.panic c) a w → Q (.panic c) a w) (ho : LetsOut Q' → LetsOut Q)
    (hh : x.wp P a w K Q') : x.wp P a w K Q := by
  unfold Oper.wp at *
  generalize (execOp a.eval x).run P w = r at *
  cases r with
  | ok n w' =>
    cases n <;> simp only [Oper.upon] at hh ⊢ <;>
      first
        | exact hh
        | exact Calls.mono hh (fun e w'' he => by cases e <;> first | exact he | exact hp _ _ _ he | exact ho he)
  | halt y w' => cases y <;> simp only [Oper.upon] at hh ⊢ <;> first | exact hh | exact hp _ _ _ hh
theorem all_listed2 (hok : LastOk2 l o) {listed : Array Bool} (hs : listed.size = l.length) (h : Region.ready .any l.toArray listed = []) : ∀ i, i < l.length → listed.getD i false = true := by
  intro i
  induction i using Nat.strongRecOn with
  | _ i ih =>
    intro hi
    by_cases hl : listed.getD i false = true
    · exact hl
    · have hx := List.getElem?_eq_getElem hi
      have : i ∈ Region.ready .any l.toArray listed := by
        rw [mem_ready]
        refine ⟨?_, l[i], (by simp [hi]), fun e he hb => ih e.on (hok.low i _ hx e he hb) (by have := hok.low i _ hx e he hb; omega)⟩
        simp only [Array.getD_eq_getD_getElem?, Array.getElem?_eq_getElem (show i < listed.size by omega), Option.getD_some] at hl ⊢
        simpa using hl
      rw [h] at this; cases this
theorem push_getD2 {listed : Array Bool} {i : Nat} (hi : i < listed.size) (b d : Bool) : (listed.push b).getD i d = listed.getD i d := by
  simp [Array.getD_eq_getD_getElem?, Array.getElem?_push, Nat.ne_of_lt hi]
theorem ready_old2 (hok : LastOk2 l o) {listed : Array Bool} (hs : listed.size = l.length) {i : Nat} (hi : i < l.length) (h : i ∈ Region.ready .any (l ++ [o]).toArray (listed.push false)) : i ∈ Region.ready .any l.toArray listed := by
  rw [mem_ready] at h ⊢
  obtain ⟨h1, x, hx, h2⟩ := h
  rw [push_getD2 (by omega)] at h1
  have hx' : l[i]? = some x := by simpa [List.getElem?_append_left hi] using hx
  refine ⟨h1, x, by simpa using hx', fun e he hb => ?_⟩
  have := h2 e he hb
  rwa [push_getD2 (by have := hok.low i x hx' e he hb; omega)] at this
theorem old_ready2 (hok : LastOk2 l o) {listed : Array Bool} (hs : listed.size = l.length) {i : Nat} (h : i ∈ Region.ready .any l.toArray listed) : i ∈ Region.ready .any (l ++ [o]).toArray (listed.push false) := by
  rw [mem_ready] at h ⊢
  obtain ⟨h1, x, hx, h2⟩ := h
  have hi : i < l.length := by have := (Array.getElem?_eq_some_iff.1 hx).1; simpa using this
  have hx' : l[i]? = some x := by simpa using hx
  refine ⟨by rw [push_getD2 (by omega)]; exact h1, x, by simpa [List.getElem?_append_left hi] using hx', fun e he hb => ?_⟩
  rw [push_getD2 (by have := hok.low i x hx' e he hb; omega)]
  exact h2 e he hb
def Closed2 (l : List Oper) (listed : Array Bool) : Prop := ∀ i x, l[i]? = some x → listed.getD i false = true → ∀ e ∈ x.after, Region.binds .any e = true → listed.getD e.on false = true
theorem closed_set2 {listed : Array Bool} (hc : Closed2 l listed) {i : Nat} (hi : i ∈ Region.ready .any l.toArray listed) : Closed2 l (listed.setIfInBounds i true) := by
  intro j x hx hj e he hb
  obtain ⟨_, y, hy, h2⟩ := mem_ready.1 hi
  have hy' : l[i]? = some y := by simpa using hy
  by_cases hij : i = j
  · subst hij
    rw [hx] at hy'
    injection hy' with hy'
    subst hy'
    exact getD_set_true (h2 e he hb)
  · rw [getD_set_ne false hij] at hj
    exact getD_set_true (hc j x hx hj e he hb)
theorem ready_last2 (hok : LastOk2 l o) {listed : Array Bool} (hs : listed.size = l.length) (hc : Closed2 l listed) : l.length ∈ Region.ready .any (l ++ [o]).toArray (listed.push false) ↔ ∀ i, i < l.length → listed.getD i false = true := by
  rw [mem_ready]
  constructor
  · rintro ⟨_, x, hx, h⟩
    have : x = o := by simp at hx; exact hx.symm
    subst this
    have key : ∀ d i, i < l.length → l.length - i ≤ d → listed.getD i false = true := by
      intro d
      induction d with
      | zero => intro i hi hd; omega
      | succ d ih =>
        intro i hi hd
        rcases hok.all i hi with ⟨e, he, rfl, hb⟩ | ⟨k, y, hk, hy, e, he, rfl, hb⟩
        · have := h e he hb
          rwa [push_getD2 (by omega)] at this
        · have hkl := (List.getElem?_eq_some_iff.1 hy).1
          exact hc k y hy (ih k hkl (by omega)) e he hb
    exact fun i hi => key _ i hi (Nat.le_refl _)
  · intro h
    refine ⟨by simp [Array.getD_eq_getD_getElem?, ← hs], o, by simp, fun e he hb => ?_⟩
    rw [push_getD2 (by have := hok.lt e he hb; omega)]
    exact h _ (hok.lt e he hb)
theorem ready_end2 {listed : Array Bool} (hs : listed.size = l.length) (h : ∀ i, i < l.length → listed.getD i false = true) : Region.ready .any (l ++ [o]).toArray ((listed.push false).setIfInBounds l.length true) = [] := by
  apply List.eq_nil_iff_forall_not_mem.2
  intro i hi
  rw [mem_ready] at hi
  obtain ⟨h1, x, hx, _⟩ := hi
  have hlt : i < l.length + 1 := by have := (Array.getElem?_eq_some_iff.1 hx).1; simpa using this
  have e : (listed.push false).setIfInBounds l.length true = listed.push true := by
    apply Array.ext_getElem?
    intro j
    simp only [Array.getElem?_setIfInBounds, Array.getElem?_push, Array.size_push]
    by_cases hj : l.length = j
    · subst hj; simp [hs]
    · simp [hj, show ¬ j = listed.size by omega]
  rw [e] at h1
  rcases Nat.lt_or_ge i l.length with hl | hl
  · rw [push_getD2 (by omega)] at h1
    have := h i hl
    simp only [Array.getD_eq_getD_getElem?, Array.getElem?_eq_getElem (show i < listed.size by omega), Option.getD_some] at h1 this
    rw [this] at h1; cases h1
  · have : i = listed.size := by omega
    subst this
    simp [Array.getD_eq_getD_getElem?] at h1
theorem wpOp_last2 {K : Act → World → Prop} {a : Act} {w : World} (h : wpList P (l ++ [o]).toArray Q [o] a w) (hK : ∀ a w, Q .normal a w → K a w) : wpOp P (l ++ [o]).toArray Q l.length K a w := by
  unfold wpOp
  have e : (l ++ [o]).toArray[l.length]? = some o := by simp
  rw [e]
  by_cases hw : Region.wanted o (yielded (l ++ [o]).toArray a.tmps) = true
  · simp only [wpList, hw, if_true] at h ⊢
    exact h.imp (Oper.wp_mono fun a w h => hK a w h) id
  · have hw' : Region.wanted o (yielded (l ++ [o]).toArray a.tmps) = false := by simpa using hw
    simp only [wpList, hw'] at h ⊢
    exact hK _ _ h
theorem wpOp_old2 (hok : LastOk2 l o) {K K' : Act → World → Prop} {a : Act} {w : World} {i : Nat} (hi : i < l.length) (hK : ∀ a w, K a w → K' a w) (h : wpOp P l.toArray (LastPost P (l ++ [o]).toArray o Q) i K a w) :
    wpOp P (l ++ [o]).toArray Q i K' a w := by
  unfold wpOp at h ⊢
  have hx := List.getElem?_eq_getElem hi
  have e1 : l.toArray[i]? = some l[i] := by simp [hi]
  have e2 : (l ++ [o]).toArray[i]? = some l[i] := by simp [List.getElem?_append_left hi, hi]
  rw [e1] at h
  rw [e2]
  have hy : Region.wanted l[i] (yielded (l ++ [o]).toArray a.tmps) = Region.wanted l[i] (yielded l.toArray a.tmps) := by
    unfold Region.wanted
    split
    · rfl
    · rename_i j b hg
      have hj := hok.guard i _ hx j b hg
      have : yielded (l ++ [o]).toArray a.tmps j = yielded l.toArray a.tmps j := by
        unfold yielded
        rw [show (l ++ [o]).toArray[j]? = l.toArray[j]? from by simp [List.getElem?_append_left hj]]
      rw [this]
  simp only [hy]
  split
  · rename_i hw
    simp only [hw, if_true] at h
    rcases h with h | h
    · exact .inl (oper_post2 (Q' := LastPost P (l ++ [o]).toArray o Q) (fun _ _ _ h => h) lastPost_out2 (Oper.wp_mono hK h))
    · exact .inr ⟨h.1, lastPost_out2 h.2⟩
  · rename_i hw
    simp only [hw] at h
    exact hK _ _ h
theorem wpAny_last2 (hok : LastOk2 l o) : ∀ (fuel : Nat) (listed : Array Bool) (a : Act) (w : World), listed.size = l.length → Closed2 l listed → wpAny P .any l.toArray (LastPost P (l ++ [o]).toArray o Q) fuel listed a w →
    wpAny P .any (l ++ [o]).toArray Q (fuel + 1) (listed.push false) a w := by
  intro fuel
  induction fuel with
  | zero =>
    intro listed a w hs hc h
    obtain ⟨h1, h2⟩ := h
    have hall := all_listed2 hok hs h1
    have hin := (ready_last2 hok hs hc).2 hall
    refine ⟨fun h0 => (by rw [h0] at hin; cases hin), fun i hi => ?_⟩
    have hlt : i < l.length + 1 := by
      obtain ⟨_, x, hx, _⟩ := mem_ready.1 hi
      have := (Array.getElem?_eq_some_iff.1 hx).1; simpa using this
    rcases Nat.lt_or_ge i l.length with hl | hl
    · have := ready_old2 hok hs hl hi
      rw [h1] at this; cases this
    · obtain rfl : i = l.length := by omega
      exact wpOp_last2 h2 (fun a w h => ⟨ready_end2 hs hall, h⟩)
  | succ fuel ih =>
    intro listed a w hs hc h
    obtain ⟨h1, h2⟩ := h
    refine ⟨fun h0 => ?_, fun i hi => ?_⟩
    · by_cases hr : Region.ready .any l.toArray listed = []
      · have hin := (ready_last2 hok hs hc).2 (all_listed2 hok hs hr)
        rw [h0] at hin; cases hin
      · obtain ⟨j, hj⟩ := List.exists_mem_of_ne_nil _ hr
        have := old_ready2 hok hs hj
        rw [h0] at this; cases this
    · have hlt : i < l.length + 1 := by
        obtain ⟨_, x, hx, _⟩ := mem_ready.1 hi
        have := (Array.getElem?_eq_some_iff.1 hx).1; simpa using this
      rcases Nat.lt_or_ge i l.length with hl | hl
      · refine wpOp_old2 hok hl (fun a w h => ?_) (h2 i (ready_old2 hok hs hl hi))
        have e : (listed.push false).setIfInBounds i true = (listed.setIfInBounds i true).push false := by
          apply Array.ext_getElem?
          intro j
          simp only [Array.getElem?_setIfInBounds, Array.getElem?_push, Array.size_push, Array.size_setIfInBounds]
          by_cases hj : i = j
          · subst hj; simp [show i < listed.size by omega, show ¬ i = listed.size by omega, show i < listed.size + 1 by omega]
          · simp [hj]
        rw [e]
        exact ih _ a w (by simpa using hs) (closed_set2 hc (ready_old2 hok hs hl hi)) h
      · obtain rfl : i = l.length := by omega
        have hall := (ready_last2 hok hs hc).1 hi
        have hr : Region.ready .any l.toArray listed = [] := by
          apply List.eq_nil_iff_forall_not_mem.2
          intro j hj
          obtain ⟨h0, x, hx, _⟩ := mem_ready.1 hj
          have hjl : j < l.length := by have := (Array.getElem?_eq_some_iff.1 hx).1; simpa using this
          have := hall j hjl
          simp only [Array.getD_eq_getD_getElem?, Array.getElem?_eq_getElem (show j < listed.size by omega), Option.getD_some] at h0 this
          rw [this] at h0; cases h0
        exact wpOp_last2 (h1 hr) (fun a w h => ⟨fun _ => h, fun j hj => by rw [ready_end2 hs hall] at hj; cases hj⟩)
theorem wpAny_last2' (hok : lastOk2 l o = true) {m : Nat} (hm : m = l.length + 1) {a : Act} {w : World} (h : wpAny P .any l.toArray (LastPost P (l ++ [o]).toArray o Q) l.length (Array.replicate l.length false) a w) : wpAny P .any (l ++ [o]).toArray Q m (Array.replicate m false) a w := by
  subst hm
  have := wpAny_last2 (LastOk2.of hok) l.length (Array.replicate l.length false) a _ (by simp) (fun i x hx hi => by simp [Array.getD_eq_getD_getElem?, Array.getElem?_replicate] at hi; split at hi <;> simp at hi) h
  have e : Array.replicate (l.length + 1) false = (Array.replicate l.length false).push false := by
    simp [Array.replicate_succ]
  rw [e]
  exact this
theorem wp_region_last1_held {id : Nat} {a : Act} {w : World} (S : World → Prop) (hm : P.follows .mixedOrders = true) (h1 : lastOk2 l o = true)
    (h : wpAnyH P .any l.toArray (LastPost P (l ++ [o]).toArray o Q) S l.length (Array.replicate l.length false) a w.drew) : (Code.region id (l ++ [o]).toArray true).wp P Q a w := by
  refine wp_region_any hm ?_
  refine wpAny_last2' h1 (by simp) ?_
  exact wpAny_of_held _ _ _ _ h
theorem wp_region_last3_held {o1 o2 o3 : Oper} {id : Nat} {a : Act} {w : World} (S : World → Prop) (hm : P.follows .mixedOrders = true) (h1 : lastOk2 l o1 = true) (h2 : lastOk2 (l ++ [o1]) o2 = true) (h3 : lastOk2 (l ++ [o1] ++ [o2]) o3 = true)
    (h : wpAnyH P .any l.toArray (LastPost P (l ++ [o1]).toArray o1 (LastPost P (l ++ [o1] ++ [o2]).toArray o2 (LastPost P (l ++ [o1] ++ [o2] ++ [o3]).toArray o3 Q))) S l.length (Array.replicate l.length false) a w.drew) : (Code.region id (l ++ [o1] ++ [o2] ++ [o3]).toArray true).wp P Q a w := by
  refine wp_region_any hm ?_
  refine wpAny_last2' h3 (by simp) ?_
  refine wpAny_last2' h2 (by simp) ?_
  refine wpAny_last2' h1 (by simp) ?_
  exact wpAny_of_held _ _ _ _ h
end
end Go.Proofs.Ytaedlmeaconflaa.P
end
section
set_option linter.unusedVariables false
set_option linter.unusedSimpArgs false
namespace Go.Proofs.Ytaedlmeaconflaa.P
open Go.RowKit Go.Sort Go.Proofs.YtaedlmeaconflaaW.PrintWords Go.Proofs.YtaedlmeaconflaaW.PrintLast Go.Proofs.YtaedlmeaconflaaW.PrintMore
def cmpZ (x y : Int) : Int := if x < y then -1 else if y < x then 1 else 0
theorem cmpI64_any (x y : Int) (w : World) : Calls Try.prog 44 #[.int .i64 x, .int .i64 y] w fun e w' => e = .returned (.int .i64 (cmpZ x y)) ∧ w' = w := by
  go_enter Try.func44, Try.ntmps44
  by_cases h1 : x < y
  · have d1 : decide (x < y) = true := decide_eq_true h1
    rw [show cmpZ x y = -1 from if_pos h1]
    go_wp2
    go_ret
    exact ⟨rfl, rfl⟩
  · have d1 : decide (x < y) = false := decide_eq_false h1
    by_cases h2 : y < x
    · have d2 : decide (y < x) = true := decide_eq_true h2
      rw [show cmpZ x y = 1 from (if_neg h1).trans (if_pos h2)]
      go_wp2
      go_ret
      exact ⟨rfl, rfl⟩
    · have d2 : decide (y < x) = false := decide_eq_false h2
      rw [show cmpZ x y = 0 from (if_neg h1).trans (if_neg h2)]
      go_wp2
      go_ret
      exact ⟨rfl, rfl⟩
theorem cmpInt_any (x y : Int) (w : World) : Calls Try.prog 45 #[.int .i64 x, .int .i64 y] w fun e w' => e = .returned (.int .i64 (cmpZ x y)) ∧ w' = w := by
  go_enter Try.func45, Try.ntmps45
  by_cases h1 : x < y
  · have d1 : decide (x < y) = true := decide_eq_true h1
    rw [show cmpZ x y = -1 from if_pos h1]
    go_wp2
    go_ret
    exact ⟨rfl, rfl⟩
  · have d1 : decide (x < y) = false := decide_eq_false h1
    by_cases h2 : y < x
    · have d2 : decide (y < x) = true := decide_eq_true h2
      rw [show cmpZ x y = 1 from (if_neg h1).trans (if_pos h2)]
      go_wp2
      go_ret
      exact ⟨rfl, rfl⟩
    · have d2 : decide (y < x) = false := decide_eq_false h2
      rw [show cmpZ x y = 0 from (if_neg h1).trans (if_neg h2)]
      go_wp2
      go_ret
      exact ⟨rfl, rfl⟩
theorem cmpOr_any (g : Nat) (a b : Int) (w : World) (h : Blk w g 3 #[.int .i64 a, .int .i64 b]) : Calls Try.prog 43 #[.slice (some ⟨g, 0, none⟩) 2 2] w fun e w' => e = .returned (.int .i64 (if a = 0 then b else a)) ∧ w' = w := by
  have h0 : w.cell? ⟨g, 0, none⟩ = some (.int .i64 a) := h.cell 0
  have h1 : w.cell? ⟨g, 1, none⟩ = some (.int .i64 b) := h.cell 1
  clear h
  by_cases ha : a = 0
  · have da : decide (a = 0) = true := decide_eq_true ha
    rw [if_pos ha]
    subst ha
    by_cases hb : b = 0
    · subst hb
      go_enter Try.func43, Try.ntmps43
      go_wp2
      refine wp_loop_rounds 3 ?_
      rw [rounds_succ]
      go_wp2
      rw [rounds_succ]
      go_wp2
      rw [rounds_succ]
      go_wp2
      go_ret
      exact ⟨rfl, rfl⟩
    · have db : decide (b = 0) = false := decide_eq_false hb
      go_enter Try.func43, Try.ntmps43
      go_wp2
      refine wp_loop_rounds 2 ?_
      rw [rounds_succ]
      go_wp2
      rw [rounds_succ]
      go_wp2
      go_ret
      exact ⟨rfl, rfl⟩
  · have da : decide (a = 0) = false := decide_eq_false ha
    rw [if_neg ha]
    go_enter Try.func43, Try.ntmps43
    go_wp2
    refine wp_loop_rounds 1 ?_
    rw [rounds_succ]
    go_wp2
    go_ret
    exact ⟨rfl, rfl⟩
def cmpS (a b : S33) : Int := if cmpZ a.f0 b.f0 = 0 then cmpZ a.f1 b.f1 else cmpZ a.f0 b.f0
abbrev encS (a : S33) : List Value := [.int .i64 a.f0, .int .i64 a.f1]
set_option maxHeartbeats 1000000 in
set_option maxRecDepth 100000 in
theorem stCompare_any (a b : S33) (w : World) : Calls Try.prog 24 #[.agg #[.int .i64 a.f0, .int .i64 a.f1], .agg #[.int .i64 b.f0, .int .i64 b.f1]] w fun e w' => e = .returned (.int .i64 (cmpS a b)) ∧ ∃ q os', w' = grow (w.drewN q) os' := by
  obtain ⟨w1, hw1⟩ : ∃ w1, (w.alloc (.cells #[.int .i64 a.f0, .int .i64 a.f1] 33)).alloc (.cells #[.int .i64 b.f0, .int .i64 b.f1] 33) = w1 := ⟨_, rfl⟩
  have hA : Blk w1 w.heap.size 33 #[.int .i64 a.f0, .int .i64 a.f1] := hw1 ▸ (Blk.new w 33 _).alloc _
  have hB : Blk w1 (w.heap.size + 1) 33 #[.int .i64 b.f0, .int .i64 b.f1] := by
    have := Blk.new (w.alloc (.cells #[.int .i64 a.f0, .int .i64 a.f1] 33)) 33 #[.int .i64 b.f0, .int .i64 b.f1]
    rw [hw1] at this
    simpa using this
  have a0 : w1.cell? ⟨w.heap.size, 0, none⟩ = some (.int .i64 a.f0) := hA.cell 0
  have a1 : w1.cell? ⟨w.heap.size, 1, none⟩ = some (.int .i64 a.f1) := hA.cell 1
  have b0 : w1.cell? ⟨w.heap.size + 1, 0, none⟩ = some (.int .i64 b.f0) := hB.cell 0
  have b1 : w1.cell? ⟨w.heap.size + 1, 1, none⟩ = some (.int .i64 b.f1) := hB.cell 1
  clear hA hB
  obtain ⟨c, hc⟩ : ∃ c, cmpS a b = c := ⟨_, rfl⟩
  have hcc : (if cmpZ a.f0 b.f0 = 0 then cmpZ a.f1 b.f1 else cmpZ a.f0 b.f0) = c := hc
  rw [hc]
  clear hc
  go_enter Try.func24, Try.ntmps24
  go_upto_region 1 with fail
  refine wp_region_last1_held (S := (fun W => W.cell? ⟨w.heap.size, 0, none⟩ = some (.int .i64 a.f0) ∧ W.cell? ⟨w.heap.size, 1, none⟩ = some (.int .i64 a.f1) ∧ W.cell? ⟨w.heap.size + 1, 0, none⟩ = some (.int .i64 b.f0) ∧ W.cell? ⟨w.heap.size + 1, 1, none⟩ = some (.int .i64 b.f1))) (l := [_, _, _, _, _, _, _, _, _, _, _, _]) (o := _) (by kernel_rfl) (by kernel_rfl) ?_
  simp only [List.size_toArray, List.length_cons, List.length_nil, Nat.zero_add, Nat.reduceAdd]
  have hHeld : ((fun W => W.cell? ⟨w.heap.size, 0, none⟩ = some (.int .i64 a.f0) ∧ W.cell? ⟨w.heap.size, 1, none⟩ = some (.int .i64 a.f1) ∧ W.cell? ⟨w.heap.size + 1, 0, none⟩ = some (.int .i64 b.f0) ∧ W.cell? ⟨w.heap.size + 1, 1, none⟩ = some (.int .i64 b.f1))) w1.drew := ⟨a0, a1, b0, b1⟩
  refine wpAnyH_take (i := 0) (v := ?_) rfl (by kernel_rfl) (by kernel_rfl) (by kernel_rfl) (fun _ _ _ h => h) (Or.inl ⟨by rfl, ?_⟩) (by assumption) ?_
  rotate_left
  · (intro w hSw; (try dsimp only at hSw); go_split_ands; go_simp; try with_reducible rfl)
  try simp only [List.getElem_toArray, List.getElem_cons_succ, List.getElem_cons_zero, Act.put, List.setIfInBounds_toArray, List.set_cons_zero, List.set_cons_succ]
  refine wpAnyH_take (i := 1) (v := ?_) rfl (by kernel_rfl) (by kernel_rfl) (by kernel_rfl) (fun _ _ _ h => h) (Or.inl ⟨by rfl, ?_⟩) (by assumption) ?_
  rotate_left
  · (intro w hSw; (try dsimp only at hSw); go_split_ands; go_simp; try with_reducible rfl)
  try simp only [List.getElem_toArray, List.getElem_cons_succ, List.getElem_cons_zero, Act.put, List.setIfInBounds_toArray, List.set_cons_zero, List.set_cons_succ]
  refine wpAnyH_take (i := 2) (v := ?_) rfl (by kernel_rfl) (by kernel_rfl) (by kernel_rfl) (fun _ _ _ h => h) (Or.inl ⟨by rfl, ?_⟩) (by assumption) ?_
  rotate_left
  · (intro w hSw; (try dsimp only at hSw); go_split_ands; go_simp; try with_reducible rfl)
  try simp only [List.getElem_toArray, List.getElem_cons_succ, List.getElem_cons_zero, Act.put, List.setIfInBounds_toArray, List.set_cons_zero, List.set_cons_succ]
  refine wpAnyH_take (i := 3) (v := ?_) rfl (by kernel_rfl) (by kernel_rfl) (by kernel_rfl) (fun _ _ _ h => h) (Or.inl ⟨by rfl, ?_⟩) (by assumption) ?_
  rotate_left
  · (intro w hSw; (try dsimp only at hSw); go_split_ands; go_simp; try with_reducible rfl)
  try simp only [List.getElem_toArray, List.getElem_cons_succ, List.getElem_cons_zero, Act.put, List.setIfInBounds_toArray, List.set_cons_zero, List.set_cons_succ]
  refine wpAnyH_take (i := 5) (v := ?_) rfl (by kernel_rfl) (by kernel_rfl) (by kernel_rfl) (fun _ _ _ h => h) (Or.inl ⟨by rfl, ?_⟩) (by assumption) ?_
  rotate_left
  · (intro w hSw; (try dsimp only at hSw); go_split_ands; go_simp; try with_reducible rfl)
  try simp only [List.getElem_toArray, List.getElem_cons_succ, List.getElem_cons_zero, Act.put, List.setIfInBounds_toArray, List.set_cons_zero, List.set_cons_succ]
  refine wpAnyH_take (i := 6) (v := ?_) rfl (by kernel_rfl) (by kernel_rfl) (by kernel_rfl) (fun _ _ _ h => h) (Or.inl ⟨by rfl, ?_⟩) (by assumption) ?_
  rotate_left
  · (intro w hSw; (try dsimp only at hSw); go_split_ands; go_simp; try with_reducible rfl)
  try simp only [List.getElem_toArray, List.getElem_cons_succ, List.getElem_cons_zero, Act.put, List.setIfInBounds_toArray, List.set_cons_zero, List.set_cons_succ]
  refine wpAnyH_take (i := 7) (v := ?_) rfl (by kernel_rfl) (by kernel_rfl) (by kernel_rfl) (fun _ _ _ h => h) (Or.inl ⟨by rfl, ?_⟩) (by assumption) ?_
  rotate_left
  · (intro w hSw; (try dsimp only at hSw); go_split_ands; go_simp; try with_reducible rfl)
  try simp only [List.getElem_toArray, List.getElem_cons_succ, List.getElem_cons_zero, Act.put, List.setIfInBounds_toArray, List.set_cons_zero, List.set_cons_succ]
  refine wpAnyH_take (i := 8) (v := ?_) rfl (by kernel_rfl) (by kernel_rfl) (by kernel_rfl) (fun _ _ _ h => h) (Or.inl ⟨by rfl, ?_⟩) (by assumption) ?_
  rotate_left
  · (intro w hSw; (try dsimp only at hSw); go_split_ands; go_simp; try with_reducible rfl)
  try simp only [List.getElem_toArray, List.getElem_cons_succ, List.getElem_cons_zero, Act.put, List.setIfInBounds_toArray, List.set_cons_zero, List.set_cons_succ]
  refine wpAnyH_ready (rs := [4]) (by kernel_rfl) (by simp) ?_
  refine (AllReadyH.cons rfl (fun K hK => ?_) AllReadyH.nil)
  go_simp
  refine (cmpI64_any _ _ _).mono ?_
  rintro e w2 ⟨rfl, rfl⟩
  refine hK.out _ _ ?_ (fun hHeld => ?_)
  · exact ⟨a0, a1, b0, b1⟩
  clear hK K
  try simp only [List.getElem_toArray, List.getElem_cons_succ, List.getElem_cons_zero, Act.put, List.setIfInBounds_toArray, List.set_cons_zero, List.set_cons_succ]
  refine wpAnyH_ready (rs := [9]) (by kernel_rfl) (by simp) ?_
  refine (AllReadyH.cons rfl (fun K hK => ?_) AllReadyH.nil)
  go_simp
  refine (cmpInt_any _ _ _).mono ?_
  rintro e w2 ⟨rfl, rfl⟩
  refine hK.out _ _ ?_ (fun hHeld => ?_)
  · exact ⟨a0, a1, b0, b1⟩
  clear hK K
  try simp only [List.getElem_toArray, List.getElem_cons_succ, List.getElem_cons_zero, Act.put, List.setIfInBounds_toArray, List.set_cons_zero, List.set_cons_succ]
  refine wpAnyH_ready (rs := [10]) (by kernel_rfl) (by simp) ?_
  refine (AllReadyH.cons rfl (fun K hK => ?_) AllReadyH.nil)
  go_simp
  refine hK.out _ _ ?_ (fun hHeld => ?_)
  · exact ⟨cellA (W := w1.drew) a0 _, cellA (W := w1.drew) a1 _, cellA (W := w1.drew) b0 _, cellA (W := w1.drew) b1 _⟩
  clear hK K
  try simp only [List.getElem_toArray, List.getElem_cons_succ, List.getElem_cons_zero, Act.put, List.setIfInBounds_toArray, List.set_cons_zero, List.set_cons_succ]
  refine wpAnyH_ready (rs := [11]) (by kernel_rfl) (by simp) ?_
  refine (AllReadyH.cons rfl (fun K hK => ?_) AllReadyH.nil)
  go_simp
  refine (cmpOr_any w1.heap.size (cmpZ a.f0 b.f0) (cmpZ a.f1 b.f1) _ (Blk.new w1.drew 3 _)).mono ?_
  rw [hcc]
  rintro e w2 ⟨rfl, rfl⟩
  refine hK.out _ _ ?_ (fun hHeld => ?_)
  · exact ⟨cellA (W := w1.drew) a0 _, cellA (W := w1.drew) a1 _, cellA (W := w1.drew) b0 _, cellA (W := w1.drew) b1 _⟩
  clear hK K
  try simp only [List.getElem_toArray, List.getElem_cons_succ, List.getElem_cons_zero, Act.put, List.setIfInBounds_toArray, List.set_cons_zero, List.set_cons_succ]
  refine wpAnyH_done (by kernel_rfl) ?_ _
  refine lastPost_wp ?_
  go_wp2
  go_ret
  exact ⟨rfl, 1, _, by rw [← hw1, alloc_eq_grow, alloc_eq_grow, alloc_eq_grow, grow_grow, grow_grow]; rfl⟩
theorem ltOf_cmpS (x y : S33) : ltOf cmpS x y = true ↔ x.f0 < y.f0 ∨ x.f0 = y.f0 ∧ x.f1 < y.f1 := by
  unfold ltOf cmpS cmpZ
  by_cases h1 : x.f0 < y.f0
  · simp [h1]
  · by_cases h2 : y.f0 < x.f0
    · have : x.f0 ≠ y.f0 := by omega
      simp [h1, h2, this]
    · have : x.f0 = y.f0 := by omega
      by_cases h3 : x.f1 < y.f1
      · simp [h1, h2, h3, this]
      · by_cases h4 : y.f1 < x.f1 <;> simp [h3, h4, this]
theorem ltOf_cmpS_f (x y : S33) : ltOf cmpS x y = false ↔ ¬ (x.f0 < y.f0 ∨ x.f0 = y.f0 ∧ x.f1 < y.f1) := by
  rw [← ltOf_cmpS]; simp
theorem swoS : SWO (ltOf cmpS) where
  irrefl x := by rw [ltOf_cmpS_f]; omega
  trans x y z h1 h2 := by rw [ltOf_cmpS] at *; omega
  ntrans x y z h1 h2 := by rw [ltOf_cmpS_f] at *; omega
theorem totS (x y : S33) (h1 : ltOf cmpS x y = false) (h2 : ltOf cmpS y x = false) : x = y := by
  rw [ltOf_cmpS_f] at h1 h2
  obtain ⟨a, b⟩ := x
  obtain ⟨c, d⟩ := y
  simp only at h1 h2
  have e1 : a = c := by omega
  have e2 : b = d := by omega
  rw [e1, e2]
end Go.Proofs.Ytaedlmeaconflaa.P
end
section
set_option linter.unusedVariables false
set_option linter.unusedSimpArgs false
namespace Go.Proofs
open Go.Shelf
def Try.shSort_ren : Go.Shelf.Ren := ⟨fun | 189 => 48 | 125 => 60 | 257 => 59 | 128 => 71 | 129 => 72 | 294 => 62 | 295 => 63 | 296 => 64 | 297 => 65 | 298 => 66 | 299 => 67 | 216 => 68 | 300 => 69 | 301 => 70 | 328 => 81 | 329 => 82 | 330 => 83 | 331 => 84 | 332 => 85 | 215 => 57 | 343 => 89 | n => n, fun | 28 => 58 | 3 => 3 | 46 => 90 | 0 => 0 | 51 => 106 | 53 => 70 | 4 => 4 | 183 => 98 | 182 => 97 | 131 => 103 | 5 => 5 | 9 => 9 | 218 => 113 | 222 => 117 | 228 => 121 | 229 => 122 | n => n, fun | n => n⟩
theorem Try.shSort : Go.Proofs.Lays.n189 Try.prog Try.shSort_ren := {
  mixed := by kernel_rfl
  f125 := Try.func60.trans (congrArg some (by kernel_rfl))
  f128 := Try.func71.trans (congrArg some (by kernel_rfl))
  f129 := Try.func72.trans (congrArg some (by kernel_rfl))
  f189 := Try.func48.trans (congrArg some (by kernel_rfl))
  f215 := Try.func57.trans (congrArg some (by kernel_rfl))
  f216 := Try.func68.trans (congrArg some (by kernel_rfl))
  f257 := Try.func59.trans (congrArg some (by kernel_rfl))
  f294 := Try.func62.trans (congrArg some (by kernel_rfl))
  f295 := Try.func63.trans (congrArg some (by kernel_rfl))
  f296 := Try.func64.trans (congrArg some (by kernel_rfl))
  f297 := Try.func65.trans (congrArg some (by kernel_rfl))
  f298 := Try.func66.trans (congrArg some (by kernel_rfl))
  f299 := Try.func67.trans (congrArg some (by kernel_rfl))
  f300 := Try.func69.trans (congrArg some (by kernel_rfl))
  f301 := Try.func70.trans (congrArg some (by kernel_rfl))
  f328 := Try.func81.trans (congrArg some (by kernel_rfl))
  f329 := Try.func82.trans (congrArg some (by kernel_rfl))
  f330 := Try.func83.trans (congrArg some (by kernel_rfl))
  f331 := Try.func84.trans (congrArg some (by kernel_rfl))
  f332 := Try.func85.trans (congrArg some (by kernel_rfl))
  f343 := Try.func89.trans (congrArg some (by kernel_rfl))
  t0 := Try.underlying0
  a0 := Try.isAgg0
  z0 := Try.sizeOf0
  v0 := Try.zeroValue0
  t3 := Try.underlying3
  a3 := Try.isAgg3
  z3 := Try.sizeOf3
  v3 := Try.zeroValue3
  t4 := Try.underlying4
  a4 := Try.isAgg4
  z4 := Try.sizeOf4
  v4 := Try.zeroValue4
  t5 := Try.underlying5
  a5 := Try.isAgg5
  z5 := Try.sizeOf5
  v5 := Try.zeroValue5
  t9 := Try.underlying9
  a9 := Try.isAgg9
  z9 := Try.sizeOf9
  v9 := Try.zeroValue9
  t28 := Try.underlying58
  a28 := Try.isAgg58
  z28 := Try.sizeOf58
  v28 := Try.zeroValue58
  t46 := Try.underlying90
  a46 := Try.isAgg90
  z46 := Try.sizeOf90
  v46 := Try.zeroValue90
  t51 := Try.underlying106
  a51 := Try.isAgg106
  z51 := Try.sizeOf106
  v51 := Try.zeroValue106
  t53 := Try.underlying70
  a53 := Try.isAgg70
  z53 := Try.sizeOf70
  v53 := Try.zeroValue70
  t131 := Try.underlying103
  a131 := Try.isAgg103
  z131 := Try.sizeOf103
  v131 := Try.zeroValue103
  t182 := Try.underlying97
  a182 := Try.isAgg97
  z182 := Try.sizeOf97
  v182 := Try.zeroValue97
  t183 := Try.underlying98
  a183 := Try.isAgg98
  z183 := Try.sizeOf98
  v183 := Try.zeroValue98
  t218 := Try.underlying113
  a218 := Try.isAgg113
  z218 := Try.sizeOf113
  v218 := Try.zeroValue113
  t222 := Try.underlying117
  a222 := Try.isAgg117
  z222 := Try.sizeOf117
  v222 := Try.zeroValue117
  t228 := Try.underlying121
  a228 := Try.isAgg121
  z228 := Try.sizeOf121
  v228 := Try.zeroValue121
  t229 := Try.underlying122
  a229 := Try.isAgg122
  z229 := Try.sizeOf122
  v229 := Try.zeroValue122 }
def Try.shLen_ren : Go.Shelf.Ren := ⟨fun | 125 => 60 | 128 => 71 | 129 => 72 | n => n, fun | 46 => 90 | 3 => 3 | 51 => 106 | 53 => 70 | 4 => 4 | 5 => 5 | 9 => 9 | n => n, fun | n => n⟩
theorem Try.shLen : Go.Proofs.Lays.n125 Try.prog Try.shLen_ren := {
  mixed := by kernel_rfl
  f125 := Try.func60.trans (congrArg some (by kernel_rfl))
  f128 := Try.func71.trans (congrArg some (by kernel_rfl))
  f129 := Try.func72.trans (congrArg some (by kernel_rfl))
  t3 := Try.underlying3
  a3 := Try.isAgg3
  z3 := Try.sizeOf3
  v3 := Try.zeroValue3
  t4 := Try.underlying4
  a4 := Try.isAgg4
  z4 := Try.sizeOf4
  v4 := Try.zeroValue4
  t5 := Try.underlying5
  a5 := Try.isAgg5
  z5 := Try.sizeOf5
  v5 := Try.zeroValue5
  t9 := Try.underlying9
  a9 := Try.isAgg9
  z9 := Try.sizeOf9
  v9 := Try.zeroValue9
  t46 := Try.underlying90
  a46 := Try.isAgg90
  z46 := Try.sizeOf90
  v46 := Try.zeroValue90
  t51 := Try.underlying106
  a51 := Try.isAgg106
  z51 := Try.sizeOf106
  v51 := Try.zeroValue106
  t53 := Try.underlying70
  a53 := Try.isAgg70
  z53 := Try.sizeOf70
  v53 := Try.zeroValue70 }
def Try.shSortF_ren : Go.Shelf.Ren := ⟨fun | 6 => 51 | 15 => 60 | 14 => 61 | 28 => 71 | 29 => 72 | 20 => 73 | 21 => 74 | 22 => 75 | 23 => 76 | 24 => 77 | 25 => 78 | 26 => 79 | 27 => 80 | 46 => 86 | 47 => 82 | 48 => 83 | 49 => 87 | 50 => 88 | 57 => 90 | n => n, fun | 22 => 37 | 24 => 33 | 25 => 55 | 3 => 3 | 39 => 90 | 0 => 0 | 53 => 106 | 55 => 70 | 4 => 4 | 46 => 98 | 45 => 97 | 50 => 103 | 5 => 5 | 9 => 9 | 66 => 113 | 70 => 117 | 76 => 121 | 77 => 122 | n => n, fun | n => n⟩
theorem Try.shSortF : Go.Proofs.SlLaysF0.n6 Try.prog Try.shSortF_ren := {
  mixed := by kernel_rfl
  f6 := ⟨Try.f51.name, by decide, Try.func51.trans (congrArg some (by kernel_rfl))⟩
  f14 := ⟨Try.f61.name, by decide, Try.func61.trans (congrArg some (by kernel_rfl))⟩
  f15 := Try.func60.trans (congrArg some (by kernel_rfl))
  f20 := ⟨Try.f73.name, by decide, Try.func73.trans (congrArg some (by kernel_rfl))⟩
  f21 := ⟨Try.f74.name, by decide, Try.func74.trans (congrArg some (by kernel_rfl))⟩
  f22 := ⟨Try.f75.name, by decide, Try.func75.trans (congrArg some (by kernel_rfl))⟩
  f23 := ⟨Try.f76.name, by decide, Try.func76.trans (congrArg some (by kernel_rfl))⟩
  f24 := ⟨Try.f77.name, by decide, Try.func77.trans (congrArg some (by kernel_rfl))⟩
  f25 := ⟨Try.f78.name, by decide, Try.func78.trans (congrArg some (by kernel_rfl))⟩
  f26 := ⟨Try.f79.name, by decide, Try.func79.trans (congrArg some (by kernel_rfl))⟩
  f27 := ⟨Try.f80.name, by decide, Try.func80.trans (congrArg some (by kernel_rfl))⟩
  f28 := Try.func71.trans (congrArg some (by kernel_rfl))
  f29 := Try.func72.trans (congrArg some (by kernel_rfl))
  f46 := ⟨Try.f86.name, by decide, Try.func86.trans (congrArg some (by kernel_rfl))⟩
  f47 := Try.func82.trans (congrArg some (by kernel_rfl))
  f48 := Try.func83.trans (congrArg some (by kernel_rfl))
  f49 := ⟨Try.f87.name, by decide, Try.func87.trans (congrArg some (by kernel_rfl))⟩
  f50 := ⟨Try.f88.name, by decide, Try.func88.trans (congrArg some (by kernel_rfl))⟩
  f57 := ⟨Try.f90.name, by decide, Try.func90.trans (congrArg some (by kernel_rfl))⟩
  t0 := Try.underlying0
  a0 := Try.isAgg0
  z0 := Try.sizeOf0
  v0 := Try.zeroValue0
  t3 := Try.underlying3
  a3 := Try.isAgg3
  z3 := Try.sizeOf3
  v3 := Try.zeroValue3
  t4 := Try.underlying4
  a4 := Try.isAgg4
  z4 := Try.sizeOf4
  v4 := Try.zeroValue4
  t5 := Try.underlying5
  a5 := Try.isAgg5
  z5 := Try.sizeOf5
  v5 := Try.zeroValue5
  t9 := Try.underlying9
  a9 := Try.isAgg9
  z9 := Try.sizeOf9
  v9 := Try.zeroValue9
  t22 := Try.underlying37
  a22 := Try.isAgg37
  z22 := Try.sizeOf37
  v22 := Try.zeroValue37
  t25 := Try.underlying55
  a25 := Try.isAgg55
  z25 := Try.sizeOf55
  v25 := Try.zeroValue55
  t39 := Try.underlying90
  a39 := Try.isAgg90
  z39 := Try.sizeOf90
  v39 := Try.zeroValue90
  t45 := Try.underlying97
  a45 := Try.isAgg97
  z45 := Try.sizeOf97
  v45 := Try.zeroValue97
  t46 := Try.underlying98
  a46 := Try.isAgg98
  z46 := Try.sizeOf98
  v46 := Try.zeroValue98
  t50 := Try.underlying103
  a50 := Try.isAgg103
  z50 := Try.sizeOf103
  v50 := Try.zeroValue103
  t53 := Try.underlying106
  a53 := Try.isAgg106
  z53 := Try.sizeOf106
  v53 := Try.zeroValue106
  t55 := Try.underlying70
  a55 := Try.isAgg70
  z55 := Try.sizeOf70
  v55 := Try.zeroValue70
  t66 := Try.underlying113
  a66 := Try.isAgg113
  z66 := Try.sizeOf113
  v66 := Try.zeroValue113
  t70 := Try.underlying117
  a70 := Try.isAgg117
  z70 := Try.sizeOf117
  v70 := Try.zeroValue117
  t76 := Try.underlying121
  a76 := Try.isAgg121
  z76 := Try.sizeOf121
  v76 := Try.zeroValue121
  t77 := Try.underlying122
  a77 := Try.isAgg122
  z77 := Try.sizeOf122
  v77 := Try.zeroValue122 }
def Try.shKeys_ren : Go.Shelf.Ren := ⟨fun | 7 => 27 | 10 => 49 | n => n, fun | 23 => 57 | 26 => 3 | 3 => 37 | 28 => 61 | 0 => 0 | 27 => 60 | 33 => 78 | 4 => 4 | n => n, fun | n => n⟩
theorem Try.shKeys : Go.Proofs.SlLaysZI.n7 Try.prog Try.shKeys_ren := {
  mixed := by kernel_rfl
  f7 := ⟨Try.f27.name, by decide, Try.func27.trans (congrArg some (by kernel_rfl))⟩
  f10 := ⟨Try.f49.name, by decide, Try.func49.trans (congrArg some (by kernel_rfl))⟩
  t0 := Try.underlying0
  a0 := Try.isAgg0
  z0 := Try.sizeOf0
  v0 := Try.zeroValue0
  t4 := Try.underlying4
  a4 := Try.isAgg4
  z4 := Try.sizeOf4
  v4 := Try.zeroValue4
  t23 := Try.underlying57
  a23 := Try.isAgg57
  z23 := Try.sizeOf57
  v23 := Try.zeroValue57
  t26 := Try.underlying3
  a26 := Try.isAgg3
  z26 := Try.sizeOf3
  v26 := Try.zeroValue3
  t27 := Try.underlying60
  a27 := Try.isAgg60
  z27 := Try.sizeOf60
  v27 := Try.zeroValue60
  t28 := Try.underlying61
  a28 := Try.isAgg61
  z28 := Try.sizeOf61
  v28 := Try.zeroValue61
  t33 := Try.underlying78
  a33 := Try.isAgg78
  z33 := Try.sizeOf78
  v33 := Try.zeroValue78 }
def Try.shSorted_ren : Go.Shelf.Ren := ⟨fun | 6 => 26 | 8 => 47 | 9 => 48 | 11 => 58 | 13 => 60 | 12 => 59 | 23 => 71 | 24 => 72 | 14 => 62 | 15 => 63 | 16 => 64 | 17 => 65 | 18 => 66 | 19 => 67 | 20 => 68 | 21 => 69 | 22 => 70 | 25 => 81 | 26 => 82 | 27 => 83 | 28 => 84 | 29 => 85 | 30 => 57 | 31 => 89 | n => n, fun | 26 => 3 | 28 => 61 | 24 => 58 | 0 => 0 | 3 => 3 | 37 => 90 | 48 => 106 | 50 => 70 | 4 => 4 | 40 => 98 | 39 => 97 | 45 => 103 | 5 => 5 | 9 => 9 | 51 => 113 | 55 => 117 | 57 => 121 | 58 => 122 | 33 => 78 | n => n, fun | n => n⟩
theorem Try.shSorted : Go.Proofs.SlLaysZI.n6 Try.prog Try.shSorted_ren := {
  mixed := by kernel_rfl
  f6 := ⟨Try.f26.name, by decide, Try.func26.trans (congrArg some (by kernel_rfl))⟩
  f8 := ⟨Try.f47.name, by decide, Try.func47.trans (congrArg some (by kernel_rfl))⟩
  f11 := ⟨Try.f58.name, by decide, Try.func58.trans (congrArg some (by kernel_rfl))⟩
  t0 := Try.underlying0
  a0 := Try.isAgg0
  z0 := Try.sizeOf0
  v0 := Try.zeroValue0
  t24 := Try.underlying58
  a24 := Try.isAgg58
  z24 := Try.sizeOf58
  v24 := Try.zeroValue58
  t26 := Try.underlying3
  a26 := Try.isAgg3
  z26 := Try.sizeOf3
  v26 := Try.zeroValue3
  t28 := Try.underlying61
  a28 := Try.isAgg61
  z28 := Try.sizeOf61
  v28 := Try.zeroValue61
  i26 := by kernel_rfl }
end Go.Proofs
end
section
set_option linter.unusedVariables false
set_option linter.unusedSimpArgs false
namespace Go.Proofs.Ytaedlmeaconflaa.P
open Go.RowKit Go.Sort Go.Shelf Go.Proofs.YtaedlmeaconflaaW.PrintWords Go.Proofs.YtaedlmeaconflaaW.PrintLast Go.Proofs.YtaedlmeaconflaaW.PrintMore
def enc2 (ps : List (Value × Value)) : List Value := ps.flatMap fun p => [p.1, p.2]
theorem enc2_cons (p : Value × Value) (ps : List (Value × Value)) : enc2 (p :: ps) = p.1 :: p.2 :: enc2 ps := rfl
theorem enc2_len : ∀ ps : List (Value × Value), (enc2 ps).length = ps.length * 2
  | [] => rfl
  | p :: ps => by rw [enc2_cons, List.length_cons, List.length_cons, enc2_len ps, List.length_cons]; omega
theorem enc2_at : ∀ (ps : List (Value × Value)) (j : Nat), (enc2 ps)[j * 2]? = ps[j]?.map (·.1) ∧ (enc2 ps)[j * 2 + 1]? = ps[j]?.map (·.2)
  | [], j => by simp [enc2]
  | p :: ps, 0 => by simp [enc2_cons]
  | p :: ps, j + 1 => by
    have h := enc2_at ps j
    rw [enc2_cons, show (j + 1) * 2 = j * 2 + 1 + 1 by omega]
    simpa using h
theorem enc2_take : ∀ (ps : List (Value × Value)) (j : Nat), (enc2 ps).take (j * 2) = enc2 (ps.take j)
  | [], j => by simp [enc2]
  | p :: ps, 0 => by simp [enc2]
  | p :: ps, j + 1 => by
    rw [enc2_cons, show (j + 1) * 2 = j * 2 + 1 + 1 by omega, List.take_succ_cons, List.take_succ_cons, enc2_take ps j]
    rfl
theorem enc2_set : ∀ (ps : List (Value × Value)) (j : Nat) (a b : Value), ((enc2 ps).set (j * 2) a).set (j * 2 + 1) b = enc2 (ps.set j (a, b))
  | [], j, a, b => by simp [enc2]
  | p :: ps, 0, a, b => by simp [enc2_cons]
  | p :: ps, j + 1, a, b => by
    have h := enc2_set ps j a b
    rw [enc2_cons, show (j + 1) * 2 = j * 2 + 1 + 1 by omega, List.set_cons_succ, List.set_cons_succ, List.set_cons_succ, List.set_cons_succ, h]
    rfl
abbrev pS (s : S33) : Value × Value := (.int .i64 s.f0, .int .i64 s.f1)
def RowS (w : World) (base : Nat) (v : Value) (xs : List S33) : Prop := w.ownsRow base 33 2 v xs.length (enc2 (xs.map pS))
theorem reps_enc2 {w : World} {b : Nat} {ok : Nat → Prop} : ∀ {xs : List S33} {cs : List Value}, Reps (k33.M w b ok) 2 xs cs → cs = enc2 (xs.map pS)
  | [], cs, h => List.eq_nil_of_length_eq_zero (by simpa using h.1)
  | x :: xs, cs, h => by
    have h0 := k33_openM (h.2 0 x rfl)
    have hr : Reps (k33.M w b ok) 2 xs (cs.drop 2) := ⟨by rw [List.length_drop, h.1, List.length_cons]; omega, fun j p hj => by
      have := h.2 (j + 1) p hj
      rwa [List.drop_drop, show 2 + j * 2 = (j + 1) * 2 by omega]⟩
    have ih := reps_enc2 hr
    rw [List.map_cons, enc2_cons, ← ih]
    rw [show 0 * 2 = 0 from rfl, List.drop_zero] at h0
    conv => lhs; rw [← List.take_append_drop 2 cs, h0]
    rfl
theorem enc2_reps (w : World) (b : Nat) (ok : Nat → Prop) : ∀ xs : List S33, Reps (k33.M w b ok) 2 xs (enc2 (xs.map pS))
  | [] => ⟨rfl, fun j p h => by simp at h⟩
  | x :: xs => by
    have ih := enc2_reps w b ok xs
    refine ⟨by rw [enc2_len, List.length_map], fun j p hj => ?_⟩
    rcases j with _ | j
    · obtain rfl : x = p := by simpa using hj
      exact k33_mkM w b ok x
    · have := ih.2 j p (by simpa using hj)
      rw [List.map_cons, enc2_cons, show (j + 1) * 2 = j * 2 + 1 + 1 by omega, List.drop_succ_cons, List.drop_succ_cons]
      exact this
theorem RowS.of_R {w : World} {b : Nat} {ok : Nat → Prop} {v : Value} {xs : List S33} (h : Kd.R k33 33 w b ok v xs) : RowS w b v xs := by
  obtain ⟨_, inner, ho, hr⟩ := h
  have : inner = enc2 (xs.map pS) := reps_enc2 hr
  subst this
  exact ho
theorem RowS.R {w : World} {b : Nat} {v : Value} {xs : List S33} (h : RowS w b v xs) : Kd.R k33 33 w b (fun _ => True) v xs :=
  ⟨fun _ _ => trivial, _, h, enc2_reps w b _ xs⟩
theorem own_lit0S (W : World) {b : Nat} (hb : b ≤ W.heap.size) : (W.alloc (.cells #[] 33)).ownsRow b 33 2 (.slice (some ⟨W.heap.size, 0, none⟩) 0 0) 0 [] :=
  ⟨rfl, .inr ⟨W.heap.size, 0, #[], rfl, hb, heap_alloc_new W _, Nat.le_refl _, Nat.zero_le _, rfl, rfl⟩⟩
set_option maxHeartbeats 1000000 in
theorem sclone_any (A : Option Addr) (c : Nat) (xs : List S33) (w : World) (hr : Kd.C k33 w A xs.length xs) (hb : xs.length * 16 ≤ 140737488355328) :
    Calls Try.prog 50 #[.slice A xs.length c] w fun e w' => ∃ v, e = .returned v ∧ RowS w' w.heap.size v xs ∧ Below w.heap.size w w' := by
  have q22 : ∀ (w : World) (a : Option Addr) (n c n' c' : Nat), (binOp .eql 37 (.slice a n c) (.slice none n' c')).run Try.prog w = .ok (.bool a.isNone) w := fun w a n c n' c' => Lib.run_eql_slice_nil w _ _ a n c n' c' Try.underlying37
  rcases A with _ | ad
  · have h0 : xs = [] := by
      rcases xs with _ | ⟨x, xs⟩
      · rfl
      · obtain ⟨_, h, _⟩ := hr.2.2 (by simp)
        cases h
    subst h0
    go_enter Try.func50, Try.ntmps50
    go_wp2
    go_ret
    exact ⟨_, rfl, own_nil _ _ _ _, Below.refl _ _⟩
  · have HR := Lib.hid hr; have HB := Lib.hid hb
    clear hr hb
    go_enter Try.func50, Try.ntmps50
    go_wp2_with (first | ((with_reducible refine gate_builtin (b := .append) (xs := #[.tmp 5, .tmp 6]) rfl ?_); at_builtin; refine stop_append rfl ?_))
    refine Lib.hid ?_
    refine Kd.R_append_rows k33 (w0 := w) (Rr := k33.K w) w.heap.size (by rfl) (.tmp 5) (.tmp 6) 37 33 (.agg #[.int .i64 0, .int .i64 0]) 16 (by rfl) Try.underlying37 info33 rfl (by decide) (by decide) (.slice (some ⟨w.heap.size, 0, none⟩) 0 0) [] xs (some ad) xs.length c (fun _ => True) (fun _ => False) (by rfl) (by rfl) ⟨fun _ _ => trivial, [], own_lit0S w (Nat.le_refl _), Reps.none _ _⟩ (HR.out.imp_ ((Below.refl _ _).alloc (Nat.le_refl _) _) (fun _ _ h => h)) ?_ (fun _ h => h.elim) (fun _ _ => trivial) ((Below.refl _ _).alloc (Nat.le_refl _) _) (by simp) (by simpa using HB.out) ?_
    · intro x cs hK
      obtain rfl := k33_open hK
      exact k33_mkM _ _ _ x
    intro v1 w1 ho hbl _ _
    simp only [List.nil_append] at ho
    have HO := Lib.hid (And.intro (RowS.of_R ho) hbl)
    obtain ⟨A1, c1, rfl⟩ := own_slice HO.out.1
    clear ho hbl
    go_wp2
    go_ret
    exact ⟨_, rfl, HO.out.1, HO.out.2⟩
end Go.Proofs.Ytaedlmeaconflaa.P
end
section
set_option linter.unusedVariables false
set_option linter.unusedSimpArgs false
namespace Go.Proofs.Ytaedlmeaconflaa.P
open Go.RowKit Go.Proofs.YtaedlmeaconflaaW.PrintWords Go.Proofs.YtaedlmeaconflaaW.PrintLast Go.Proofs.YtaedlmeaconflaaW.PrintMore
theorem rowS_lower {w : World} {b b' : Nat} {v : Value} {xs : List S33} (h : RowS w b v xs) (hb : b' ≤ b) : RowS w b' v xs :=
  ⟨h.1, h.2.imp id fun ⟨g, cap, cur, h1, h2, h3⟩ => ⟨g, cap, cur, h1, Nat.le_trans hb h2, h3⟩⟩
section
variable {w : World} {g ab : Nat} {xs xs' : List Int} {A : Option Addr} {n c : Nat} {x : Value} {v0 : Value} {older : List PanicEntry}
theorem seeS_blind (h : EyeIs w g ab xs true) (f : Fn) (fi ca : Array Value) : Calls Try.prog 36 #[ptr g, .func f fi ca] w fun e w' => e = .returned (.slice none 0 0) ∧ Below w.heap.size w w' := by
  obtain ⟨A, c, hB, hc, hF⟩ := h.ex
  have hc1 : w.cell? ⟨g, 1, none⟩ = some (.bool true) := hB.cell 1
  obtain ⟨w1, hw1⟩ : ∃ w1, (w.alloc (.cells #[ptr g] 42)).alloc (.cells #[.slice none 0 0] 37) = w1 := ⟨_, rfl⟩
  have hb1 : Below w.heap.size w w1 := hw1 ▸ ((Below.refl _ _).alloc (Nat.le_refl _) _).alloc (by simp) _
  have h0 : w1.cell? ⟨w.heap.size, 0, none⟩ = some (ptr g) := hw1 ▸ ((Blk.new w 42 #[ptr g]).alloc _).cell 0
  have hx : Blk w1 (w.heap.size + 1) 37 #[.slice none 0 0] := by
    have := Blk.new (w.alloc (.cells #[ptr g] 42)) 37 #[.slice none 0 0]
    rw [hw1] at this
    simpa using this
  have hx0 : w1.cell? ⟨w.heap.size + 1, 0, none⟩ = some (.slice none 0 0) := hx.cell 0
  have hxz := hx.frozen 0
  have hc1' := pw_cell_below hb1 hc1
  have HX := Lib.hid hx
  clear h hB hF hx
  go_enter_defers Try.func36, Try.ntmps36
  go_wp2
  have hxs : (w1.setCell ⟨w.heap.size + 1, 0, none⟩ (.slice none 0 0)).cell? ⟨w.heap.size + 1, 0, none⟩ = some (.slice none 0 0) := (HX.out.set_ 0 (.slice none 0 0)).cell 0
  simp [bodyPostD, Leaves, results, Try.results36, go_sem, hxs]
  exact hb1.setCell (p := ⟨w.heap.size + 1, 0, none⟩) (Nat.le_succ _) _
theorem seeS1_idle (bw bx be : Nat) (w : World) : CallsD Try.prog 55 #[ptr bw, ptr bx, ptr be] .returning w fun e u' w' => e = .returned (.tuple #[]) ∧ u' = .returning ∧ w' = w := by
  refine callsD_of_wpS Try.func55 rfl fun c₀ cs hu => ?_
  apply wpS_seq
  apply wpS_region
  simp [wpOpsS, go_sem, recoverD, hu, Try.ntmps55, Exit.thenS]
  apply wpS_seq
  apply wpS_region
  simp [wpOpsS, go_sem, Exit.thenS]
  refine wpS_cond (t := false) (by simp [Act.eval, Array.replicate]) ?_
  simp only [Bool.false_eq_true, if_false]
  refine wpS_of_wp (wp_skip ?_)
  cases c₀
  simp_all [bodyPostS, results, Try.results55]
set_option maxRecDepth 100000 in
theorem seeS1_catch (bw bx be : Nat) (w : World) (hw : w.cell? ⟨bw, 0, none⟩ = some (.slice A n c)) (hx : Blk w bx 37 #[x]) (he : w.cell? ⟨be, 0, none⟩ = some (ptr g)) (hg : Blk w g 68 #[v0, .bool false]) :
    CallsD Try.prog 55 #[ptr bw, ptr bx, ptr be] (.panicking ({ v := .iface 87 (.agg #[]), recovered := false } :: older)) w fun e u' w' => e = .returned (.tuple #[]) ∧ u' = .panicking ({ v := .iface 87 (.agg #[]), recovered := true } :: older) ∧ Caught w w' g bx (.slice A n c) (.slice none 0 0) 37 := by
  have hgx : g ≠ bx := hg.ne_ hx (by decide)
  refine callsD_of_wpS Try.func55 rfl fun c₀ cs hu => ?_
  apply wpS_seq
  apply wpS_region
  simp [wpOpsS, go_sem, recoverD, hu, Try.ntmps55, Exit.thenS, rep23]
  apply wpS_seq
  apply wpS_region
  simp [wpOpsS, go_sem, Exit.thenS]
  refine wpS_cond (t := true) (by simp [Act.eval, Array.replicate]) ?_
  simp only [if_true]
  refine wpS_of_wp ?_
  obtain ⟨w1, hw1⟩ : ∃ w1, w.alloc (.cells #[] 87) = w1 := ⟨_, rfl⟩
  have hb1 : Below w.heap.size w w1 := hw1 ▸ (Below.refl _ _).alloc (Nat.le_refl _) _
  have hw' := pw_cell_below hb1 hw
  have he' := pw_cell_below hb1 he
  have hx1 := hx.below hb1 hx.lt
  have hg1 := hg.below hb1 hg.lt
  obtain ⟨w2, hw2⟩ : ∃ w2, w1.setCell ⟨bx, 0, none⟩ (.slice none 0 0) = w2 := ⟨_, rfl⟩
  have hu2 : Upd w1 w2 (· = bx) := hw2 ▸ (Upd.refl w1 (· = bx)).setCell (p := ⟨bx, 0, none⟩) (.inl rfl) _
  have hx2 : Blk w2 bx 37 #[.slice none 0 0] := hw2 ▸ hx1.set_ 0 (.slice none 0 0)
  have hg2 := hg1.upd hu2 hgx
  obtain ⟨w3, hw3⟩ : ∃ w3, w2.setCell ⟨g, 0, none⟩ (.slice A n c) = w3 := ⟨_, rfl⟩
  have hu3 : Upd w2 w3 (· = g) := hw3 ▸ (Upd.refl w2 (· = g)).setCell (p := ⟨g, 0, none⟩) (.inl rfl) _
  have hg3 : Blk w3 g 68 #[.slice A n c, .bool false] := hw3 ▸ hg2.set_ 0 (.slice A n c)
  obtain ⟨w4, hw4⟩ : ∃ w4, w3.setCell ⟨g, 1, none⟩ (.bool true) = w4 := ⟨_, rfl⟩
  have hu4 : Upd w3 w4 (· = g) := hw4 ▸ (Upd.refl w3 (· = g)).setCell (p := ⟨g, 1, none⟩) (.inl rfl) _
  have hg4 : Blk w4 g 68 #[.slice A n c, .bool true] := hw4 ▸ hg3.set_ 1 (.bool true)
  have hx4 := (hx2.upd hu3 hgx.symm).upd hu4 hgx.symm
  have hC : Caught w w4 g bx (.slice A n c) (.slice none 0 0) 37 := ⟨(((Upd.of_below hb1 _).trans (hu2.mono fun _ _ h => .inr h)).trans (hu3.mono fun _ _ h => .inl h)).trans (hu4.mono fun _ _ h => .inl h), hg4, hx4⟩
  have HC := Lib.hid hC
  have hxc : w1.cell? ⟨bx, 0, none⟩ = some x := hx1.cell 0
  have hxz := hx1.frozen 0
  have hgc : w2.cell? ⟨g, 0, none⟩ = some v0 := hg2.cell 0
  have hgz := hg2.frozen 0
  have hgc3 : w3.cell? ⟨g, 1, none⟩ = some (.bool false) := hg3.cell 1
  have hgz3 := hg3.frozen 1
  have HU := Lib.hid hu
  clear hu hx hg hb1 hw he hx1 hg1 hu2 hx2 hg2 hu3 hg3 hu4 hg4 hx4 hC hgx
  have hta := sight_assert
  go_wp2_with fail
  have hu := HU.out
  cases c₀
  simp_all [bodyPostS, results, Try.results55]
  exact HC.out
set_option maxRecDepth 100000 in
theorem seeS_ok (h : EyeIs w g ab xs false) (gf : Nat) (caps : Array Value) (eg : ∀ args w, (callFunc gf args).run Try.prog w = .ok (.enter gf args) w) (zs : List S33)
    (hf : ∀ W, EyeIs W g ab xs false → Below w.heap.size w W → Calls Try.prog gf caps W fun e w' => ∃ v, e = .returned v ∧ RowS w' W.heap.size v zs ∧ EyeIs w' g ab xs' false ∧ Upd W w' (· = g)) :
    Calls Try.prog 36 #[ptr g, .func (.func gf) #[] caps] w fun e w' => ∃ v, e = .returned v ∧ RowS w' w.heap.size v zs ∧ EyeIs w' g ab xs' false ∧ Upd w w' (· = g) := by
  obtain ⟨A, c, hB, hc, hF⟩ := h.ex
  obtain ⟨w1, hw1⟩ : ∃ w1, (w.alloc (.cells #[ptr g] 42)).alloc (.cells #[.slice none 0 0] 37) = w1 := ⟨_, rfl⟩
  have hb1 : Below w.heap.size w w1 := hw1 ▸ ((Below.refl _ _).alloc (Nat.le_refl _) _).alloc (by simp) _
  have h0 : w1.cell? ⟨w.heap.size, 0, none⟩ = some (ptr g) := hw1 ▸ ((Blk.new w 42 #[ptr g]).alloc _).cell 0
  have hx : Blk w1 (w.heap.size + 1) 37 #[.slice none 0 0] := by
    have := Blk.new (w.alloc (.cells #[ptr g] 42)) 37 #[.slice none 0 0]
    rw [hw1] at this
    simpa using this
  have hB1 := hB.below hb1 hB.lt
  have hc0 : w1.cell? ⟨g, 0, none⟩ = some (.slice A xs.length c) := hB1.cell 0
  have hc1 : w1.cell? ⟨g, 1, none⟩ = some (.bool false) := hB1.cell 1
  obtain ⟨w2, hw2⟩ : ∃ w2, w1.alloc (.cells #[.slice A xs.length c] 22) = w2 := ⟨_, rfl⟩
  have hb2 : Below w.heap.size w w2 := hw2 ▸ hb1.alloc hb1.size _
  have hx2 : Blk w2 (w.heap.size + 1) 37 #[.slice none 0 0] := hw2 ▸ hx.alloc _
  have hcl := hf w2 (h.below hb2) hb2
  have hlt := h.lt
  have hX2 := hx2.lt
  have HCL := Lib.hid hcl; have HX := Lib.hid (And.intro hx2 (And.intro hb2 (And.intro h.old hlt)))
  have hmf : ∀ (fn : Fn) (first cap : Array Value) (w : World), (Instr.makeFunc fn first cap).run Try.prog w = .ok (.func fn first cap) w := fun _ _ _ _ => rfl
  clear hB hF hf hx hB1 hcl hx2 hb2 hlt h
  go_enter_defers Try.func36, Try.ntmps36
  go_wp2_with fail
  refine HCL.out.mono ?_
  rintro e w3 ⟨v, rfl, hv3, hE3, hu3⟩
  obtain ⟨Av, cv, rfl⟩ := own_slice hv3
  have hX3 := HX.out.1.upd hu3 (fun e => by have := HX.out.2.2.2; omega)
  have hx3c : w3.cell? ⟨w.heap.size + 1, 0, none⟩ = some (.slice none 0 0) := hX3.cell 0
  have hx3z := hX3.frozen 0
  obtain ⟨w4, hw4⟩ : ∃ w4, w3.setCell ⟨w.heap.size + 1, 0, none⟩ (.slice Av zs.length cv) = w4 := ⟨_, rfl⟩
  have hX4 : Blk w4 (w.heap.size + 1) 37 #[.slice Av zs.length cv] := hw4 ▸ hX3.set_ 0 (.slice Av zs.length cv)
  have hu4 : Upd w3 w4 (· = w.heap.size + 1) := hw4 ▸ (Upd.refl w3 (· = w.heap.size + 1)).setCell (p := ⟨w.heap.size + 1, 0, none⟩) (.inl rfl) _
  have HE := Lib.hid (And.intro hE3 (And.intro hu3 (And.intro hX4 (And.intro hu4 hv3))))
  clear hE3 hu3 hX3 hX4 hu4 hv3 HCL
  go_wp2_with fail
  refine leaves_cons (f := 55) (args := #[ptr w1.heap.size, ptr (w.heap.size + 1), ptr w.heap.size]) (by simp) (by simp [go_sem]) ?_
  refine (seeS1_idle _ _ _ _).mono ?_
  rintro e u' w'' ⟨rfl, rfl, rfl⟩
  obtain ⟨hE3, hu3, hX4, hu4, hv3⟩ := HE.out
  obtain ⟨_, hb2, hold, hlt⟩ := HX.out
  have hxs := hX4.cell 0
  simp at hxs
  have hE4 := hE3.upd hu4 (fun e => by omega) (fun e => by omega)
  simp [Leaves, settle, results, Try.results36, go_sem, hxs]
  refine ⟨?_, hE4, ?_⟩
  · exact rowS_lower (own_move hv3 (fun k hk => hu4.block k (hv3.lt k hk).2 (fun e => by have := (hv3.lt k hk).1; have := hX2; omega))) hb2.size
  have hU : Upd w3 w'' (fun k => k = w.heap.size + 1) := hu4
  refine ⟨(hu4.os.trans hu3.os).trans hb2.os, (hu4.tape.trans hu3.tape).trans hb2.tape, (hu4.output.trans hu3.output).trans hb2.output, Nat.le_trans hb2.size (Nat.le_trans hu3.size hu4.size), fun k hk hn => ?_⟩
  have h1 := hb2.block k hk
  have h2 := hu3.block k (Nat.lt_of_lt_of_le hk hb2.size) hn
  have h3 := hu4.block k (Nat.lt_of_lt_of_le hk (Nat.le_trans hb2.size hu3.size)) (by omega)
  exact h3.trans (h2.trans h1)
set_option maxRecDepth 100000 in
theorem seeS_bad (h : EyeIs w g ab xs false) (gf : Nat) (caps : Array Value) (eg : ∀ args w, (callFunc gf args).run Try.prog w = .ok (.enter gf args) w)
    (hf : ∀ W, EyeIs W g ab xs false → Below w.heap.size w W → Calls Try.prog gf caps W fun e w' => e = .panicked sightP ∧ (∃ v0, Blk w' g 68 #[v0, .bool false]) ∧ Upd W w' (· = g)) :
    Calls Try.prog 36 #[ptr g, .func (.func gf) #[] caps] w fun e w' => e = .returned (.slice none 0 0) ∧ EyeIs w' g ab xs true ∧ Upd w w' (· = g) := by
  obtain ⟨A, c, hB, hc, hF⟩ := h.ex
  obtain ⟨w1, hw1⟩ : ∃ w1, (w.alloc (.cells #[ptr g] 42)).alloc (.cells #[.slice none 0 0] 37) = w1 := ⟨_, rfl⟩
  have hb1 : Below w.heap.size w w1 := hw1 ▸ ((Below.refl _ _).alloc (Nat.le_refl _) _).alloc (by simp) _
  have h0B : Blk w1 w.heap.size 42 #[ptr g] := hw1 ▸ ((Blk.new w 42 #[ptr g]).alloc _)
  have h0 : w1.cell? ⟨w.heap.size, 0, none⟩ = some (ptr g) := h0B.cell 0
  have hx : Blk w1 (w.heap.size + 1) 37 #[.slice none 0 0] := by
    have := Blk.new (w.alloc (.cells #[ptr g] 42)) 37 #[.slice none 0 0]
    rw [hw1] at this
    simpa using this
  have hs1 : w1.heap.size = w.heap.size + 2 := by rw [← hw1]; simp
  have hB1 := hB.below hb1 hB.lt
  have hc0 : w1.cell? ⟨g, 0, none⟩ = some (.slice A xs.length c) := hB1.cell 0
  have hc1 : w1.cell? ⟨g, 1, none⟩ = some (.bool false) := hB1.cell 1
  obtain ⟨w2, hw2⟩ : ∃ w2, w1.alloc (.cells #[.slice A xs.length c] 22) = w2 := ⟨_, rfl⟩
  have hb2 : Below w.heap.size w w2 := hw2 ▸ hb1.alloc hb1.size _
  have hx2 : Blk w2 (w.heap.size + 1) 37 #[.slice none 0 0] := hw2 ▸ hx.alloc _
  have h02 : Blk w2 w.heap.size 42 #[ptr g] := hw2 ▸ h0B.alloc _
  have hw22 : Blk w2 w1.heap.size 22 #[.slice A xs.length c] := hw2 ▸ Blk.new w1 22 _
  have hcl := hf w2 (h.below hb2) hb2
  have hlt := h.lt
  have HCL := Lib.hid hcl; have HX := Lib.hid (And.intro hx2 (And.intro hb2 (And.intro h (And.intro hlt (And.intro h02 (And.intro hw22 hs1))))))
  have hmf : ∀ (fn : Fn) (first cap : Array Value) (w : World), (Instr.makeFunc fn first cap).run Try.prog w = .ok (.func fn first cap) w := fun _ _ _ _ => rfl
  have HFC := Lib.hid (And.intro hF hc)
  clear hB hF hf hx hB1 hcl hx2 hb2 hlt h h0B h02 hw22 hs1 hc
  go_enter_defers Try.func36, Try.ntmps36
  go_wp2_with fail
  refine HCL.out.mono ?_
  rintro e w3 ⟨rfl, ⟨v0, hE3⟩, hu3⟩
  have HE := Lib.hid (And.intro hE3 hu3)
  clear hE3 hu3 HCL
  go_wp2_with fail
  obtain ⟨hE3, hu3⟩ := HE.out
  obtain ⟨hx2, hb2, h, hlt, h02, hw22, hs1⟩ := HX.out
  have hx3 := hx2.upd hu3 (fun e => by omega)
  have h03 := h02.upd hu3 (fun e => by omega)
  have hw3 := hw22.upd hu3 (fun e => by omega)
  refine leaves_cons (f := 55) (args := #[ptr w1.heap.size, ptr (w.heap.size + 1), ptr w.heap.size]) (by simp) (by simp [go_sem]) ?_
  refine (seeS1_catch w1.heap.size (w.heap.size + 1) w.heap.size w3 (hw3.cell 0) hx3 (h03.cell 0) hE3).mono ?_
  rintro e u' w4 ⟨rfl, rfl, hC⟩
  have hxs := hC.res.cell 0
  simp at hxs
  simp [Leaves, settle, results, Try.results36, go_sem, hxs]
  have hU : Upd w w4 (· = g) := by
    have hu4 := hC.upd
    refine ⟨(hu4.os.trans hu3.os).trans hb2.os, (hu4.tape.trans hu3.tape).trans hb2.tape, (hu4.output.trans hu3.output).trans hb2.output, Nat.le_trans hb2.size (Nat.le_trans hu3.size hu4.size), fun k hk hn => ?_⟩
    have h1 := hb2.block k hk
    have h2 := hu3.block k (Nat.lt_of_lt_of_le hk hb2.size) hn
    have h3 := hu4.block k (Nat.lt_of_lt_of_le hk (Nat.le_trans hb2.size hu3.size)) (by rintro (e | e) <;> omega)
    exact h3.trans (h2.trans h1)
  refine ⟨⟨h.ne, Nat.lt_of_lt_of_le h.old hU.size, A, c, hC.eye, HFC.out.2, ?_⟩, hU⟩
  rcases h.ne with hne | hnil
  · exact Kd.F_step HFC.out.1 (fun k hk hlt => hU.block k hlt (fun e => hne (hk ▸ e)))
  · rw [hnil]; exact F_zero A
end
end Go.Proofs.Ytaedlmeaconflaa.P
end
section
set_option linter.unusedVariables false
set_option linter.unusedSimpArgs false
namespace Go.Proofs.Ytaedlmeaconflaa.P
open Go.RowKit Go.Proofs.YtaedlmeaconflaaW.PrintWords Go.Proofs.YtaedlmeaconflaaW.PrintLast Go.Proofs.YtaedlmeaconflaaW.PrintMore
section
variable {w : World} {g ab : Nat} {xs xs' : List Int} {A : Option Addr} {n c : Nat} {x : Int} {v0 : Value} {older : List PanicEntry}
theorem seeI_blind (h : EyeIs w g ab xs true) (f : Fn) (fi ca : Array Value) : Calls Try.prog 33 #[ptr g, .func f fi ca] w fun e w' => e = .returned (.int .i64 0) ∧ Below w.heap.size w w' := by
  obtain ⟨A, c, hB, hc, hF⟩ := h.ex
  have hc1 : w.cell? ⟨g, 1, none⟩ = some (.bool true) := hB.cell 1
  obtain ⟨w1, hw1⟩ : ∃ w1, (w.alloc (.cells #[ptr g] 42)).alloc (.cells #[.int .i64 0] 2) = w1 := ⟨_, rfl⟩
  have hb1 : Below w.heap.size w w1 := hw1 ▸ ((Below.refl _ _).alloc (Nat.le_refl _) _).alloc (by simp) _
  have h0 : w1.cell? ⟨w.heap.size, 0, none⟩ = some (ptr g) := hw1 ▸ ((Blk.new w 42 #[ptr g]).alloc _).cell 0
  have hx : Blk w1 (w.heap.size + 1) 2 #[.int .i64 0] := by
    have := Blk.new (w.alloc (.cells #[ptr g] 42)) 2 #[.int .i64 0]
    rw [hw1] at this
    simpa using this
  have hx0 : w1.cell? ⟨w.heap.size + 1, 0, none⟩ = some (.int .i64 0) := hx.cell 0
  have hxz := hx.frozen 0
  have hc1' := pw_cell_below hb1 hc1
  have HX := Lib.hid hx
  clear h hB hF hx
  go_enter_defers Try.func33, Try.ntmps33
  go_wp2
  have hxs : (w1.setCell ⟨w.heap.size + 1, 0, none⟩ (.int .i64 0)).cell? ⟨w.heap.size + 1, 0, none⟩ = some (.int .i64 0) := (HX.out.set_ 0 (.int .i64 0)).cell 0
  simp [bodyPostD, Leaves, results, Try.results33, go_sem, hxs]
  exact hb1.setCell (p := ⟨w.heap.size + 1, 0, none⟩) (Nat.le_succ _) _
theorem seeI1_idle (bw bx be : Nat) (w : World) : CallsD Try.prog 53 #[ptr bw, ptr bx, ptr be] .returning w fun e u' w' => e = .returned (.tuple #[]) ∧ u' = .returning ∧ w' = w := by
  refine callsD_of_wpS Try.func53 rfl fun c₀ cs hu => ?_
  apply wpS_seq
  apply wpS_region
  simp [wpOpsS, go_sem, recoverD, hu, Try.ntmps53, Exit.thenS]
  apply wpS_seq
  apply wpS_region
  simp [wpOpsS, go_sem, Exit.thenS]
  refine wpS_cond (t := false) (by simp [Act.eval, Array.replicate]) ?_
  simp only [Bool.false_eq_true, if_false]
  refine wpS_of_wp (wp_skip ?_)
  cases c₀
  simp_all [bodyPostS, results, Try.results53]
set_option maxRecDepth 100000 in
theorem seeI1_catch (bw bx be : Nat) (w : World) (hw : w.cell? ⟨bw, 0, none⟩ = some (.slice A n c)) (hx : Blk w bx 2 #[.int .i64 x]) (he : w.cell? ⟨be, 0, none⟩ = some (ptr g)) (hg : Blk w g 68 #[v0, .bool false]) :
    CallsD Try.prog 53 #[ptr bw, ptr bx, ptr be] (.panicking ({ v := .iface 87 (.agg #[]), recovered := false } :: older)) w fun e u' w' => e = .returned (.tuple #[]) ∧ u' = .panicking ({ v := .iface 87 (.agg #[]), recovered := true } :: older) ∧ Caught w w' g bx (.slice A n c) (.int .i64 0) 2 := by
  have hgx : g ≠ bx := hg.ne_ hx (by decide)
  refine callsD_of_wpS Try.func53 rfl fun c₀ cs hu => ?_
  apply wpS_seq
  apply wpS_region
  simp [wpOpsS, go_sem, recoverD, hu, Try.ntmps53, Exit.thenS, rep23]
  apply wpS_seq
  apply wpS_region
  simp [wpOpsS, go_sem, Exit.thenS]
  refine wpS_cond (t := true) (by simp [Act.eval, Array.replicate]) ?_
  simp only [if_true]
  refine wpS_of_wp ?_
  obtain ⟨w1, hw1⟩ : ∃ w1, w.alloc (.cells #[] 87) = w1 := ⟨_, rfl⟩
  have hb1 : Below w.heap.size w w1 := hw1 ▸ (Below.refl _ _).alloc (Nat.le_refl _) _
  have hw' := pw_cell_below hb1 hw
  have he' := pw_cell_below hb1 he
  have hx1 := hx.below hb1 hx.lt
  have hg1 := hg.below hb1 hg.lt
  obtain ⟨w2, hw2⟩ : ∃ w2, w1.setCell ⟨bx, 0, none⟩ (.int .i64 0) = w2 := ⟨_, rfl⟩
  have hu2 : Upd w1 w2 (· = bx) := hw2 ▸ (Upd.refl w1 (· = bx)).setCell (p := ⟨bx, 0, none⟩) (.inl rfl) _
  have hx2 : Blk w2 bx 2 #[.int .i64 0] := hw2 ▸ hx1.set_ 0 (.int .i64 0)
  have hg2 := hg1.upd hu2 hgx
  obtain ⟨w3, hw3⟩ : ∃ w3, w2.setCell ⟨g, 0, none⟩ (.slice A n c) = w3 := ⟨_, rfl⟩
  have hu3 : Upd w2 w3 (· = g) := hw3 ▸ (Upd.refl w2 (· = g)).setCell (p := ⟨g, 0, none⟩) (.inl rfl) _
  have hg3 : Blk w3 g 68 #[.slice A n c, .bool false] := hw3 ▸ hg2.set_ 0 (.slice A n c)
  obtain ⟨w4, hw4⟩ : ∃ w4, w3.setCell ⟨g, 1, none⟩ (.bool true) = w4 := ⟨_, rfl⟩
  have hu4 : Upd w3 w4 (· = g) := hw4 ▸ (Upd.refl w3 (· = g)).setCell (p := ⟨g, 1, none⟩) (.inl rfl) _
  have hg4 : Blk w4 g 68 #[.slice A n c, .bool true] := hw4 ▸ hg3.set_ 1 (.bool true)
  have hx4 := (hx2.upd hu3 hgx.symm).upd hu4 hgx.symm
  have hC : Caught w w4 g bx (.slice A n c) (.int .i64 0) 2 := ⟨(((Upd.of_below hb1 _).trans (hu2.mono fun _ _ h => .inr h)).trans (hu3.mono fun _ _ h => .inl h)).trans (hu4.mono fun _ _ h => .inl h), hg4, hx4⟩
  have HC := Lib.hid hC
  have hxc : w1.cell? ⟨bx, 0, none⟩ = some (.int .i64 x) := hx1.cell 0
  have hxz := hx1.frozen 0
  have hgc : w2.cell? ⟨g, 0, none⟩ = some v0 := hg2.cell 0
  have hgz := hg2.frozen 0
  have hgc3 : w3.cell? ⟨g, 1, none⟩ = some (.bool false) := hg3.cell 1
  have hgz3 := hg3.frozen 1
  have HU := Lib.hid hu
  clear hu hx hg hb1 hw he hx1 hg1 hu2 hx2 hg2 hu3 hg3 hu4 hg4 hx4 hC hgx
  have hta := sight_assert
  go_wp2_with fail
  have hu := HU.out
  cases c₀
  simp_all [bodyPostS, results, Try.results53]
  exact HC.out
set_option maxRecDepth 100000 in
theorem seeI_ok (h : EyeIs w g ab xs false) (gf : Nat) (caps : Array Value) (eg : ∀ args w, (callFunc gf args).run Try.prog w = .ok (.enter gf args) w) (v : Int)
    (hf : ∀ W, EyeIs W g ab xs false → Below w.heap.size w W → Calls Try.prog gf caps W fun e w' => e = .returned (.int .i64 v) ∧ EyeIs w' g ab xs' false ∧ Upd W w' (· = g)) :
    Calls Try.prog 33 #[ptr g, .func (.func gf) #[] caps] w fun e w' => e = .returned (.int .i64 v) ∧ EyeIs w' g ab xs' false ∧ Upd w w' (· = g) := by
  obtain ⟨A, c, hB, hc, hF⟩ := h.ex
  obtain ⟨w1, hw1⟩ : ∃ w1, (w.alloc (.cells #[ptr g] 42)).alloc (.cells #[.int .i64 0] 2) = w1 := ⟨_, rfl⟩
  have hb1 : Below w.heap.size w w1 := hw1 ▸ ((Below.refl _ _).alloc (Nat.le_refl _) _).alloc (by simp) _
  have h0 : w1.cell? ⟨w.heap.size, 0, none⟩ = some (ptr g) := hw1 ▸ ((Blk.new w 42 #[ptr g]).alloc _).cell 0
  have hx : Blk w1 (w.heap.size + 1) 2 #[.int .i64 0] := by
    have := Blk.new (w.alloc (.cells #[ptr g] 42)) 2 #[.int .i64 0]
    rw [hw1] at this
    simpa using this
  have hB1 := hB.below hb1 hB.lt
  have hc0 : w1.cell? ⟨g, 0, none⟩ = some (.slice A xs.length c) := hB1.cell 0
  have hc1 : w1.cell? ⟨g, 1, none⟩ = some (.bool false) := hB1.cell 1
  obtain ⟨w2, hw2⟩ : ∃ w2, w1.alloc (.cells #[.slice A xs.length c] 22) = w2 := ⟨_, rfl⟩
  have hb2 : Below w.heap.size w w2 := hw2 ▸ hb1.alloc hb1.size _
  have hx2 : Blk w2 (w.heap.size + 1) 2 #[.int .i64 0] := hw2 ▸ hx.alloc _
  have hcl := hf w2 (h.below hb2) hb2
  have hlt := h.lt
  have HCL := Lib.hid hcl; have HX := Lib.hid (And.intro hx2 (And.intro hb2 (And.intro h.old hlt)))
  have hmf : ∀ (fn : Fn) (first cap : Array Value) (w : World), (Instr.makeFunc fn first cap).run Try.prog w = .ok (.func fn first cap) w := fun _ _ _ _ => rfl
  clear hB hF hf hx hB1 hcl hx2 hb2 hlt h
  go_enter_defers Try.func33, Try.ntmps33
  go_wp2_with fail
  refine HCL.out.mono ?_
  rintro e w3 ⟨rfl, hE3, hu3⟩
  have hX3 := HX.out.1.upd hu3 (fun e => by have := HX.out.2.2.2; omega)
  have hx3c : w3.cell? ⟨w.heap.size + 1, 0, none⟩ = some (.int .i64 0) := hX3.cell 0
  have hx3z := hX3.frozen 0
  obtain ⟨w4, hw4⟩ : ∃ w4, w3.setCell ⟨w.heap.size + 1, 0, none⟩ (.int .i64 v) = w4 := ⟨_, rfl⟩
  have hX4 : Blk w4 (w.heap.size + 1) 2 #[.int .i64 v] := hw4 ▸ hX3.set_ 0 (.int .i64 v)
  have hu4 : Upd w3 w4 (· = w.heap.size + 1) := hw4 ▸ (Upd.refl w3 (· = w.heap.size + 1)).setCell (p := ⟨w.heap.size + 1, 0, none⟩) (.inl rfl) _
  have HE := Lib.hid (And.intro hE3 (And.intro hu3 (And.intro hX4 hu4)))
  clear hE3 hu3 hX3 hX4 hu4 HCL
  go_wp2_with fail
  refine leaves_cons (f := 53) (args := #[ptr w1.heap.size, ptr (w.heap.size + 1), ptr w.heap.size]) (by simp) (by simp [go_sem]) ?_
  refine (seeI1_idle _ _ _ _).mono ?_
  rintro e u' w'' ⟨rfl, rfl, rfl⟩
  obtain ⟨hE3, hu3, hX4, hu4⟩ := HE.out
  obtain ⟨_, hb2, hold, hlt⟩ := HX.out
  have hxs := hX4.cell 0
  simp at hxs
  have hE4 := hE3.upd hu4 (fun e => by omega) (fun e => by omega)
  simp [Leaves, settle, results, Try.results33, go_sem, hxs]
  refine ⟨hE4, ?_⟩
  have hU : Upd w3 w'' (fun k => k = w.heap.size + 1) := hu4
  refine ⟨(hu4.os.trans hu3.os).trans hb2.os, (hu4.tape.trans hu3.tape).trans hb2.tape, (hu4.output.trans hu3.output).trans hb2.output, Nat.le_trans hb2.size (Nat.le_trans hu3.size hu4.size), fun k hk hn => ?_⟩
  have h1 := hb2.block k hk
  have h2 := hu3.block k (Nat.lt_of_lt_of_le hk hb2.size) hn
  have h3 := hu4.block k (Nat.lt_of_lt_of_le hk (Nat.le_trans hb2.size hu3.size)) (by omega)
  exact h3.trans (h2.trans h1)
set_option maxRecDepth 100000 in
theorem seeI_bad (h : EyeIs w g ab xs false) (gf : Nat) (caps : Array Value) (eg : ∀ args w, (callFunc gf args).run Try.prog w = .ok (.enter gf args) w)
    (hf : ∀ W, EyeIs W g ab xs false → Below w.heap.size w W → Calls Try.prog gf caps W fun e w' => e = .panicked sightP ∧ (∃ v0, Blk w' g 68 #[v0, .bool false]) ∧ Upd W w' (· = g)) :
    Calls Try.prog 33 #[ptr g, .func (.func gf) #[] caps] w fun e w' => e = .returned (.int .i64 0) ∧ EyeIs w' g ab xs true ∧ Upd w w' (· = g) := by
  obtain ⟨A, c, hB, hc, hF⟩ := h.ex
  obtain ⟨w1, hw1⟩ : ∃ w1, (w.alloc (.cells #[ptr g] 42)).alloc (.cells #[.int .i64 0] 2) = w1 := ⟨_, rfl⟩
  have hb1 : Below w.heap.size w w1 := hw1 ▸ ((Below.refl _ _).alloc (Nat.le_refl _) _).alloc (by simp) _
  have h0B : Blk w1 w.heap.size 42 #[ptr g] := hw1 ▸ ((Blk.new w 42 #[ptr g]).alloc _)
  have h0 : w1.cell? ⟨w.heap.size, 0, none⟩ = some (ptr g) := h0B.cell 0
  have hx : Blk w1 (w.heap.size + 1) 2 #[.int .i64 0] := by
    have := Blk.new (w.alloc (.cells #[ptr g] 42)) 2 #[.int .i64 0]
    rw [hw1] at this
    simpa using this
  have hs1 : w1.heap.size = w.heap.size + 2 := by rw [← hw1]; simp
  have hB1 := hB.below hb1 hB.lt
  have hc0 : w1.cell? ⟨g, 0, none⟩ = some (.slice A xs.length c) := hB1.cell 0
  have hc1 : w1.cell? ⟨g, 1, none⟩ = some (.bool false) := hB1.cell 1
  obtain ⟨w2, hw2⟩ : ∃ w2, w1.alloc (.cells #[.slice A xs.length c] 22) = w2 := ⟨_, rfl⟩
  have hb2 : Below w.heap.size w w2 := hw2 ▸ hb1.alloc hb1.size _
  have hx2 : Blk w2 (w.heap.size + 1) 2 #[.int .i64 0] := hw2 ▸ hx.alloc _
  have h02 : Blk w2 w.heap.size 42 #[ptr g] := hw2 ▸ h0B.alloc _
  have hw22 : Blk w2 w1.heap.size 22 #[.slice A xs.length c] := hw2 ▸ Blk.new w1 22 _
  have hcl := hf w2 (h.below hb2) hb2
  have hlt := h.lt
  have HCL := Lib.hid hcl; have HX := Lib.hid (And.intro hx2 (And.intro hb2 (And.intro h (And.intro hlt (And.intro h02 (And.intro hw22 hs1))))))
  have hmf : ∀ (fn : Fn) (first cap : Array Value) (w : World), (Instr.makeFunc fn first cap).run Try.prog w = .ok (.func fn first cap) w := fun _ _ _ _ => rfl
  have HFC := Lib.hid (And.intro hF hc)
  clear hB hF hf hx hB1 hcl hx2 hb2 hlt h h0B h02 hw22 hs1 hc
  go_enter_defers Try.func33, Try.ntmps33
  go_wp2_with fail
  refine HCL.out.mono ?_
  rintro e w3 ⟨rfl, ⟨v0, hE3⟩, hu3⟩
  have HE := Lib.hid (And.intro hE3 hu3)
  clear hE3 hu3 HCL
  go_wp2_with fail
  obtain ⟨hE3, hu3⟩ := HE.out
  obtain ⟨hx2, hb2, h, hlt, h02, hw22, hs1⟩ := HX.out
  have hx3 := hx2.upd hu3 (fun e => by omega)
  have h03 := h02.upd hu3 (fun e => by omega)
  have hw3 := hw22.upd hu3 (fun e => by omega)
  refine leaves_cons (f := 53) (args := #[ptr w1.heap.size, ptr (w.heap.size + 1), ptr w.heap.size]) (by simp) (by simp [go_sem]) ?_
  refine (seeI1_catch w1.heap.size (w.heap.size + 1) w.heap.size w3 (hw3.cell 0) hx3 (h03.cell 0) hE3).mono ?_
  rintro e u' w4 ⟨rfl, rfl, hC⟩
  have hxs := hC.res.cell 0
  simp at hxs
  simp [Leaves, settle, results, Try.results33, go_sem, hxs]
  have hU : Upd w w4 (· = g) := by
    have hu4 := hC.upd
    refine ⟨(hu4.os.trans hu3.os).trans hb2.os, (hu4.tape.trans hu3.tape).trans hb2.tape, (hu4.output.trans hu3.output).trans hb2.output, Nat.le_trans hb2.size (Nat.le_trans hu3.size hu4.size), fun k hk hn => ?_⟩
    have h1 := hb2.block k hk
    have h2 := hu3.block k (Nat.lt_of_lt_of_le hk hb2.size) hn
    have h3 := hu4.block k (Nat.lt_of_lt_of_le hk (Nat.le_trans hb2.size hu3.size)) (by rintro (e | e) <;> omega)
    exact h3.trans (h2.trans h1)
  refine ⟨⟨h.ne, Nat.lt_of_lt_of_le h.old hU.size, A, c, hC.eye, HFC.out.2, ?_⟩, hU⟩
  rcases h.ne with hne | hnil
  · exact Kd.F_step HFC.out.1 (fun k hk hlt => hU.block k hlt (fun e => hne (hk ▸ e)))
  · rw [hnil]; exact F_zero A
end
end Go.Proofs.Ytaedlmeaconflaa.P
end
section
set_option linter.unusedVariables false
set_option linter.unusedSimpArgs false
namespace Go.Proofs.Ytaedlmeaconflaa.P
open Go.RowKit Go.Proofs.YtaedlmeaconflaaW.PrintWords Go.Proofs.YtaedlmeaconflaaW.PrintLast Go.Proofs.YtaedlmeaconflaaW.PrintMore
abbrev Sight := List Int × Bool
def sInt (s : Sight) : Int × Sight := if s.2 = true ∨ s.1.length < 8 then (0, (s.1, true)) else (i64 (numOf s.1 8), (s.1.drop 8, false))
theorem sInt_bad {s : Sight} (h : s.2 = true ∨ s.1.length < 8) : sInt s = (0, (s.1, true)) := if_pos h
theorem sInt_ok {xs : List Int} (h : 8 ≤ xs.length) : sInt (xs, false) = (i64 (numOf xs 8), (xs.drop 8, false)) := if_neg (by simp; omega)
theorem bytesOk_drop {xs : List Int} (h : bytesOk xs) (n : Nat) : bytesOk (xs.drop n) := fun x hx => h x (List.mem_of_mem_drop hx)
theorem bytesOk_take {xs : List Int} (h : bytesOk xs) (n : Nat) : bytesOk (xs.take n) := fun x hx => h x (List.mem_of_mem_take hx)
theorem numOf_lt {xs : List Int} (h : bytesOk xs) (n : Nat) : numOf xs n < 256 ^ n := by
  unfold numOf
  refine Nat.lt_of_lt_of_le (leNum_lt _ (bytesOk_take h n)) (Nat.pow_le_pow_right (by decide) ?_)
  rw [List.length_take]; omega
theorem i64_wrap {n : Nat} (h : n < 18446744073709551616) : IntKind.i64.wrap (n : Int) = i64 n := by
  rw [Go.IntWalk.i64_left]
  unfold i64 wrap64
  split <;> omega
section
variable {w : World} {g ab be : Nat} {xs : List Int}
theorem int1_bad (h : EyeIs w g ab xs false) (he : w.cell? ⟨be, 0, none⟩ = some (ptr g)) (hl : xs.length < 8) : Calls Try.prog 34 #[ptr be] w fun e w' => e = .panicked sightP ∧ (∃ v0, Blk w' g 68 #[v0, .bool false]) ∧ Upd w w' (· = g) := by
  have hn := number_short h 8 hl
  obtain ⟨A, c, hB, _, _⟩ := h.ex
  have HN := Lib.hid hn; have HB := Lib.hid hB
  clear h hn hB
  go_enter Try.func34, Try.ntmps34
  go_wp2_with fail
  refine HN.out.mono ?_
  rintro e w1 ⟨rfl, rfl⟩
  go_wp2_with fail
  exact ⟨rfl, rfl, ⟨_, HB.out⟩, Upd.refl _ _⟩
theorem int1_ok (h : EyeIs w g ab xs false) (hx : bytesOk xs) (he : w.cell? ⟨be, 0, none⟩ = some (ptr g)) (hl : 8 ≤ xs.length) : Calls Try.prog 34 #[ptr be] w fun e w' => e = .returned (.int .i64 (i64 (numOf xs 8))) ∧ EyeIs w' g ab (xs.drop 8) false ∧ Upd w w' (· = g) := by
  have hn := number_ok h hx 8 hl (by omega)
  have hi := i64_wrap (n := numOf xs 8) (numOf_lt hx 8)
  generalize numOf xs 8 = m at *
  have HN := Lib.hid hn
  clear h hn hx
  go_enter Try.func34, Try.ntmps34
  go_wp2_with fail
  refine HN.out.mono ?_
  rintro e w1 ⟨rfl, hE, hu⟩
  go_wp2_with fail
  go_ret
  exact ⟨rfl, hE, hu⟩
theorem entersI : ∀ args w, (callFunc 34 args).run Try.prog w = .ok (.enter 34 args) w := enters_of Try.func34 (by kernel_rfl) rfl
theorem flInt_any (s : Sight) (h : EyeIs w g ab s.1 s.2) (hx : bytesOk s.1) : Calls Try.prog 16 #[ptr g] w fun e w' => e = .returned (.int .i64 (sInt s).1) ∧ EyeIs w' g ab (sInt s).2.1 (sInt s).2.2 ∧ Upd w w' (· = g) := by
  obtain ⟨xs, bl⟩ := s
  obtain ⟨w1, hw1⟩ : ∃ w1, w.alloc (.cells #[ptr g] 42) = w1 := ⟨_, rfl⟩
  have hb1 : Below w.heap.size w w1 := hw1 ▸ (Below.refl _ _).alloc (Nat.le_refl _) _
  have h0B : Blk w1 w.heap.size 42 #[ptr g] := hw1 ▸ Blk.new w 42 #[ptr g]
  have h0 : w1.cell? ⟨w.heap.size, 0, none⟩ = some (ptr g) := h0B.cell 0
  have h1 := h.below hb1
  have hlt := h.lt
  have hmf : ∀ (fn : Fn) (first cap : Array Value) (w : World), (Instr.makeFunc fn first cap).run Try.prog w = .ok (.func fn first cap) w := fun _ _ _ _ => rfl
  have hs : Calls Try.prog 33 #[ptr g, .func (.func 34) #[] #[ptr w.heap.size]] w1 fun e w' => e = .returned (.int .i64 (sInt (xs, bl)).1) ∧ EyeIs w' g ab (sInt (xs, bl)).2.1 (sInt (xs, bl)).2.2 ∧ Upd w1 w' (· = g) := by
    cases bl with
    | true =>
      rw [sInt_bad (.inl rfl)]
      exact (seeI_blind h1 _ _ _).mono fun e w' ⟨he, hb⟩ => ⟨he, h1.below hb, Upd.of_below hb _⟩
    | false =>
      by_cases hl : xs.length < 8
      · rw [sInt_bad (.inr hl)]
        exact seeI_bad h1 34 _ entersI fun W hE hb => int1_bad hE (pw_cell_below (hb) h0) hl
      · rw [sInt_ok (by omega)]
        exact seeI_ok h1 34 _ entersI _ fun W hE hb => int1_ok hE hx (pw_cell_below hb h0) (by omega)
  have HS := Lib.hid hs; have HB := Lib.hid hb1
  clear h h0B h1 hs hb1
  generalize sInt (xs, bl) = r at *
  go_enter Try.func16, Try.ntmps16
  go_wp2_with fail
  refine HS.out.mono ?_
  rintro e w2 ⟨rfl, hE, hu⟩
  go_wp2_with fail
  go_ret
  exact ⟨rfl, hE, (Upd.of_below HB.out _).trans hu⟩
theorem flDone_any (s : Sight) (h : EyeIs w g ab s.1 s.2) : Calls Try.prog 18 #[ptr g] w fun e w' => e = .returned (.int .i64 (if s.2 = true ∨ s.1.length ≠ 0 then 20 else 0)) ∧ w' = w := by
  obtain ⟨xs, bl⟩ := s
  obtain ⟨A, c, hB, _, _⟩ := h.ex
  have hc0 : w.cell? ⟨g, 0, none⟩ = some (.slice A xs.length c) := hB.cell 0
  have hc1 : w.cell? ⟨g, 1, none⟩ = some (.bool bl) := hB.cell 1
  clear h hB
  go_enter Try.func18, Try.ntmps18
  cases bl with
  | true =>
    rw [if_pos (.inl rfl)]
    go_wp2
    go_ret
    exact ⟨rfl, rfl⟩
  | false =>
    by_cases hl : xs.length = 0
    · rw [if_neg (by simp [hl])]
      have d1 : decide ((0 : Int) < (xs.length : Int)) = false := decide_eq_false (by omega)
      go_wp2
      go_ret
      exact ⟨rfl, rfl⟩
    · rw [if_pos (.inr hl)]
      have d1 : decide ((0 : Int) < (xs.length : Int)) = true := decide_eq_true (by omega)
      go_wp2
      go_ret
      exact ⟨rfl, rfl⟩
theorem flOpen_any (A : Option Addr) (c : Nat) (xs : List Int) (w : World) (hr : ReadsInt w .u8 A xs.length xs) (hb : xs.length * 1 ≤ 140737488355328) :
    Calls Try.prog 15 #[.slice A xs.length c] w fun e w' => ∃ g ab, e = .returned (ptr g) ∧ w.heap.size ≤ g ∧ w.heap.size ≤ ab ∧ EyeIs w' g ab xs false ∧ Below w.heap.size w w' := by
  have hcl := bclone_any A c xs w hr hb
  have HCL := Lib.hid hcl
  clear hr hb hcl
  go_enter Try.func15, Try.ntmps15
  go_wp2_with fail
  refine HCL.out.mono ?_
  rintro e w1 ⟨v, rfl, ho, hb1⟩
  have HO := Lib.hid (And.intro ho hb1)
  obtain ⟨A1, c1, rfl, _⟩ := own_reads ho
  clear ho hb1 HCL
  go_wp2_with fail
  go_ret
  obtain ⟨ho, hb1⟩ := HO.out
  obtain ⟨w2, hw2⟩ : ∃ w2, w1.alloc (.cells #[.slice A1 xs.length c1, .bool false] 68) = w2 := ⟨_, rfl⟩
  rw [hw2]
  have hb2 : Below w1.heap.size w1 w2 := hw2 ▸ (Below.refl _ _).alloc (Nat.le_refl _) _
  have hB2 : Blk w2 w1.heap.size 68 #[.slice A1 xs.length c1, .bool false] := hw2 ▸ Blk.new w1 68 _
  have hE : ∃ ab, w.heap.size ≤ ab ∧ EyeIs w2 w1.heap.size ab xs false := by
    obtain ⟨A0, c0, e0, hrd⟩ := own_reads ho
    injection e0 with e1 e2 e3
    subst e1 e3
    by_cases hx : xs = []
    · subst hx
      refine ⟨w1.heap.size, hb1.size, .inr rfl, hB2.lt, A1, c1, hB2, by simp, F_zero _⟩
    · have hcc : xs.length ≤ c1 := by
        obtain ⟨_, h⟩ := ho
        rcases h with ⟨e, hn⟩ | ⟨g', cap, cur, e, h1, h2, h3, _⟩
        · exact absurd (List.eq_nil_of_length_eq_zero hn) hx
        · injection e with _ _ e; omega
      obtain ⟨ad, hA, hcell⟩ := hrd.2.2 (by have := List.length_pos_iff.2 hx; omega)
      subst hA
      have hlt : ad.block < w1.heap.size := by
        have := hcell 0 (List.length_pos_iff.2 hx)
        exact World.block_lt_of_cell? w1 _ this
      refine ⟨ad.block, (ho.ge ad.block rfl).1, .inl (by omega), Nat.lt_of_lt_of_le hlt hb2.size, some ad, c1, hB2, hcc, ?_⟩
      intro W hW
      refine C_of_int ⟨hrd.1, hrd.2.1, fun hn => ⟨ad, rfl, fun j hj => ?_⟩⟩
      have hj' := (hrd.below hb2).2.2 hn
      obtain ⟨ad', e, h⟩ := hj'
      injection e with e
      subst e
      have hc := h j hj
      have hbl : (ad.add j).block = ad.block := by unfold Addr.add; split <;> rfl
      exact (World.cell?_of_block (w := w2) (hW _ hbl (World.block_lt_of_cell? w2 _ hc))).trans hc
  obtain ⟨ab, hab, hE⟩ := hE
  exact ⟨w1.heap.size, ab, rfl, hb1.size, hab, hE, hb1.trans (hb2.mono hb1.size)⟩
end
end Go.Proofs.Ytaedlmeaconflaa.P
end
section
set_option linter.unusedVariables false
set_option linter.unusedSimpArgs false
namespace Go.Proofs.Ytaedlmeaconflaa.P
open Go.RowKit Go.Sort Go.Shelf Go.Proofs.YtaedlmeaconflaaW.PrintWords Go.Proofs.YtaedlmeaconflaaW.PrintLast Go.Proofs.YtaedlmeaconflaaW.PrintMore
instance : Inhabited S33 := ⟨z33⟩
theorem flat_enc2 (xs : List S33) : flatK encS 2 xs.toArray = (enc2 (xs.map pS)).toArray := by
  refine ext_get! (by simp [enc2_len]) fun t ht => ?_
  have ht' : t < xs.length * 2 := by simpa using ht
  rw [get_flatK _ _ _ _ (by simpa using ht')]
  have hj : t / 2 < xs.length := by omega
  have h := enc2_at (xs.map pS) (t / 2)
  rw [List.getElem?_map, List.getElem?_eq_getElem hj] at h
  have e : (xs.toArray)[t / 2]! = xs[t / 2] := by simp [hj]
  rw [e]
  rcases Nat.mod_two_eq_zero_or_one t with h2 | h2
  · have e2 : t / 2 * 2 = t := by omega
    rw [e2] at h
    rw [h2]
    simp [h.1]
  · have e2 : t / 2 * 2 + 1 = t := by omega
    rw [e2] at h
    rw [h2]
    simp [h.2]
theorem putCells_take (F : Array Value) (c : Array Value) (h : F.size ≤ c.size) : (putCells id 0 F c).size = c.size ∧ (putCells id 0 F c).toList.take F.size = F.toList := by
  refine ⟨by simp [putCells], ?_⟩
  apply List.ext_getElem
  · simp [putCells, h]
  · intro i h1 h2
    have hi : i < F.size := by simpa using h2
    simp [putCells, hi]
theorem heap_sortW {w : World} {g n : Nat} {cur : Array Value} {e : TypeId} {d : Array S33} {os : Array Obj} (hg : w.heap[g]? = some (.cells cur e (0, 0))) :
    (sortWorldK encS 2 w g 0 n d os).heap[g]? = some (.cells (putCells id 0 (flatK encS 2 d) cur) e (0, 0)) := by
  have hlt := (Array.getElem?_eq_some_iff.1 hg).1
  unfold sortWorldK putRowK putRow mapBlock grow
  simp only [heap_ahead]
  rw [Array.getElem?_append_left (by simpa using hlt), Array.getElem?_modify, if_pos rfl, hg]
  rfl
theorem upd_sortW (w : World) (g n : Nat) (d : Array S33) (os : Array Obj) : Upd w (sortWorldK encS 2 w g 0 n d os) (· = g) := by
  refine ⟨rfl, rfl, rfl, ?_, fun k hk hs => ?_⟩
  · unfold sortWorldK putRowK; rw [size_grow, size_putRow]; exact Nat.le_add_right _ _
  · unfold sortWorldK putRowK putRow mapBlock grow
    simp only [heap_ahead]
    rw [Array.getElem?_append_left (by simpa using hk), Array.getElem?_modify, if_neg (fun e => hs e.symm)]
theorem aggS (w : World) : (isAgg 33).run Try.prog w = .ok true w := by go_simp
theorem sizeS (w : World) : (Go.sizeOf 33).run Try.prog w = .ok 2 w := by go_simp
def sortS (xs : List S33) : List S33 := xs.mergeSort fun x y => !(ltOf cmpS) y x
theorem sortS_len (xs : List S33) : (sortS xs).length = xs.length := List.length_mergeSort _
theorem ssort_any {base : Nat} {v : Value} {xs : List S33} {w : World} (ho : RowS w base v xs) (hl : xs.length < 4611686018427387904) :
    Calls Try.prog 51 #[v, .func (.func 24) #[] #[]] w fun e w' => e = .returned (.tuple #[]) ∧ RowS w' base v (sortS xs) ∧ Upd w w' (fun k => v.ownBlock = some k) := by
  rcases ho.2 with ⟨rfl, h0⟩ | ⟨g, cap, cur, rfl, hb, hg, h1, h2, h3, h4⟩
  · obtain rfl : xs = [] := List.eq_nil_of_length_eq_zero h0
    exact (AnyF.slices_SortFunc_none Try.shSortF none 0 _ w).mono fun e w' ⟨he, hw⟩ => ⟨he, by rw [hw, show sortS [] = [] from by simp [sortS]]; exact ho, by rw [hw]; exact Upd.refl _ _⟩
  · have eg : ∀ args w, (callFunc 24 args).run Try.prog w = .ok (.enter 24 args) w := enters_of Try.func24 (by kernel_rfl) rfl
    have hH : HoldsK encS 2 w g 0 xs.toArray := by
      unfold HoldsK
      rw [flat_enc2]
      intro j hj
      have hj' : j < xs.length * 2 := by simpa [enc2_len] using hj
      rw [Nat.zero_add]
      refine ⟨?_, World.ownsRow.frozenAt ho j⟩
      rw [World.ownsRow.cellAt ho j hj', List.getElem?_eq_getElem (by rw [enc2_len, List.length_map]; exact hj')]
      simp [enc2_len, hj']
    have hcmp : CmpLays Try.prog 24 #[] encS 2 cmpS g 0 xs.toArray.size w := fun _ _ _ _ x y => stCompare_any x y _
    refine (AnyQ.slices_SortFunc_total Try.shSortF 2 aggS sizeS encS (fun _ => rfl) (fun x v hv => by simp at hv; rcases hv with rfl | rfl <;> rfl) cmpS swoS 24 #[] g 0 cap xs.toArray w eg hcmp hH (Array.getElem?_eq_some_iff.1 hg).1 (by simpa using hl) totS).mono fun e w' ⟨he, n, os, hw⟩ => ⟨he, ?_, ?_⟩
    · have hm : (sortS xs).length = xs.length := sortS_len xs
      refine ⟨by rw [enc2_len, List.length_map], .inr ⟨g, cap, _, by rw [hm], hb, by rw [hw]; exact heap_sortW hg, by rw [hm]; exact h1, h2, ?_, ?_⟩⟩
      · rw [(putCells_take _ _ ?_).1]; exact h3
        simp [h3]; omega
      · have := (putCells_take (flatK encS 2 (sortS xs).toArray) cur (by simp [h3, hm]; omega)).2
        rw [size_flatK, flat_enc2] at this
        rw [hm]
        show List.take _ (putCells id 0 (flatK encS 2 (sortS xs).toArray) cur).toList = _
        rw [flat_enc2]
        simpa [hm] using this
    · rw [hw]
      exact (upd_sortW w g n _ os).mono fun k _ hk => by simp [Value.ownBlock, hk]
end Go.Proofs.Ytaedlmeaconflaa.P
end
section
set_option linter.unusedVariables false
set_option linter.unusedSimpArgs false
namespace Go.Proofs.Ytaedlmeaconflaa.P
open Go.RowKit Go.Sort Go.Shelf Go.Proofs.YtaedlmeaconflaaW.PrintWords Go.Proofs.YtaedlmeaconflaaW.PrintLast Go.Proofs.YtaedlmeaconflaaW.PrintMore
theorem S_ext {a b : S33} : a = b ↔ a.f0 = b.f0 ∧ a.f1 = b.f1 := by
  obtain ⟨a0, a1⟩ := a
  obtain ⟨b0, b1⟩ := b
  simp
instance : DecidableEq S33 := fun a b => decidable_of_iff (a.f0 = b.f0 ∧ a.f1 = b.f1) S_ext.symm
def cmpc (xs : List S33) : Nat → List S33
  | 0 => []
  | n + 1 => cmpc xs n ++ (if n = 0 ∨ xs[n]? ≠ xs[n - 1]? then xs[n]?.toList else [])
def compS (xs : List S33) : List S33 := cmpc xs xs.length
theorem eqSt (d : Nat) (w : World) (x y : S33) :
    (Op.equalIn (d + 2) 33 (.agg #[.int .i64 x.f0, .int .i64 x.f1]) (.agg #[.int .i64 y.f0, .int .i64 y.f1])).run Try.prog w = .ok (decide (x = y)) w := by
  rw [show decide (x = y) = (x.f0 == y.f0 && (x.f1 == y.f1)) by
    rw [Bool.eq_iff_iff]; simp [S_ext]]
  refine eqA_of Try.underlying33 (by kernel_rfl) ?_
  refine eqf_cons (by rfl) (by go_simp; rfl) (by go_simp; rfl) (by go_simp) ?_
  exact eqf_last (by rfl) (by go_simp; rfl) (by go_simp; rfl) (by go_simp)
attribute [local go_sem high] eqSt
structure CInv (xs ys : List S33) (k j : Nat) : Prop where
  len : ys.length = xs.length
  lt : k < j
  le : j ≤ xs.length
  low : ys.take k = cmpc xs j
  high : ys.drop k = xs.drop k
theorem CInv.get {xs ys : List S33} {k j i : Nat} (h : CInv xs ys k j) (hi : k ≤ i) : ys[i]? = xs[i]? := by
  have h1 : (ys.drop k)[i - k]? = (xs.drop k)[i - k]? := by rw [h.high]
  rw [List.getElem?_drop, List.getElem?_drop, show k + (i - k) = i by omega] at h1
  exact h1
theorem CInv.skip {xs ys : List S33} {k j : Nat} (h : CInv xs ys k j) (hj : j < xs.length) (he : xs[j]? = xs[j - 1]?) : CInv xs ys k (j + 1) where
  len := h.len
  lt := Nat.lt_succ_of_lt h.lt
  le := hj
  low := by
    have := h.lt
    rw [cmpc, if_neg (by rintro (h0 | h0); omega; exact h0 he), List.append_nil]; exact h.low
  high := h.high
theorem CInv.keep {xs ys : List S33} {k j : Nat} (h : CInv xs ys k j) (hj : j < xs.length) (he : xs[j]? ≠ xs[j - 1]?) : CInv xs (ys.set k xs[j]) (k + 1) (j + 1) where
  len := by rw [List.length_set]; exact h.len
  lt := Nat.succ_lt_succ h.lt
  le := hj
  low := by
    have hk : k < (ys.set k xs[j]).length := by rw [List.length_set, h.len]; have := h.lt; omega
    rw [List.take_succ_eq_append_getElem hk, List.getElem_set_self, List.take_set_of_le (Nat.le_refl _), h.low, cmpc, if_pos (.inr he), List.getElem?_eq_getElem hj]
    rfl
  high := by
    rw [List.drop_set_of_lt (by omega), ← List.drop_drop, h.high, List.drop_drop]
theorem CInv.start {xs : List S33} {k : Nat} (hk : k < xs.length) (h1 : 1 ≤ k) (hc : cmpc xs k = xs.take k) (he : xs[k]? = xs[k - 1]?) : CInv xs xs k (k + 1) where
  len := rfl
  lt := Nat.lt_succ_self _
  le := hk
  low := by rw [cmpc, if_neg (by rintro (h0 | h0); omega; exact h0 he), List.append_nil, hc]
  high := rfl
theorem cmpc_next {xs : List S33} {k : Nat} (hk : k < xs.length) (hc : cmpc xs k = xs.take k) (he : xs[k]? ≠ xs[k - 1]?) : cmpc xs (k + 1) = xs.take (k + 1) := by
  rw [cmpc, if_pos (.inr he), hc, List.take_succ_eq_append_getElem hk, List.getElem?_eq_getElem hk]
  rfl
theorem CInv.done {xs ys : List S33} {k : Nat} (h : CInv xs ys k xs.length) : ys.take k = compS xs := h.low
theorem CInv.size {xs ys : List S33} {k : Nat} (h : CInv xs ys k xs.length) : (compS xs).length = k := by
  rw [← h.done, List.length_take, h.len]; have := h.lt; omega
theorem zeroCells_one (z : Value) (n : Nat) (a b : Value) (hz : z.cells = #[a, b]) (ha : a.oneCell' = true) (hb : b.oneCell' = true) : (Builtin.zeroCells z.cells n).toList.length = n * 2 ∧ ∀ v ∈ (Builtin.zeroCells z.cells n).toList, v.oneCell' = true := by
  rw [hz]
  constructor
  · simp [Builtin.zeroCells]
  · intro v hv
    unfold Builtin.zeroCells at hv
    rw [Array.mem_toList_iff, Array.mem_map] at hv
    obtain ⟨i, _, rfl⟩ := hv
    have : i % (#[a, b] : Array Value).size = 0 ∨ i % (#[a, b] : Array Value).size = 1 := Nat.mod_two_eq_zero_or_one i
    rcases this with h | h
    · rw [h]; exact ha
    · rw [h]; exact hb
theorem run_clear2 {P : Program} (w : World) (t e ty : TypeId) (z a' b' : Value) (ht : P.underlying t = some (.slice e)) (hv : ∀ w, (zeroValue e).run P w = .ok z w) (hz : z.cells = #[a', b']) (ha : a'.oneCell' = true) (hb : b'.oneCell' = true) (b o n c : Nat) (hn : 0 < n)
    (hc : ∀ j, j < n * 2 → (w.cell? ⟨b, o + j, none⟩).isSome = true) (hf : ∀ j, j < n * 2 → w.frozen? ⟨b, o + j, none⟩ = false) :
    (Builtin.clear_ #[t] ty #[.slice (some ⟨b, o, none⟩) n c]).run P w = .ok (.tuple #[]) (w.setCells b o (Builtin.zeroCells z.cells n).toList) := by
  obtain ⟨hl, h1⟩ := zeroCells_one z n a' b' hz ha hb
  have hst := run_storeCells_cells (P := P) b o (Builtin.zeroCells z.cells n).toList 0 w (by rw [hl]; simpa using hc) (by rw [hl]; simpa using hf) h1
  simp only [Nat.add_zero] at hst
  obtain ⟨m, rfl⟩ : ∃ m, n = m + 1 := ⟨n - 1, by omega⟩
  simp [Builtin.clear_, run_underlying ht, hv, hst]
theorem RowS.at_ {w : World} {base g n cap : Nat} {xs : List S33} (h : RowS w base (.slice (some ⟨g, 0, none⟩) n cap) xs) (i : Nat) (x : S33) (hx : xs[i]? = some x) :
    w.cell? ⟨g, i * 2, none⟩ = some (.int .i64 x.f0) ∧ w.cell? ⟨g, i * 2 + 1, none⟩ = some (.int .i64 x.f1) ∧ w.frozen? ⟨g, i * 2, none⟩ = false ∧ w.frozen? ⟨g, i * 2 + 1, none⟩ = false := by
  obtain rfl : n = xs.length := by
    obtain ⟨_, _, e⟩ := own_slice h
    injection e
  have hl := (List.getElem?_eq_some_iff.1 hx).1
  have hE := enc2_at (xs.map pS) i
  rw [List.getElem?_map, hx] at hE
  exact ⟨(World.ownsRow.cellAt h (i * 2) (by omega)).trans hE.1, (World.ownsRow.cellAt h (i * 2 + 1) (by omega)).trans hE.2, World.ownsRow.frozenAt h _, World.ownsRow.frozenAt h _⟩
theorem RowS.store {w : World} {base g n cap : Nat} {xs : List S33} (h : RowS w base (.slice (some ⟨g, 0, none⟩) n cap) xs) (i : Nat) (x : S33) :
    RowS ((w.setCell ⟨g, i * 2, none⟩ (.int .i64 x.f0)).setCell ⟨g, i * 2 + 1, none⟩ (.int .i64 x.f1)) base (.slice (some ⟨g, 0, none⟩) n cap) (xs.set i x) := by
  obtain rfl : n = xs.length := by
    obtain ⟨_, _, e⟩ := own_slice h
    injection e
  have h1 := (World.ownsRow.stored h (i * 2) (.int .i64 x.f0)).1
  have h2 := (World.ownsRow.stored h1 (i * 2 + 1) (.int .i64 x.f1)).1
  rw [enc2_set] at h2
  unfold RowS
  rw [List.length_set, List.map_set]
  exact h2
theorem wrapI (x : Int) {y : Int} (h : x = y) (h0 : 0 ≤ x) (h1 : x < 9223372036854775808) : IntKind.i64.wrap x = y := by
  subst h
  simp [IntKind.wrap, IntKind.bits, IntKind.signed]; omega
set_option maxHeartbeats 2000000 in
set_option maxRecDepth 100000 in
theorem scompact_any {base : Nat} {v : Value} {xs : List S33} {w : World} (ho : RowS w base v xs) :
    Calls Try.prog 52 #[v] w fun e w' => ∃ v', e = .returned v' ∧ RowS w' base v' (compS xs) ∧ Upd w w' (fun k => v.ownBlock = some k) := by
  by_cases h2 : xs.length < 2
  · have hc : compS xs = xs := by
      rcases xs with _ | ⟨x, _ | ⟨y, xs⟩⟩
      · rfl
      · simp [compS, cmpc]
      · simp at h2; omega
    rw [hc]
    obtain ⟨A, c, rfl⟩ := own_slice ho
    have d2 : decide ((xs.length : Int) < 2) = true := decide_eq_true (by omega)
    have HO := Lib.hid ho
    clear ho
    go_enter Try.func52, Try.ntmps52
    go_wp2
    go_ret
    exact ⟨_, rfl, HO.out, Upd.refl _ _⟩
  · obtain ⟨g, cap, rfl, hbg, hgl⟩ := World.ownsRow.form ho (by omega)
    have hcap : xs.length ≤ cap ∧ cap ≤ 9223372036854775807 := by
      rcases ho.2 with ⟨h, _⟩ | ⟨g', cap', cur, h, _, _, h1, h2, _⟩
      · cases h
      · injection h with _ _ h
        subst h
        exact ⟨h1, by simpa [maxLen] using h2⟩
    obtain ⟨hcap1, hcap2⟩ := hcap
    have HO := Lib.hid ho
    clear ho
    go_enter Try.func52, Try.ntmps52
    go_wp2
    go_loopw [3] (fun sk wr => ∃ m : Nat, sk = .int .i64 ((m + 1 : Nat) : Int) ∧ m + 1 ≤ xs.length ∧ RowKit.Hid (cmpc xs (m + 1) = xs.take (m + 1)) ∧ RowKit.Hid (RowS wr base (.slice (some ⟨g, 0, none⟩) xs.length cap) xs ∧ Upd w wr (· = g))) (fun sk _ => xs.length - (intOf sk).toNat)
    case atStart => exact ⟨0, rfl, by omega, Lib.hid (by
      rcases xs with _ | ⟨x, xs⟩
      · simp at h2
      · simp [cmpc]), Lib.hid ⟨HO.out, Upd.refl _ _⟩⟩
    case round =>
      obtain ⟨m, rfl, hm, HC, HR⟩ := hrel
      by_cases hlt : m + 1 < xs.length
      · obtain ⟨x, hx⟩ : ∃ x, xs[m + 1]? = some x := ⟨_, List.getElem?_eq_getElem hlt⟩
        obtain ⟨y, hy⟩ : ∃ y, xs[m]? = some y := ⟨_, List.getElem?_eq_getElem (by omega)⟩
        obtain ⟨x0, x1, _, _⟩ := HR.out.1.at_ (m + 1) x hx
        obtain ⟨y0, y1, _, _⟩ := HR.out.1.at_ m y hy
        have HX := Lib.hid hx; have HY := Lib.hid hy
        clear hx hy
        have hw1 : IntKind.i64.wrap (((m + 1 : Nat) : Int) - 1) = (m : Int) := wrapI _ (by omega) (by omega) (by omega)
        by_cases he : x = y
        · have de : decide (x = y) = true := decide_eq_true he
          go_wp2_with fail
          go_quiet (fail)
          go_wp2
          have HI := Lib.hid (CInv.start hlt (by omega) HC.out (by rw [HX.out, Nat.add_sub_cancel, HY.out, he]))
          clear x0 x1 y0 y1 hw1 de he
          go_loopw [3, 5] (fun sk s5 wt => ∃ (k j2 : Nat) (ys : List S33), sk = .int .i64 (k : Int) ∧ s5 = .int .i64 ((j2 + 1 : Nat) : Int) ∧ m + 1 + (j2 + 1) ≤ xs.length ∧ k < m + 1 + (j2 + 1) ∧ RowKit.Hid (CInv xs ys k (m + 1 + (j2 + 1))) ∧ RowKit.Hid (RowS wt base (.slice (some ⟨g, 0, none⟩) xs.length cap) ys ∧ Upd w wt (· = g))) (fun _ s5 _ => xs.length - (intOf s5).toNat)
          case atStart => exact ⟨m + 1, 0, xs, rfl, rfl, by omega, by omega, HI, Lib.hid ⟨HR.out.1, HR.out.2.drewN _⟩⟩
          case round =>
            obtain ⟨k, j2, ys, rfl, rfl, hj, hk, HJ, HS⟩ := hrel
            have hlen := HJ.out.len
            by_cases hlt2 : m + 1 + (j2 + 1) < xs.length
            · obtain ⟨x', hx'⟩ : ∃ x', xs[m + 1 + (j2 + 1)]? = some x' := ⟨_, List.getElem?_eq_getElem hlt2⟩
              obtain ⟨y', hy'⟩ : ∃ y', xs[m + 1 + j2]? = some y' := ⟨_, List.getElem?_eq_getElem (by omega)⟩
              obtain ⟨z', hz'⟩ : ∃ z', ys[k]? = some z' := ⟨_, List.getElem?_eq_getElem (by omega)⟩
              obtain ⟨x0, x1, _, _⟩ := HS.out.1.at_ _ x' ((HJ.out.get (by omega)).trans hx')
              obtain ⟨y0, y1, _, _⟩ := HS.out.1.at_ _ y' ((HJ.out.get (by omega)).trans hy')
              obtain ⟨_, _, q0, q1⟩ := HS.out.1.at_ _ z' hz'
              obtain ⟨c0, c1, _, _⟩ := HS.out.1.at_ _ z' hz'
              rw [show (m + 1 + (j2 + 1)) * 2 = (m + 1) * 2 + (j2 + 1) * 2 by omega] at x0 x1
              rw [show (m + 1 + j2) * 2 = (m + 1) * 2 + j2 * 2 by omega] at y0 y1
              have HX' := Lib.hid hx'; have HY' := Lib.hid hy'
              have hw2 : IntKind.i64.wrap (((j2 + 1 : Nat) : Int) - 1) = (j2 : Int) := wrapI _ (by omega) (by omega) (by omega)
              clear hx' hy' hz'
              by_cases he' : x' = y'
              · have de' : decide (x' = y') = true := decide_eq_true he'
                have HI' := Lib.hid (HJ.out.skip hlt2 (by rw [HX'.out, show m + 1 + (j2 + 1) - 1 = m + 1 + j2 by omega, HY'.out, he']))
                clear he'
                go_wp2_with fail
                go_quiet (fail)
                go_wp2
                go_roundw
                case rel => exact ⟨k, j2 + 1, ys, rfl, by go_num, by omega, by omega, Lib.hid (by have := HI'.out; rwa [show m + 1 + (j2 + 1) + 1 = m + 1 + (j2 + 1 + 1) by omega] at this), Lib.hid ⟨HS.out.1, HS.out.2.drewN _⟩⟩
                case measure => simp [intOf]; omega
              · have de' : decide (x' = y') = false := decide_eq_false he'
                have HI' := Lib.hid (HJ.out.keep hlt2 (by rw [HX'.out, show m + 1 + (j2 + 1) - 1 = m + 1 + j2 by omega, HY'.out]; intro h; injection h with h; exact he' h))
                have hxe : xs[m + 1 + (j2 + 1)] = x' := by have := HX'.out; rw [List.getElem?_eq_getElem hlt2] at this; injection this
                rw [hxe] at HI'
                clear he' hxe
                go_wp2_with fail
                go_quiet (fail)
                go_wp2
                go_roundw
                case rel => exact ⟨k + 1, j2 + 1, ys.set k x', by go_num, by go_num, by omega, by omega, Lib.hid (by have := HI'.out; rwa [show m + 1 + (j2 + 1) + 1 = m + 1 + (j2 + 1 + 1) by omega] at this), Lib.hid ⟨RowS.store (w := wr.drewN _) HS.out.1 k x', ((HS.out.2.drewN _).setCell (.inl rfl) _).setCell (.inl rfl) _⟩⟩
                case measure => simp [intOf]; omega
            · have hje : m + 1 + (j2 + 1) = xs.length := by omega
              have HF := Lib.hid (show CInv xs ys k xs.length by have := HJ.out; rwa [hje] at this)
              have hk1 : k < xs.length := by omega
              obtain ⟨vs, hcl⟩ : ∃ vs, ∀ ty, (Builtin.clear_ #[37] ty #[.slice (some ⟨g, k * 2, none⟩) (xs.length - k) (cap - k)]).run Try.prog wr = .ok (.tuple #[]) (wr.setCells g (k * 2) vs) := ⟨_, fun ty =>
                run_clear2 wr _ _ ty _ (.int .i64 0) (.int .i64 0) Try.underlying37 Try.zeroValue33 rfl rfl rfl g (k * 2) _ _ (by omega) (fun t ht => by
                  have h := World.ownsRow.cellAt (n := xs.length) (by have h := HS.out.1; unfold RowS at h; rw [hlen] at h; exact h) (k * 2 + t) (by omega)
                  rw [h, List.getElem?_eq_getElem (by rw [enc2_len, List.length_map]; omega)]; rfl) (fun t ht => World.ownsRow.frozenAt (n := xs.length) (by have h := HS.out.1; unfold RowS at h; rw [hlen] at h; exact h) _)⟩
              have hde : decide ((((j2 + 1 : Nat) : Int)) < (xs.length - (m + 1) : Nat)) = false := decide_eq_false (by omega)
              clear hje
              go_wp2
              (try simp only [Exit.inBlock, Exit.then])
              go_ret
              obtain ⟨zs, hz, ht⟩ := own_setCells vs (k * 2) wr _ (by have h := HS.out.1; unfold RowS at h; rw [hlen] at h; exact h)
              have h3 := own_take hz (m := k) (by omega)
              rw [ht, enc2_take, ← List.map_take, HF.out.done] at h3
              refine ⟨_, rfl, ?_, (HS.out.2.setCells (.inl rfl) vs (k * 2)).mono (fun q _ hq => by simp [Value.ownBlock, hq])⟩
              unfold RowS
              rw [HF.out.size]
              exact h3
        · have de : decide (x = y) = false := decide_eq_false he
          clear he
          go_wp2_with fail
          go_quiet (fail)
          go_wp2
          go_roundw
          case rel => exact ⟨m + 1, by go_num, by omega, Lib.hid (cmpc_next hlt HC.out (by rw [HX.out, Nat.add_sub_cancel, HY.out]; intro h; injection h with h; simp [h] at de)), Lib.hid ⟨HR.out.1, HR.out.2.drewN _⟩⟩
          case measure => simp [intOf]; omega
      · have hm2 : xs.length = m + 1 := by omega
        have hcs : compS xs = xs := by
          have := HC.out
          unfold compS
          rw [hm2, this, ← hm2, List.take_length]
        have hdf : decide ((((m + 1 : Nat) : Int)) < (xs.length : Nat)) = false := decide_eq_false (by omega)
        have HCS := Lib.hid hcs
        clear hcs hm2
        go_wp2
        go_ret
        exact ⟨_, rfl, by rw [HCS.out]; exact HR.out.1, HR.out.2.mono (fun q _ hq => by simp [Value.ownBlock, hq])⟩
end Go.Proofs.Ytaedlmeaconflaa.P
end
section
set_option linter.unusedVariables false
set_option linter.unusedSimpArgs false
namespace Go.Proofs.Ytaedlmeaconflaa.P
open Go.RowKit Go.Sort Go.Shelf Go.Proofs.YtaedlmeaconflaaW.PrintWords Go.Proofs.YtaedlmeaconflaaW.PrintLast Go.Proofs.YtaedlmeaconflaaW.PrintMore
def setS (xs : List S33) : List S33 := compS (sortS xs)
theorem ssortall_any (A : Option Addr) (c : Nat) (xs : List S33) (w : World) (hr : Kd.C k33 w A xs.length xs) (hb : xs.length * 16 ≤ 140737488355328) :
    Calls Try.prog 28 #[.slice A xs.length c] w fun e w' => ∃ v, e = .returned v ∧ RowS w' w.heap.size v (setS xs) ∧ Below w.heap.size w w' := by
  have HC := Lib.hid (sclone_any A c xs w hr hb)
  have HL := Lib.hid (show xs.length < 4611686018427387904 by omega)
  clear hr hb
  go_enter Try.func28, Try.ntmps28
  go_wp2_with fail
  refine HC.out.mono ?_
  rintro e w1 ⟨v1, rfl, ho, hb⟩
  have HO := Lib.hid (And.intro ho hb)
  obtain ⟨A1, c1, rfl⟩ := own_slice ho
  clear ho hb
  go_wp2_with fail
  refine (ssort_any HO.out.1 HL.out).mono ?_
  rintro e w2 ⟨rfl, ho2, hu2⟩
  have HO2 := Lib.hid (And.intro ho2 hu2)
  clear ho2 hu2
  go_wp2_with fail
  refine (scompact_any HO2.out.1).mono ?_
  rintro e w3 ⟨v3, rfl, ho3, hu3⟩
  have HO3 := Lib.hid (And.intro ho3 hu3)
  obtain ⟨A3, c3, rfl⟩ := own_slice ho3
  clear ho3 hu3
  go_wp2
  go_ret
  refine ⟨_, rfl, HO3.out.1, HO.out.2.trans ((HO2.out.2.trans HO3.out.2).below (Nat.le_of_lt_succ (Nat.lt_succ_of_le HO.out.2.size)) (fun k hk h => ?_))⟩
  have := (HO.out.1.lt k h).1
  omega
def Hand_sClone.f (l : List S33) : Option (List S33) := if l.length < 8796093022208 then some l else none
def stamp_Sort.f (l : List S33) : Option (List S33) := if l.length < 8796093022208 then some (setS l) else none
theorem Hand_sClone.calls (A0 : Option Addr) (c0 : Nat) (l0 : List S33) (r : List S33) (w : World) (hr0 : Kd.C k33 w A0 l0.length l0) (_hc0 : l0.length ≤ c0) (h : Hand_sClone.f l0 = some r) :
    Calls Try.prog 50 #[.slice A0 l0.length c0] w fun e w' => ∃ v0_ : Value, e = .returned (v0_) ∧ Kd.R k33 33 w' w.heap.size (fun _ => True) v0_ r ∧ Below w.heap.size w w' := by
  unfold Hand_sClone.f at h
  split at h
  · injection h with h
    subst h
    exact (sclone_any A0 c0 l0 w hr0 (by omega)).mono fun e w' ⟨v, he, ho, hb⟩ => ⟨v, he, ho.R, hb⟩
  · cases h
theorem stamp_Sort.calls (A0 : Option Addr) (c0 : Nat) (l0 : List S33) (r : List S33) (w : World) (hr0 : Kd.C k33 w A0 l0.length l0) (_hc0 : l0.length ≤ c0) (h : stamp_Sort.f l0 = some r) :
    Calls Try.prog 28 #[.slice A0 l0.length c0] w fun e w' => ∃ v0_ : Value, e = .returned (v0_) ∧ Kd.R k33 33 w' w.heap.size (fun _ => True) v0_ r ∧ Below w.heap.size w w' := by
  unfold stamp_Sort.f at h
  split at h
  · injection h with h
    subst h
    exact (ssortall_any A0 c0 l0 w hr0 (by omega)).mono fun e w' ⟨v, he, ho, hb⟩ => ⟨v, he, ho.R, hb⟩
  · cases h
end Go.Proofs.Ytaedlmeaconflaa.P
end
section
set_option linter.unusedVariables false
set_option linter.unusedSimpArgs false
namespace Go.Proofs.Ytaedlmeaconflaa.P
open Go.RowKit Go.Sort Go.Shelf Go.Proofs.YtaedlmeaconflaaW.PrintWords Go.Proofs.YtaedlmeaconflaaW.PrintLast Go.Proofs.YtaedlmeaconflaaW.PrintMore
theorem C_atS {w : World} {ad : Addr} {n : Nat} {xs : List S33} (h : Kd.C k33 w (some ad) n xs) (i : Nat) (hi : i < xs.length) : w.cell? (ad.add (i * 2)) = some (.int .i64 xs[i].f0) ∧ w.cell? ⟨(ad.add (i * 2)).block, (ad.add (i * 2)).off + 1, none⟩ = some (.int .i64 xs[i].f1) := by
  obtain ⟨ad', e, c0, c1⟩ := at_T33 h (i : Int) (by omega) (by have := h.1; omega)
  injection e with e
  subst e
  have er : rd_T33 xs (i : Int) = xs[i] := by
    unfold rd_T33
    rw [Int.toNat_natCast, List.getD_eq_getElem?_getD, List.getElem?_eq_getElem hi]
    rfl
  rw [er, Int.toNat_natCast] at c0 c1
  exact ⟨c0, c1⟩
end Go.Proofs.Ytaedlmeaconflaa.P
end
section
set_option linter.unusedVariables false
set_option linter.unusedSimpArgs false
namespace Go.Proofs.Ytaedlmeaconflaa.P
open Go.RowKit Go.Sort Go.Shelf Go.Proofs.YtaedlmeaconflaaW.PrintWords Go.Proofs.YtaedlmeaconflaaW.PrintLast Go.Proofs.YtaedlmeaconflaaW.PrintMore
theorem RowS.lower {w : World} {b b' : Nat} {v : Value} {xs : List S33} (h : RowS w b v xs) (hb : b' ≤ b) : RowS w b' v xs :=
  ⟨h.1, h.2.imp id fun ⟨g, cap, cur, h1, h2, h3⟩ => ⟨g, cap, cur, h1, Nat.le_trans hb h2, h3⟩⟩
end Go.Proofs.Ytaedlmeaconflaa.P
end
section
set_option linter.unusedVariables false
set_option linter.unusedSimpArgs false
namespace Go.Proofs.Ytaedlmeaconflaa.P
open Go.RowKit Go.Sort Go.Shelf Go.Proofs.YtaedlmeaconflaaW.PrintWords Go.Proofs.YtaedlmeaconflaaW.PrintLast Go.Proofs.YtaedlmeaconflaaW.PrintMore
theorem C_atD {w : World} {ad : Addr} {n : Nat} {xs : List S39} (h : Kd.C k39 w (some ad) n xs) (i : Nat) (hi : i < xs.length) : ∃ A1 c1, w.cell? (ad.add (i * 2)) = some (.int .i64 xs[i].f0) ∧ w.cell? ⟨(ad.add (i * 2)).block, (ad.add (i * 2)).off + 1, none⟩ = some (.slice A1 xs[i].f1.length c1) ∧ xs[i].f1.length ≤ c1 ∧ Kd.C k33 w A1 xs[i].f1.length xs[i].f1 := by
  obtain ⟨ad', A1, c1, e, c0, c1', hl, hC⟩ := at_T39 h (i : Int) (by omega) (by have := h.1; omega)
  injection e with e
  subst e
  have er : rd_T39 xs (i : Int) = xs[i] := by
    unfold rd_T39
    rw [Int.toNat_natCast, List.getD_eq_getElem?_getD, List.getElem?_eq_getElem hi]
    rfl
  rw [er, Int.toNat_natCast] at c0 c1'
  rw [er] at hl hC
  exact ⟨A1, c1, c0, c1', hl, hC⟩
theorem infoD : (Try.prog.info? 39).map (fun i => (i.zero, i.size, i.bytes)) = some (some (.agg #[(.int .i64 0), (.slice none 0 0)]), 2, 32) := by kernel_rfl
end Go.Proofs.Ytaedlmeaconflaa.P
end
section
set_option linter.unusedVariables false
set_option linter.unusedSimpArgs false
namespace Go.Proofs.Ytaedlmeaconflaa.P
open Go.RowKit Go.Proofs.YtaedlmeaconflaaW.PrintWords Go.Proofs.YtaedlmeaconflaaW.PrintLast Go.Proofs.YtaedlmeaconflaaW.PrintMore
attribute [local go_sem] max2_int min2_int max_two min_two max_three min_three max_four min_four   -- for this text's walks alone
set_option linter.unusedVariables false
set_option linter.unusedSimpArgs false
theorem eqA33 (d : Nat) (w : World) (x0 y0 : Int) (x1 y1 : Int) :
  (Op.equalIn (d + 2) 33 (.agg #[.int .i64 x0, .int .i64 x1]) (.agg #[.int .i64 y0, .int .i64 y1])).run Try.prog w = .ok (x0 == y0 && (x1 == y1)) w := by
 refine eqA_of Try.underlying33 (by kernel_rfl) ?_
 refine eqf_cons (by rfl) (by go_simp; rfl) (by go_simp; rfl) (by go_simp) ?_
 exact eqf_last (by rfl) (by go_simp; rfl) (by go_simp; rfl) (by go_simp)
end Go.Proofs.Ytaedlmeaconflaa.P
end
section
set_option linter.unusedVariables false
set_option linter.unusedSimpArgs false
namespace Go.Proofs.Ytaedlmeaconflaa.P
open Go.RowKit Go.Proofs.YtaedlmeaconflaaW.PrintWords Go.Proofs.YtaedlmeaconflaaW.PrintLast Go.Proofs.YtaedlmeaconflaaW.PrintMore
attribute [local go_sem] max2_int min2_int max_two min_two max_three min_three max_four min_four   -- for this text's walks alone
set_option linter.unusedVariables false
set_option linter.unusedSimpArgs false
attribute [local go_sem high] eqA33
def api_Stamp.l0 : Nat → List (S33) → List (S33) → Int → Int → Option (Bool)
 | 0, _, _, _, _ => none
 | k + 1, x0, x1, x12, x13 => if x13 < x12 then (if 0 ≤ x13 then (if x13 < (x0.length : Int) then (if x13 < (x1.length : Int) then (if (!(((rd_T33 x0 x13).f0) == ((rd_T33 x1 x13).f0)) || (!(((rd_T33 x0 x13).f1) == ((rd_T33 x1 x13).f1)))) = true then (some false) else (api_Stamp.l0 k x0 x1 x12 (wrap64 (x13 + 1)))) else (none)) else (none)) else (none)) else (some true)
def api_Stamp.f (k : Nat) (l0 : List (S33)) (l1 : List (S33)) : Option (Bool) := if (l0.length : Int) = (l1.length : Int) then (api_Stamp.l0 k l0 l1 (l0.length : Int) 0) else (some false)
set_option maxHeartbeats 8000000 in
set_option maxRecDepth 100000 in
theorem api_Stamp.calls (k : Nat) (A0 : Option Addr) (c0 : Nat) (l0 : List (S33)) (A1 : Option Addr) (c1 : Nat) (l1 : List (S33)) (r : Bool) (w : World) (hr0 : Kd.C k33 w A0 l0.length l0) (hc0 : l0.length ≤ c0) (hr1 : Kd.C k33 w A1 l1.length l1) (hc1 : l1.length ≤ c1) (h : api_Stamp.f k l0 l1 = some r) :
  Calls Try.prog 31 #[.slice A0 l0.length c0, .slice A1 l1.length c1] w fun e w' => e = .returned (.bool r) ∧ Drawn0 w w' := by
 have hu33 := Try.underlying33
 have HR0 := Aside0.mk hr0
 have HC0 := Aside0.mk hc0
 clear hr0 hc0
 have HR1 := Aside0.mk hr1
 have HC1 := Aside0.mk hc1
 clear hr1 hc1
 have H : (if (l0.length : Int) = (l1.length : Int) then (api_Stamp.l0 k l0 l1 (l0.length : Int) 0) else (some false)) = some r := h
 clear h
 by_cases c3 : (l0.length : Int) = (l1.length : Int)
 ·rw [if_pos c3] at H
  have c3b0 : ((l0.length : Int) == (l1.length : Int)) = true := beq_iff_eq.mpr c3
  have c3b1 : ((l0.length : Int) != (l1.length : Int)) = false := bne_eq_false_iff_eq.mpr c3
  have c3b2 : (l0.length == l1.length) = true := by first | simpa using c3 | (simp at c3 ⊢; omega)
  clear c3
  have H' := Aside0.mk H
  clear H
  go_enter Try.func31, Try.ntmps31
  go_wp2
  repeat (go_quiet (fail); try go_wp2)
  go_loopg [13] k (fun kq v13 w' => ∃ (x13_1 : Int), v13 = .int .i64 x13_1 ∧ Aside0 (api_Stamp.l0 kq l0 l1 (l0.length : Int) x13_1 = some r) ∧ Aside0 (kq ≤ k) ∧ Drawn0 w w')
  case atStart => exact ⟨(0), (by first | rfl | (simp; done) | (simp [*]; done)), H', ⟨Nat.le_refl _⟩, by repeat (first | exact Drawn0.refl _ | apply Drawn0.step)⟩
  case round =>
   clear H'
   try clear c1
   try clear p2
   try clear c3
   try clear c3b0
   try clear c3b1
   try clear c3b2
   obtain ⟨x13_1, rfl, HA, HK1, ⟨m1, rfl⟩⟩ := hrel
   cases gk with
   | zero => exact absurd HA.out (by simp [api_Stamp.l0])
   | succ k1 =>
    have H := HA.out
    clear HA
    simp only [api_Stamp.l0] at H
    by_cases c4 : x13_1 < (l0.length : Int)
    ·rw [if_pos c4] at H
     have c4b0 : decide (x13_1 < (l0.length : Int)) = true := decide_eq_true c4
     clear c4
     by_cases c5 : 0 ≤ x13_1
     ·rw [if_pos c5] at H
      have c5b0 : decide (0 ≤ x13_1) = true := decide_eq_true c5
      clear c5
      by_cases c6 : x13_1 < (l0.length : Int)
      ·rw [if_pos c6] at H
       have c6b0 : decide (x13_1 < (l0.length : Int)) = true := decide_eq_true c6
       clear c6
       by_cases c7 : x13_1 < (l1.length : Int)
       ·rw [if_pos c7] at H
        have c7b0 : decide (x13_1 < (l1.length : Int)) = true := decide_eq_true c7
        clear c7
        by_cases c8 : (!(((rd_T33 l0 x13_1).f0) == ((rd_T33 l1 x13_1).f0)) || (!(((rd_T33 l0 x13_1).f1) == ((rd_T33 l1 x13_1).f1)))) = true
        ·rw [if_pos c8] at H
         have c8b0 : (!(((rd_T33 l0 x13_1).f0) == ((rd_T33 l1 x13_1).f0)) || (!(((rd_T33 l0 x13_1).f1) == ((rd_T33 l1 x13_1).f1)))) = true := c8
         clear c8
         obtain rfl := Option.some.inj H
         have p101 : 0 ≤ (x13_1 : Int) := of_decide_eq_true (by first | (with_reducible assumption) | assumption)
         have q101 : x13_1 < (l0.length : Int) := of_decide_eq_true (by first | (with_reducible assumption) | assumption)
         obtain ⟨ad101, e101, hx101_0, hx101_1⟩ := at_T33 HR0.out x13_1 p101 q101
         cases e101
         replace p101 := eq_true p101
         replace q101 := eq_true q101
         have p102 : 0 ≤ (x13_1 : Int) := of_decide_eq_true (by first | (with_reducible assumption) | assumption)
         have q102 : x13_1 < (l1.length : Int) := of_decide_eq_true (by first | (with_reducible assumption) | assumption)
         obtain ⟨ad102, e102, hx102_0, hx102_1⟩ := at_T33 HR1.out x13_1 p102 q102
         cases e102
         replace p102 := eq_true p102
         replace q102 := eq_true q102
         go_wp2
         repeat (go_quiet (fail); try go_wp2)
         go_ret
         exact ⟨by first | rfl | (simp; done) | (simp [*]; done), by repeat (first | exact Drawn0.refl _ | apply Drawn0.step)⟩
        ·rw [if_neg c8] at H
         have c8b0 : (!(((rd_T33 l0 x13_1).f0) == ((rd_T33 l1 x13_1).f0)) || (!(((rd_T33 l0 x13_1).f1) == ((rd_T33 l1 x13_1).f1)))) = false := by simpa using c8
         clear c8
         have H' := Aside0.mk H
         clear H
         have p101 : 0 ≤ (x13_1 : Int) := of_decide_eq_true (by first | (with_reducible assumption) | assumption)
         have q101 : x13_1 < (l0.length : Int) := of_decide_eq_true (by first | (with_reducible assumption) | assumption)
         obtain ⟨ad101, e101, hx101_0, hx101_1⟩ := at_T33 HR0.out x13_1 p101 q101
         cases e101
         replace p101 := eq_true p101
         replace q101 := eq_true q101
         have p102 : 0 ≤ (x13_1 : Int) := of_decide_eq_true (by first | (with_reducible assumption) | assumption)
         have q102 : x13_1 < (l1.length : Int) := of_decide_eq_true (by first | (with_reducible assumption) | assumption)
         obtain ⟨ad102, e102, hx102_0, hx102_1⟩ := at_T33 HR1.out x13_1 p102 q102
         cases e102
         replace p102 := eq_true p102
         replace q102 := eq_true q102
         go_wp2
         repeat (go_quiet (fail); try go_wp2)
         go_roundg k1
         case measure => have := HK1.out; omega
         case rel => exact ⟨(wrap64 (x13_1 + 1)), (by first | rfl | (simp; done) | (simp [*]; done)), H', ⟨by have := HK1.out; omega⟩, by repeat (first | exact Drawn0.refl _ | apply Drawn0.step)⟩
       ·rw [if_neg c7] at H
        exact absurd H (by simp)
      ·rw [if_neg c6] at H
       exact absurd H (by simp)
     ·rw [if_neg c5] at H
      exact absurd H (by simp)
    ·rw [if_neg c4] at H
     have c4b0 : decide (x13_1 < (l0.length : Int)) = false := decide_eq_false c4
     clear c4
     obtain rfl := Option.some.inj H
     go_wp2
     repeat (go_quiet (fail); try go_wp2)
     go_ret
     exact ⟨by first | rfl | (simp; done) | (simp [*]; done), by repeat (first | exact Drawn0.refl _ | apply Drawn0.step)⟩
 ·rw [if_neg c3] at H
  have c3b0 : ((l0.length : Int) == (l1.length : Int)) = false := beq_eq_false_iff_ne.mpr c3
  have c3b1 : ((l0.length : Int) != (l1.length : Int)) = true := bne_iff_ne.mpr c3
  have c3b2 : (l0.length == l1.length) = false := by first | simpa using c3 | (simp at c3 ⊢; omega)
  obtain rfl := Option.some.inj H
  go_enter Try.func31, Try.ntmps31
  go_wp2
  repeat (go_quiet (fail); try go_wp2)
  go_ret
  exact ⟨by first | rfl | (simp; done) | (simp [*]; done), by repeat (first | exact Drawn0.refl _ | apply Drawn0.step)⟩
end Go.Proofs.Ytaedlmeaconflaa.P
end
section
set_option linter.unusedVariables false
set_option linter.unusedSimpArgs false
namespace Go.Proofs.Ytaedlmeaconflaa.P
open Go.RowKit Go.Sort Go.Shelf Go.Proofs.YtaedlmeaconflaaW.PrintWords Go.Proofs.YtaedlmeaconflaaW.PrintLast Go.Proofs.YtaedlmeaconflaaW.PrintMore
theorem D_ext {a b : S39} : a = b ↔ a.f0 = b.f0 ∧ a.f1 = b.f1 := by
  obtain ⟨a0, a1⟩ := a
  obtain ⟨b0, b1⟩ := b
  simp
instance : DecidableEq S39 := fun a b => decidable_of_iff (a.f0 = b.f0 ∧ a.f1 = b.f1) D_ext.symm
theorem rdS_nat (xs : List S33) {i : Nat} (hi : i < xs.length) : rd_T33 xs (i : Int) = xs[i] := by
  unfold rd_T33
  rw [Int.toNat_natCast, List.getD_eq_getElem?_getD, List.getElem?_eq_getElem hi]
  rfl
theorem rdD_nat (xs : List S39) {i : Nat} (hi : i < xs.length) : rd_T39 xs (i : Int) = xs[i] := by
  unfold rd_T39
  rw [Int.toNat_natCast, List.getD_eq_getElem?_getD, List.getElem?_eq_getElem hi]
  rfl
theorem wrap64_nat (i : Nat) (h : i < 9223372036854775807) : wrap64 ((i : Int) + 1) = ((i + 1 : Nat) : Int) := by
  unfold wrap64; omega
theorem eq61 (a b : List S33) (hl : a.length = b.length) (hm : a.length < 9223372036854775807) : ∀ (m i k : Nat), i + m = a.length → m < k → api_Stamp.l0 k a b (a.length : Int) (i : Int) = some (decide (a.drop i = b.drop i))
  | m, i, 0, _, h => by omega
  | 0, i, k + 1, h, _ => by
    have e1 : a.drop i = [] := List.drop_eq_nil_of_le (by omega)
    have e2 : b.drop i = [] := List.drop_eq_nil_of_le (by omega)
    rw [api_Stamp.l0, if_neg (by omega), e1, e2]
    simp
  | m + 1, i, k + 1, h, hk => by
    have hi : i < a.length := by omega
    have hj : i < b.length := by omega
    rw [api_Stamp.l0, if_pos (by omega), if_pos (by omega), if_pos (by omega), if_pos (by omega), rdS_nat a hi, rdS_nat b hj, wrap64_nat i (by omega), eq61 a b hl hm m (i + 1) k (by omega) (by omega), List.drop_eq_getElem_cons hi, List.drop_eq_getElem_cons hj]
    by_cases he : a[i] = b[i]
    · have := S_ext.1 he
      rw [if_neg (by simp [this.1, this.2]), he]
      simp only [List.cons.injEq, true_and]
    · rw [if_pos (by
        by_cases h0 : a[i].f0 = b[i].f0
        · have : a[i].f1 ≠ b[i].f1 := fun h1 => he (S_ext.2 ⟨h0, h1⟩)
          simp [this]
        · simp [h0])]
      rw [decide_eq_false (fun h => he (List.cons.inj h).1)]
theorem eq61f (a b : List S33) (hm : a.length < 9223372036854775807) : api_Stamp.f (a.length + 1) a b = some (decide (a = b)) := by
  unfold api_Stamp.f
  by_cases hl : a.length = b.length
  · rw [if_pos (by omega), show (0 : Int) = ((0 : Nat) : Int) from rfl, eq61 a b hl hm a.length 0 _ (by omega) (by omega)]
    simp
  · rw [if_neg (by omega)]
    have : a ≠ b := fun h => hl (by rw [h])
    simp [this]
theorem seq_any (A0 : Option Addr) (c0 : Nat) (a : List S33) (A1 : Option Addr) (c1 : Nat) (b : List S33) (w : World) (hr0 : Kd.C k33 w A0 a.length a) (hc0 : a.length ≤ c0) (hr1 : Kd.C k33 w A1 b.length b) (hc1 : b.length ≤ c1) (hm : a.length < 9223372036854775807) :
    Calls Try.prog 31 #[.slice A0 a.length c0, .slice A1 b.length c1] w fun e w' => e = .returned (.bool (decide (a = b))) ∧ Drawn0 w w' :=
  api_Stamp.calls _ A0 c0 a A1 c1 b _ w hr0 hc0 hr1 hc1 (eq61f a b hm)
set_option maxHeartbeats 1000000 in
theorem same1_any (x y : S39) (A0 : Option Addr) (c0 : Nat) (A1 : Option Addr) (c1 : Nat) (w : World) (hr0 : Kd.C k33 w A0 x.f1.length x.f1) (hc0 : x.f1.length ≤ c0) (hr1 : Kd.C k33 w A1 y.f1.length y.f1) (hc1 : y.f1.length ≤ c1) (hm : x.f1.length < 9223372036854775807) :
    Calls Try.prog 30 #[.agg #[.int .i64 x.f0, .slice A0 x.f1.length c0], .agg #[.int .i64 y.f0, .slice A1 y.f1.length c1]] w fun e w' => e = .returned (.bool (decide (x = y))) ∧ Below w.heap.size w w' := by
  obtain ⟨w1, hw1⟩ : ∃ w1, (w.alloc (.cells #[.int .i64 x.f0, .slice A0 x.f1.length c0] 39)).alloc (.cells #[.int .i64 y.f0, .slice A1 y.f1.length c1] 39) = w1 := ⟨_, rfl⟩
  have hB : Below w.heap.size w w1 := hw1 ▸ ((Below.refl _ _).alloc (Nat.le_refl _) _).alloc (by simp) _
  have hA0 : Blk w1 w.heap.size 39 #[.int .i64 x.f0, .slice A0 x.f1.length c0] := hw1 ▸ (Blk.new w 39 _).alloc _
  have hA1 : Blk w1 (w.heap.size + 1) 39 #[.int .i64 y.f0, .slice A1 y.f1.length c1] := by
    have := Blk.new (w.alloc (.cells #[.int .i64 x.f0, .slice A0 x.f1.length c0] 39)) 39 #[.int .i64 y.f0, .slice A1 y.f1.length c1]
    rw [hw1] at this
    simpa using this
  have a0 : w1.cell? ⟨w.heap.size, 0, none⟩ = some (.int .i64 x.f0) := hA0.cell 0
  have a1 : w1.cell? ⟨w.heap.size, 1, none⟩ = some (.slice A0 x.f1.length c0) := hA0.cell 1
  have b0 : w1.cell? ⟨w.heap.size + 1, 0, none⟩ = some (.int .i64 y.f0) := hA1.cell 0
  have b1 : w1.cell? ⟨w.heap.size + 1, 1, none⟩ = some (.slice A1 y.f1.length c1) := hA1.cell 1
  have HS := Lib.hid (fun W (h : Below w1.heap.size w1 W) => seq_any A0 c0 x.f1 A1 c1 y.f1 W (Kd.C_below (Kd.C_below hr0 hB) h) hc0 (Kd.C_below (Kd.C_below hr1 hB) h) hc1 hm)
  have HB := Lib.hid hB
  clear hA0 hA1 hr0 hr1 hB
  by_cases h0 : x.f0 = y.f0
  · have d0 : (x.f0 == y.f0) = true := beq_iff_eq.2 h0
    have e : decide (x = y) = decide (x.f1 = y.f1) := by simp [D_ext, h0]
    rw [e]
    clear e h0
    generalize decide (x.f1 = y.f1) = r at *
    go_enter Try.func30, Try.ntmps30
    go_wp2_with fail
    refine (HS.out _ (Below.refl _ _)).mono ?_
    rintro e w2 ⟨rfl, hd⟩
    have HD := Lib.hid (HB.out.trans (hd.below.mono HB.out.size))
    clear hd
    go_wp2
    go_ret
    exact ⟨rfl, HD.out⟩
  · have d0 : (x.f0 == y.f0) = false := beq_eq_false_iff_ne.2 h0
    have e : decide (x = y) = false := decide_eq_false (fun h => h0 (D_ext.1 h).1)
    rw [e]
    clear e h0
    go_enter Try.func30, Try.ntmps30
    go_wp2
    go_ret
    exact ⟨rfl, HB.out⟩
set_option maxHeartbeats 4000000 in
set_option maxRecDepth 100000 in
theorem eqf_any (A0 : Option Addr) (c0 : Nat) (a : List S39) (A1 : Option Addr) (c1 : Nat) (b : List S39) (w : World) (hr0 : Kd.C k39 w A0 a.length a) (hr1 : Kd.C k39 w A1 b.length b) (hm : ∀ x ∈ a, x.f1.length < 9223372036854775807) :
    Calls Try.prog 29 #[.slice A0 a.length c0, .slice A1 b.length c1, .func (.func 30) #[] #[]] w fun e w' => e = .returned (.bool (decide (a = b))) ∧ Below w.heap.size w w' := by
  have eg : ∀ args w, (callFunc 30 args).run Try.prog w = .ok (.enter 30 args) w := enters_of Try.func30 (by kernel_rfl) rfl
  have hlz := Kd.C_max hr0
  by_cases hl : a.length = b.length
  · obtain ⟨r, hr⟩ : ∃ r, decide (a = b) = r := ⟨_, rfl⟩
    rw [hr]
    have HR := Lib.hid (And.intro hr0 (And.intro hr1 (And.intro hm (And.intro hr hl))))
    have HLL := Lib.hid hl
    rw [← hl]
    clear hr0 hr1 hm hr hl
    go_enter Try.func29, Try.ntmps29
    go_wp2
    go_loopw [17] (fun si wr => ∃ k : Nat, si = .int .i64 (k : Int) ∧ k ≤ a.length ∧ RowKit.Hid (Below w.heap.size w wr ∧ r = decide (a.drop k = b.drop k))) (fun si _ => a.length - (intOf si).toNat)
    case atStart => exact ⟨0, rfl, by omega, Lib.hid ⟨Below.refl _ _, by simpa using HR.out.2.2.2.1.symm⟩⟩
    case round =>
      obtain ⟨k, rfl, hk, HB⟩ := hrel
      by_cases hlt : k < a.length
      · have hltb : k < b.length := by have := HLL.out; omega
        rcases A0 with _ | ad
        · exact absurd (HR.out.1.2.2 (by omega)) (by simp)
        rcases A1 with _ | ae
        · exact absurd (HR.out.2.1.2.2 (by omega)) (by simp)
        obtain ⟨Ax, cx, x0, x1, hcx, hCx⟩ := C_atD (Kd.C_below HR.out.1 HB.out.1) k hlt
        obtain ⟨Ay, cy, y0, y1, hcy, hCy⟩ := C_atD (Kd.C_below HR.out.2.1 HB.out.1) k hltb
        have hxm := HR.out.2.2.1 _ (List.getElem_mem hlt)
        have hcall := fun W (h : Below wr.heap.size wr W) => same1_any a[k] b[k] Ax cx Ay cy W (Kd.C_below hCx h) hcx (Kd.C_below hCy h) hcy hxm
        have hq := HB.out.2
        rw [List.drop_eq_getElem_cons hlt, List.drop_eq_getElem_cons hltb] at hq
        have hq' : r = (decide (a[k] = b[k]) && decide (a.drop (k + 1) = b.drop (k + 1))) := by rw [hq]; simp only [List.cons.injEq, Bool.decide_and]
        clear hxm hCx hCy hcx hcy hq
        generalize a[k] = x at *
        generalize b[k] = y at *
        obtain ⟨xa, xb⟩ := x
        obtain ⟨ya, yb⟩ := y
        obtain ⟨q, hqq⟩ : ∃ q, decide ((⟨xa, xb⟩ : S39) = ⟨ya, yb⟩) = q := ⟨_, rfl⟩
        rw [hqq] at hq' hcall
        have HC := Lib.hid hcall; have HQ := Lib.hid hq'
        clear hcall hq' hqq
        have y0a := fun o => cellA y0 o
        have y1a := fun o => cellA y1 o
        cases q with
        | true =>
          go_wp2_with (go_at_fn 30; refine (HC.out _ (((Below.refl _ _).alloc (Nat.le_refl _) _).alloc (by simp) _)).mono ?_; rintro e w2 ⟨rfl, hb2⟩)
          go_roundw
          case rel => exact ⟨k + 1, by go_num, by omega, Lib.hid ⟨HB.out.1.trans ((((Below.refl wr.heap.size wr).alloc (Nat.le_refl _) _).alloc (by simp) _ |>.trans (hb2.mono (by simp; omega))).mono HB.out.1.size), by rw [HQ.out]; rfl⟩⟩
          case measure => simp [intOf]; omega
        | false =>
          go_wp2_with (go_at_fn 30; refine (HC.out _ (((Below.refl _ _).alloc (Nat.le_refl _) _).alloc (by simp) _)).mono ?_; rintro e w2 ⟨rfl, hb2⟩)
          go_ret
          exact ⟨by rw [HQ.out]; rfl, HB.out.1.trans ((((Below.refl wr.heap.size wr).alloc (Nat.le_refl _) _).alloc (by simp) _ |>.trans (hb2.mono (by simp; omega))).mono HB.out.1.size)⟩
      · obtain rfl : k = a.length := by omega
        go_wp2
        go_ret
        have := HB.out.2
        rw [List.drop_length, show b.drop a.length = [] from List.drop_eq_nil_of_le (by have := HR.out.2.2.2.2; omega)] at this
        exact ⟨by rw [this]; rfl, HB.out.1⟩
  · have dl : ((a.length : Int) == (b.length : Int)) = false := beq_eq_false_iff_ne.2 (by omega)
    have : decide (a = b) = false := decide_eq_false (fun h => hl (by rw [h]))
    rw [this]
    clear this hl hr0 hr1 hm
    go_enter Try.func29, Try.ntmps29
    go_wp2
    go_ret
    exact ⟨rfl, Below.refl _ _⟩
def deps_Same.f (a b : List S39) : Option Bool := if (∀ x ∈ a, x.f1.length < 9223372036854775807) then some (decide (a = b)) else none
theorem deps_Same.calls (A0 : Option Addr) (c0 : Nat) (l0 : List S39) (A1 : Option Addr) (c1 : Nat) (l1 : List S39) (r : Bool) (w : World) (hr0 : Kd.C k39 w A0 l0.length l0) (_hc0 : l0.length ≤ c0) (hr1 : Kd.C k39 w A1 l1.length l1) (_hc1 : l1.length ≤ c1) (h : deps_Same.f l0 l1 = some r) :
    Calls Try.prog 14 #[.slice A0 l0.length c0, .slice A1 l1.length c1] w fun e w' => e = .returned (.bool r) ∧ Below w.heap.size w w' := by
  unfold deps_Same.f at h
  split at h
  · rename_i hm
    injection h with h
    have he := eqf_any A0 c0 l0 A1 c1 l1 w hr0 hr1 hm
    rw [h] at he
    have HE := Lib.hid he
    clear he hr0 hr1 hm h
    go_enter Try.func14, Try.ntmps14
    go_wp2_with fail
    refine HE.out.mono ?_
    rintro e w2 ⟨rfl, hb⟩
    go_wp2
    go_ret
    exact ⟨rfl, hb⟩
  · cases h
end Go.Proofs.Ytaedlmeaconflaa.P
end
