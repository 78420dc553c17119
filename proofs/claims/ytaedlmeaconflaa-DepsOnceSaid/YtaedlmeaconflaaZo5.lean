/- what the claim's row stands on, part 5. -/
import Derived.Test.YtaedlmeaconflaaZo4
import Derived.Test.YtaedlmeaconflaaZo1
import Derived.Test.YtaedlmeaconflaaZo0
import Derived.Test.YtaedlmeaconflaaZo2
import Derived.Lib.OwnBridge
import Derived.Sort.OwnSortedInts
import Derived.Shelf.Small.Bits
import Derived.Shelf.SlIterI.Sorted
import Derived.Maps.OwnOps
import Derived.Maps.OwnSet
import Derived.Maps.RangeWalk
import Derived.Test.YtaedlmeaconflaaZo3
section
set_option linter.unusedVariables false
set_option linter.unusedSimpArgs false
namespace Go.Proofs.Ytaedlmeaconflaa.P
open Go.RowKit Go.Proofs.YtaedlmeaconflaaW.PrintWords Go.Proofs.YtaedlmeaconflaaW.PrintLast Go.Proofs.YtaedlmeaconflaaW.PrintMore
abbrev kDs : Kd (List S39) := Kd.slice 39 k39
def rdB (xs : List (List S39)) (i : Int) : (List S39) := xs.getD i.toNat ([] : List S39)
theorem at_B {w : World} {A : Option Addr} {n : Nat} {xs : List (List S39)} (h : Kd.C kDs w A n xs) (i : Int) (h0 : 0 ≤ i) (h1 : i < n) : ∃ ad A0 c0, A = some ad ∧ w.cell? (ad.add i.toNat) = some (.slice A0 (rdB xs i).length c0) ∧ (rdB xs i).length ≤ c0 ∧ k39.C w A0 (rdB xs i).length (rdB xs i) := by
  obtain ⟨ad, c, e, _, hK, hc0⟩ := Kd.C_get h ([] : List S39) i h0 h1
  have hc : ∀ j u, c[j]? = some u → w.cell? (ad.add (i.toNat * 1 + j)) = some u := hc0
  obtain ⟨A0, c0, rfl, l0, g0⟩ := hK
  exact ⟨ad, A0, c0, e, by have hq := hc 0 _ rfl; rwa [Nat.mul_one, Nat.add_zero] at hq, l0, g0⟩
theorem rdB_nat (xs : List (List S39)) {k : Nat} (hk : k < xs.length) : rdB xs (k : Int) = xs[k] := by unfold rdB; simp [List.getD_eq_getElem?_getD, List.getElem?_eq_getElem hk]
theorem w64 {x : Int} (h0 : -9223372036854775808 ≤ x) (h1 : x ≤ 9223372036854775807) : wrap64 x = x := by unfold wrap64; omega
theorem heapD : Kd.Heap k39 := Kd.heap_iso _ (Kd.heap_pair (Kd.heap_int .i64) (Kd.heap_slice 33 (Kd.heap_iso _ (Kd.heap_pair (Kd.heap_int .i64) (Kd.heap_int .i64)))))
def RowN (P : Nat → Prop) (w : World) (base : Nat) (v : Value) (xs : List S39) : Prop := Kd.N k39 39 w base (fun q => P q ∨ base ≤ q) v xs
theorem add_block (a : Addr) (i : Nat) : (a.add i).block = a.block := by unfold Addr.add; split <;> rfl
theorem at_BF {w : World} {P : Nat → Prop} {A : Option Addr} {n : Nat} {xs : List (List S39)} (h : Kd.F kDs w P A n xs) (i : Int) (h0 : 0 ≤ i) (h1 : i < n) : ∃ ad A0 c0, A = some ad ∧ w.cell? (ad.add i.toNat) = some (.slice A0 (rdB xs i).length c0) ∧ (rdB xs i).length ≤ c0 ∧ Kd.F k39 w P A0 (rdB xs i).length (rdB xs i) := by
  obtain ⟨ad, A0, c0, e, hc, hl, hC⟩ := at_B (Kd.F_now h) i h0 h1
  refine ⟨ad, A0, c0, e, hc, hl, fun W' hW => ?_⟩
  obtain ⟨ad', A0', c0', e', hc', _, hC'⟩ := at_B (h W' hW) i h0 h1
  rw [e] at e'
  injection e' with e'
  subst e'
  have hin := Kd.F_in h e (by omega) (by decide)
  have hcc : W'.cell? (ad.add i.toNat) = w.cell? (ad.add i.toNat) := World.cell?_of_block (w := w) (hW (ad.add i.toNat).block (by rw [add_block]; exact hin) (World.block_lt_of_cell? w _ hc))
  rw [hcc, hc] at hc'
  injection hc' with hc'
  injection hc' with hA _ _
  rw [hA]
  exact hC'
def zD : S39 := ⟨0, []⟩
set_option maxHeartbeats 1000000 in
theorem dgrow_any (P : Nat → Prop) (m : Nat) (hm : m ≤ 1099511627776) (w : World) : Calls Try.prog 46 #[.slice none 0 0, .int .i64 m] w fun e w' => ∃ v, e = .returned v ∧ RowN P w' w.heap.size v [] ∧ Below w.heap.size w w' := by
  have d0 : decide ((m : Int) < 0) = false := decide_eq_false (by omega)
  have e1 : wrap64 ((m : Int) - 0) = m := by rw [w64 (by omega) (by omega)]; omega
  go_enter Try.func46, Try.ntmps46
  by_cases hz : m = 0
  · subst hz
    go_wp2
    go_ret
    exact ⟨_, rfl, Kd.N_nil _ _ _ _ _, Below.refl _ _⟩
  · have d1 : decide ((0 : Int) < m) = true := decide_eq_true (by omega)
    go_wp2_with ((with_reducible refine gate_builtin (b := .append) (xs := #[.tmp 20, .tmp 21]) rfl ?_); at_builtin; refine Kd.R_append_zeros k39 (w0 := w) w.heap.size rfl (.tmp 20) (.tmp 21) 24 3 39 (.agg #[.int .i64 0, .slice none 0 0]) 32 rfl Try.underlying24 Try.underlying3 infoD rfl (by decide) (by decide) (.slice none 0 0) [] zD (m : Int) (fun k => w.heap.size ≤ k) rfl rfl (k39_mkM _ _ _ zD (Kd.R_nil _ _ _ _ _)) (fun _ h => h) (Kd.R_nil _ _ _ _ _) (by omega) (Below.refl _ _) (Nat.le_refl _) (by simp; omega) ?_; intro v1 w1 hR hb hg hat; have ho := hR; obtain ⟨A, c, rfl⟩ := Kd.R_slice hR)
    go_ret
    refine ⟨_, rfl, ?_, hb⟩
    obtain ⟨_, inner, hown, _⟩ := ho
    have h2 := own_take hown (Nat.zero_le _)
    rw [Nat.zero_mul, List.take_zero] at h2
    exact Kd.R_N ⟨fun q hq => .inr (h2.lt q hq).1, [], h2, Reps.none _ _⟩
theorem flat_snoc (l : List (List S39)) {k : Nat} (hk : k < l.length) : (l.take (k + 1)).flatten = (l.take k).flatten ++ l[k] := by
  rw [List.take_succ_eq_append_getElem hk, List.flatten_append]; simp
theorem flat_le (l : List (List S39)) (k : Nat) : (l.take k).flatten.length ≤ l.flatten.length := by
  conv => rhs; rw [← List.take_append_drop k l, List.flatten_append, List.length_append]
  omega
def CatA (l : List (List S39)) (w : World) (sv kv : Value) (wr : World) : Prop := ∃ k : Nat, sv = .int .i64 (l.take k).flatten.length ∧ kv = .int .i64 k ∧ k ≤ l.length ∧ wr = w
def CatB (P : Nat → Prop) (l : List (List S39)) (w : World) (v kv : Value) (wr : World) : Prop := ∃ k : Nat, kv = .int .i64 k ∧ k ≤ l.length ∧ RowN P wr w.heap.size v (l.take k).flatten ∧ Below w.heap.size w wr
set_option maxHeartbeats 4000000 in
theorem dconcat_any (w : World) (P : Nat → Prop) (hP : ∀ q, P q → q < w.heap.size) (A : Option Addr) (c : Nat) (l : List (List S39)) (hC : Kd.F kDs w P A l.length l) (hl : l.flatten.length ≤ 1099511627776) :
    Calls Try.prog 25 #[.slice A l.length c] w fun e w' => ∃ v, e = .returned v ∧ RowN P w' w.heap.size v l.flatten ∧ Below w.heap.size w w' := by
  have hm := Kd.C_max (Kd.F_now hC)
  have HC := Lib.hid hC; have HPP := Lib.hid hP; clear hC hP
  obtain ⟨Q, hQ⟩ : ∃ Q, l.flatten = Q := ⟨_, rfl⟩
  have hle := flat_le l
  rw [hQ] at hl hle ⊢
  have HQ := Lib.hid hQ; have HLE := Lib.hid hle; clear hQ hle
  go_enter Try.func25, Try.ntmps25
  go_wp2
  go_loopw [3, 11] (fun sv kv wr => CatA l w sv kv wr) (fun _ k _ => l.length - (intOf k).toNat)
  case atStart => exact ⟨0, rfl, rfl, Nat.zero_le _, rfl⟩
  case round =>
    obtain ⟨k, rfl, rfl, hk, hw⟩ := hrel
    replace hw := hw.symm
    subst hw
    by_cases hlt : k < l.length
    · obtain ⟨ad, A0, c0, rfl, hx, hl0, hi0⟩ := at_BF HC.out (k : Int) (by omega) (by omega)
      rw [rdB_nat l hlt] at hx
      simp only [Int.toNat_natCast] at hx
      have hfs := flat_snoc l hlt
      have hfl := HLE.out (k + 1)
      rw [hfs, List.length_append] at hfl
      generalize (l.take k).flatten = P0 at *
      generalize l[k] = u at *
      have HFS := Lib.hid hfs; clear hfs
      have e1 : wrap64 ((P0.length : Int) + u.length) = (P0.length : Int) + u.length := w64 (by omega) (by omega)
      have d1 : decide ((P0.length : Int) + u.length < 0) = false := decide_eq_false (by omega)
      go_wp2
      go_roundw
      case rel => exact ⟨k + 1, by rw [HFS.out, List.length_append, Int.natCast_add], by go_num, by omega, rfl⟩
      case measure => simp [intOf]; omega
    · obtain rfl : k = l.length := by omega
      rw [List.take_length, HQ.out]
      go_wp2_with fail
      refine (dgrow_any P Q.length hl w).mono ?_
      rintro e w1 ⟨v, rfl, ho, hb⟩
      go_wp2
      go_loopw [6, 27] (fun v kv wr => CatB P l w v kv wr) (fun _ k _ => l.length - (intOf k).toNat)
      case atStart => exact ⟨0, rfl, Nat.zero_le _, ho, hb⟩
      case round =>
        clear ho hb
        obtain ⟨k, rfl, hk, ho, hb⟩ := hrel
        by_cases hlt : k < l.length
        · obtain ⟨ad, A0, c0, rfl, hx, hl0, hi0⟩ := at_BF HC.out (k : Int) (by omega) (by omega)
          rw [rdB_nat l hlt] at hx hi0
          simp only [Int.toNat_natCast] at hx
          have hx := pw_cell_below hb hx
          have hrd := Kd.F_old hi0 hb
          have hfs := flat_snoc l hlt
          have hfl := HLE.out (k + 1)
          rw [hfs, List.length_append] at hfl
          generalize (l.take k).flatten = P0 at *
          generalize l[k] = u at *
          have HFS := Lib.hid hfs; clear hfs
          have HO := Lib.hid ho; have HRD := Lib.hid hrd; have HB := Lib.hid hb
          obtain ⟨A6, c6, rfl⟩ := Kd.N_slice ho
          clear ho hrd hb hi0
          have hvo : ∀ q, q < w.heap.size → some q ≠ (Value.slice A6 P0.length c6).ownBlock := fun q hq e => by have := Kd.N_base HO.out q e.symm; omega
          have HV := Lib.hid hvo
          clear hvo
          go_wp2_with ((with_reducible refine gate_builtin (b := .append) (xs := #[.tmp 31, .tmp 32]) rfl ?_); at_builtin; refine Kd.N_append_rows k39 (w0 := w) w.heap.size rfl (.tmp 31) (.tmp 32) 24 39 (.agg #[.int .i64 0, .slice none 0 0]) 32 rfl Try.underlying24 infoD rfl (by decide) (by decide) (.slice A6 P0.length c6) P0 u A0 u.length c0 (fun q => P q ∨ w.heap.size ≤ q) (fun q => P q ∧ q < w.heap.size) rfl rfl HO.out HRD.out (fun q hq => ⟨.inl hq.1, HV.out q hq.2⟩) (fun q hq => .inr (Nat.le_trans HB.out.size hq)) HB.out HB.out.size (by omega) ?_; intro v1 w6 hO1 hb6 hg6 hat6)
          go_roundw
          case rel => exact ⟨k + 1, by go_num, by omega, by rw [HFS.out]; assumption, by assumption⟩
          case measure => simp [intOf]; omega
        · obtain rfl : k = l.length := by omega
          rw [List.take_length, HQ.out] at ho
          go_wp2
          go_ret
          exact ⟨_, rfl, ho, hb⟩
end Go.Proofs.Ytaedlmeaconflaa.P
end
section
set_option linter.unusedVariables false
set_option linter.unusedSimpArgs false
namespace Go.Proofs.Ytaedlmeaconflaa.P
open Go.RowKit Go.Sort Go.Lib Go.Shelf Go.Maps Go.ChangeMaps Go.Proofs.YtaedlmeaconflaaW.PrintWords Go.Proofs.YtaedlmeaconflaaW.PrintLast Go.Proofs.YtaedlmeaconflaaW.PrintMore
def kI (x : Int) : Lit := .int .i64 x
theorem kI_key (x : Int) : WideAt.IsKeyLit (kI x) := trivial
theorem kI_inj {x y : Int} (h : kI x = kI y) : x = y := by simpa [kI] using h
def wfI (x : Int) : Prop := (Lit.int .i64 x).wf = true
abbrev HD := DataW Value
def heldR (v : Value) : Option (HD × List MemPlace) := some (.held v, [])
def upF {α : Type} (f : Int → Option α) (x : Int) (v : Option α) : Int → Option α := fun y => if y = x then v else f y
theorem upF_same {α : Type} (f : Int → Option α) (x : Int) (v : Option α) : upF f x v x = v := if_pos rfl
theorem upF_other {α : Type} (f : Int → Option α) {x y : Int} (v : Option α) (h : y ≠ x) : upF f x v y = f y := if_neg h
def cardF {α : Type} (f : Int → Option α) : Nat := ((List.range 1001).filter fun i : Nat => (f i).isSome).length
theorem cnt_same {p p' : Nat → Bool} {x : Nat} (h3 : ∀ y, y ≠ x → p' y = p y) : ∀ (l : List Nat), x ∉ l → l.filter p' = l.filter p
  | [], _ => rfl
  | y :: l, hx => by
    rw [List.filter_cons, List.filter_cons, h3 y (fun e => hx (e ▸ List.mem_cons_self ..)), cnt_same h3 l (fun h => hx (List.mem_cons_of_mem _ h))]
theorem cnt_up {p p' : Nat → Bool} {x : Nat} (h1 : p x = false) (h2 : p' x = true) (h3 : ∀ y, y ≠ x → p' y = p y) : ∀ (l : List Nat), l.Nodup → x ∈ l → (l.filter p').length = (l.filter p).length + 1
  | [], _, hx => by cases hx
  | y :: l, hn, hx => by
    have hn' := List.nodup_cons.1 hn
    by_cases e : y = x
    · subst e
      rw [List.filter_cons, List.filter_cons, h1, h2, cnt_same h3 l hn'.1]
      simp
    · have hl : x ∈ l := by
        rcases List.mem_cons.1 hx with h | h
        · exact absurd h.symm e
        · exact h
      have ih := cnt_up h1 h2 h3 l hn'.2 hl
      rw [List.filter_cons, List.filter_cons, h3 y e]
      split <;> simp [ih]
set_option maxRecDepth 100000 in
theorem cardF_put {α : Type} (f : Int → Option α) {x : Int} (h0 : 0 ≤ x) (h1 : x ≤ 1000) (hn : f x = none) (v : α) : cardF (upF f x (some v)) = cardF f + 1 := by
  obtain ⟨n, rfl⟩ : ∃ n : Nat, x = n := ⟨x.toNat, by omega⟩
  refine cnt_up (x := n) (by simp [hn]) (by simp [upF]) (fun y hy => ?_) _ List.nodup_range (List.mem_range.2 (by omega))
  rw [upF_other f _ (show ((y : Nat) : Int) ≠ n by omega)]
theorem cnt_congr {p q : Nat → Bool} (h : ∀ i, p i = q i) (l : List Nat) : (l.filter p).length = (l.filter q).length := by rw [show p = q from funext h]
theorem cardF_same {α : Type} (f : Int → Option α) {x : Int} (hn : (f x).isSome = true) (v : α) : cardF (upF f x (some v)) = cardF f :=
  cnt_congr (fun i => by
    by_cases e : (i : Int) = x
    · rw [e, upF_same, hn]; rfl
    · rw [upF_other f _ e]) _
set_option maxRecDepth 100000 in
theorem cardF_le {α : Type} (f : Int → Option α) : cardF f ≤ 1001 := Nat.le_trans (List.length_filter_le _ _) (by simp)
theorem cardF_none {α : Type} : cardF (fun _ => none : Int → Option α) = 0 := by unfold cardF; simp
def Holds (D : HD) (f : Int → Option Value) : Prop := Maps.size D = cardF f ∧ ∀ x, Maps.has D (kI x) = (f x).isSome ∧ ∀ z, D.atKey (kI x) (.held z) = .held ((f x).getD z)
def MI (w : World) (mb : Nat) (f : Int → Option Value) : Prop := ∃ D : HD, w.ownsMap Try.prog 3 heldR mb (Maps.size D) D ∧ Holds D f
theorem own_tight {w : World} {P : Program} {k b n : Nat} {R : Value → Option (HD × List MemPlace)} {D : HD} (h : w.ownsMap P k R b n D) : w.ownsMap P k R b (Maps.size D) D := by
  obtain ⟨es, clock, hb, F, hs, rfl⟩ := h
  exact ⟨es, clock, hb, F, by simp [Maps.size, length_sorted], rfl⟩
theorem own_upd_map {w w' : World} {P : Program} {k b n : Nat} {R : Value → Option (HD × List MemPlace)} {D : HD} (h : w.ownsMap P k R b n D) (he : w'.heap[b]? = w.heap[b]?) : w'.ownsMap P k R b n D := by
  obtain ⟨es, clock, hb, r⟩ := h
  exact ⟨es, clock, he.trans hb, r⟩
section
variable {w w' : World} {mb : Nat} {f : Int → Option Value}
theorem MI.lt (h : MI w mb f) : mb < w.heap.size := by obtain ⟨D, h, _⟩ := h; exact h.lt
theorem MI.upd {S : Nat → Prop} (h : MI w mb f) (hu : Upd w w' S) (hs : ¬ S mb) : MI w' mb f := by
  have hlt := h.lt
  obtain ⟨D, h, hh⟩ := h
  exact ⟨D, own_upd_map h (hu.block mb hlt hs), hh⟩
theorem MI.below (h : MI w mb f) (hb : Below w.heap.size w w') : MI w' mb f := h.upd (Upd.of_below hb (fun _ => False)) (fun x => x)
set_option maxRecDepth 100000 in
theorem MI.made (w : World) : MI (w.alloc (.map #[] 0)) w.heap.size (fun _ => none) := ⟨.map [], World.ownsMap_made _ _ _ _, by rw [cardF_none]; rfl, fun x => ⟨rfl, fun z => rfl⟩⟩
theorem MI.block (h : MI w mb f) {t : TypeId} {cs : Array Value} {g : Nat} (hb : Blk w g t cs) : g ≠ mb := by
  obtain ⟨D, ⟨es, clock, h2, _⟩, _⟩ := h
  rintro rfl
  unfold Blk at hb
  rw [hb] at h2
  cases h2
theorem int_law : Keyed Try.prog 3 := Maps.int_keyed Try.underlying3
set_option maxRecDepth 100000 in
theorem MI.lookS (h : MI w mb f) {x : Int} (hx : wfI x) : (Instr.lookup 57 (.map (some mb)) (.int .i64 x) false).run Try.prog w = .ok ((f x).getD (.slice none 0 0)) w := by
  obtain ⟨D, h, hs, hh⟩ := h
  obtain ⟨v, ps, hrun, hv⟩ := h.lookup int_law Try.underlying57 (Try.zeroValue37 w) (zd := .held (.slice none 0 0)) (zp := []) rfl (Maps.keyOf_int_mk Try.underlying3 hx)
  obtain ⟨h1, h2⟩ := hh x
  rw [show Lit.int .i64 x = kI x from rfl, h2] at hv
  unfold heldR at hv
  injection hv with hv
  injection hv with hv _
  injection hv with hv
  rw [hrun, hv]
set_option maxRecDepth 100000 in
theorem MI.putS (h : MI w mb f) {x : Int} (hx : wfI x) (h0 : 0 ≤ x) (h1 : x ≤ 1000) (v : Value) :
    ∃ w', (Instr.mapUpdate 57 (.map (some mb)) (.int .i64 x) v).run Try.prog w = .ok () w' ∧ MI w' mb (upF f x (some v)) ∧ Upd w w' (· = mb) := by
  obtain ⟨D, h, hs, hh⟩ := h
  have hT := h.tidy int_law
  obtain ⟨w', hrun, hown, hg⟩ := h.update int_law Try.underlying57 (by have := cardF_le f; rw [hs]; simp only [maxLen]; omega) (Maps.keyOf_int_mk Try.underlying3 hx) (d := .held v) (ps := []) (val := v) rfl
  refine ⟨w', hrun, ⟨D.put (kI x) (.held v), own_tight hown, ?_, fun y => ?_⟩, Upd.of_grown hg (fun k hk => by injection hk with hk; exact hk.symm)⟩
  · rw [Maps.size_put hT, (hh x).1]
    cases hf : f x with
    | none => rw [cardF_put f h0 h1 hf, hs]; rfl
    | some u => rw [cardF_same f (by rw [hf]; rfl), hs]; rfl
  · by_cases e : y = x
    · subst e
      rw [Maps.has_put_same hT.isMap (kI_key y), upF_same]
      exact ⟨rfl, fun z => by rw [Maps.atKey_put_same hT.isMap (kI_key y)]; rfl⟩
    · have hne : kI y ≠ kI x := fun h => e (kI_inj h)
      rw [Maps.has_put_other hne, upF_other f _ e]
      exact ⟨(hh y).1, fun z => by rw [Maps.atKey_put_other hne]; exact (hh y).2 z⟩
end
set_option maxHeartbeats 1000000 in
theorem iins_none (p : Option Addr) (cap : Nat) (w : World) : Calls Try.prog 62 #[.slice p 0 cap, .int .i64 0, .int .i64 0] w fun e w' => e = .returned (.tuple #[]) ∧ w' = w := by
  go_enter Try.func62, Try.ntmps62
  go_wp2
  refine wp_loop_rounds 1 ?_
  rw [rounds_succ]
  go_wp2
  go_end0
  exact ⟨rfl, rfl⟩
set_option maxHeartbeats 2000000 in
set_option maxRecDepth 100000 in
theorem ipdq_none (p : Option Addr) (cap : Nat) (w : World) : Calls Try.prog 59 #[.slice p 0 cap, .int .i64 0, .int .i64 0, .int .i64 0] w fun e w' => e = .returned (.tuple #[]) ∧ w' = w := by
  go_enter Try.func59, Try.ntmps59
  go_wp2
  refine wp_loop_rounds 1 ?_
  rw [rounds_succ]
  go_wp2_with (go_at_call 62; refine (iins_none _ _ _).mono ?_; rintro e w' ⟨rfl, rfl⟩)
  (try simp only [Exit.inBlock, Exit.then]); refine bodyPost_ret (results_none rfl _ _ _) rfl ?_
  exact ⟨rfl, rfl⟩
set_option maxHeartbeats 1000000 in
theorem isort_none (p : Option Addr) (cap : Nat) (w : World) : Calls Try.prog 48 #[.slice p 0 cap] w fun e w' => e = .returned (.tuple #[]) ∧ w' = w := by
  have hLen : ∀ w, Calls Try.prog 60 #[.int .u64 0] w fun e w' => e = .returned (.int .i64 0) ∧ w' = w := fun w => Any.bits_Len Try.shLen 0 w (by omega) (by omega)
  go_enter Try.func48, Try.ntmps48
  go_wp2_with (first
    | (go_at_call 60; refine (hLen _).mono ?_; rintro e w' ⟨rfl, rfl⟩)
    | (go_at_call 59; refine (ipdq_none _ _ _).mono ?_; rintro e w' ⟨rfl, rfl⟩))
  go_end0
  exact ⟨rfl, rfl⟩
theorem sortsA (m : Nat) : AnyZI.SortsIn Try.prog Try.shSorted_ren Fence.wide m :=
  ⟨fun blk off cap ss W hH hblk hsz => callsIn_wide.2 (Any.slices_Sort_int Try.shSort blk off cap ss W hH hblk hsz),
   fun p cap W => callsIn_wide.2 (isort_none p cap W)⟩
def keysF {α : Type} (F : Int → Option α) : List Int := ((List.range 1001).filter fun i : Nat => (F i).isSome).map (fun n : Nat => (n : Int))
theorem keysF_nodup {α : Type} (F : Int → Option α) : (keysF F).Nodup := by
  unfold keysF
  exact List.Pairwise.map _ (fun a b h e => h (Int.ofNat.inj e)) ((List.nodup_range (n := 1001)).filter _)
theorem mem_keysF {α : Type} {F : Int → Option α} (h : ∀ n x, F n = some x → 0 ≤ n ∧ n ≤ 1000) (x : Int) : x ∈ keysF F ↔ (F x).isSome = true := by
  unfold keysF
  simp only [List.mem_map, List.mem_filter, List.mem_range]
  constructor
  · rintro ⟨n, ⟨_, h2⟩, rfl⟩; exact h2
  · intro hx
    obtain ⟨y, hy⟩ := Option.isSome_iff_exists.1 hx
    have := h x y hy
    exact ⟨x.toNat, ⟨by omega, by rw [Int.toNat_of_nonneg (by omega)]; exact hx⟩, Int.toNat_of_nonneg (by omega)⟩
theorem keysF_sorted {α : Type} (F : Int → Option α) : (keysF F).Pairwise (fun x y => decide (x ≤ y) = true) := by
  unfold keysF
  rw [List.pairwise_map]
  refine ((List.pairwise_lt_range (n := 1001)).filter _).imp (fun h => ?_)
  simp; omega
section
theorem keysIS_any (mb : Option Nat) (W : World) : Calls Try.prog 27 #[.map mb] W fun e w' => e = .returned (.func (.func 49) #[] #[.pointer (some ⟨W.heap.size, 0, none⟩)]) ∧ w' = W.alloc (.cells #[.map mb] 57) :=
  (callsIn_wide (n := 5)).1 (AnyZI.keys_in Try.shKeys Fence.wide 5 trivial rfl mb W)
theorem own_int_keys {w : World} {n mb : Nat} {D : HD} (h : w.ownsMap Try.prog 3 heldR mb n D) : ∃ es, D = .map es ∧ es.Pairwise (fun p q => p.1 ≠ q.1) ∧ ∀ p ∈ es, ∃ x, p.1 = .int .i64 x := by
  obtain ⟨es, e, hp⟩ := h.tidy int_law
  obtain ⟨es0, clock, hb, F, _, e0⟩ := h
  rw [e] at e0
  injection e0 with e0
  refine ⟨es, e, hp, fun p hpm => ?_⟩
  rw [e0] at hpm
  have hpm := (WideShapes.sorted_perm _).mem_iff.1 hpm
  obtain ⟨x, hx, rfl⟩ := List.mem_map.1 hpm
  obtain ⟨y, hy⟩ := F.reads x hx
  rw [WideElems.rg_of hy]
  obtain ⟨z, _, hz, _⟩ := Maps.keyOf_i64 Try.underlying3 (WideElems.rd_key hy)
  exact ⟨z, hz⟩
theorem keys_perm {w : World} {n mb : Nat} {D : HD} (h : w.ownsMap Try.prog 3 heldR mb n D) {f : Int → Option Value} (hh : Holds D f) {L : List Int} (hn : L.Nodup) (hL : ∀ x, x ∈ L ↔ (f x).isSome = true) : L.Perm (intKeys D) := by
  obtain ⟨es, rfl, hp, hk⟩ := own_int_keys h
  exact perm_intKeys hp hk hn (fun x => by rw [hL x, ← (hh.2 x).1]; rfl)
theorem sortedIS_any {w : World} {mb : Nat} {f : Int → Option Value} {Bm : Nat} (hM : MI w mb f) (hf : ∀ n x, f n = some x → 0 ≤ n ∧ n ≤ 1000) (hB : Bm < w.heap.size) (hm : w.cell? ⟨Bm, 0, none⟩ = some (.map (some mb))) :
    Calls Try.prog 26 #[.func (.func 49) #[] #[.pointer (some ⟨Bm, 0, none⟩)]] w fun e w' => ∃ v, e = .returned v ∧ w'.ownsRow w.heap.size 3 1 v (keysF f).length (nums .i64 (keysF f)) ∧ Below w.heap.size w w' := by
  obtain ⟨D, hown, hh⟩ := hM
  have hsz : Maps.size D = cardF f := hh.1
  have hcl := cardF_le f
  have hseq : SeqGives Fence.wide 2 Try.prog 49 #[.pointer (some ⟨Bm, 0, none⟩)] encZ (fun ss => ss.Perm (intKeys D)) (Maps.size D) w :=
    AnyZI.keys_gives (ρ := Try.shKeys_ren) { Try.shKeys with } Fence.wide _ trivial rfl (by omega) Bm mb (Maps.size D) D w hB hm hown
  have cS := AnyZI.sorted_in Try.shSorted Fence.wide 5 trivial trivial trivial trivial rfl (by omega) (sortsA _) (enters_of Try.func48 (by kernel_rfl) rfl) 49 #[.pointer (some ⟨Bm, 0, none⟩)] trivial (enters_of Try.func49 (by kernel_rfl) rfl) _ _ (by rw [hsz]; unfold maxLen; omega) (by rw [hsz]; omega) _ hseq
  refine ((callsIn_wide (n := 5)).1 cS).mono fun e w' ⟨v, ss, he, hp, ho, _, hb⟩ => ⟨v, he, ?_, hb⟩
  have hpm := hp.trans (keys_perm hown hh (keysF_nodup f) (mem_keysF hf)).symm
  rw [mergeSort_of_perm_i hpm, hpm.length_eq, List.mergeSort_of_pairwise (keysF_sorted f)] at ho
  exact ho
end
end Go.Proofs.Ytaedlmeaconflaa.P
end
section
set_option linter.unusedVariables false
set_option linter.unusedSimpArgs false
namespace Go.Proofs.Ytaedlmeaconflaa.P
open Go.RowKit Go.Shelf Go.Proofs.YtaedlmeaconflaaW.PrintWords Go.Proofs.YtaedlmeaconflaaW.PrintLast Go.Proofs.YtaedlmeaconflaaW.PrintMore
theorem setS_len (xs : List S33) : (setS xs).length ≤ xs.length := by
  have h : ∀ (ys : List S33) (n : Nat), (cmpc ys n).length ≤ n := by
    intro ys n
    induction n with
    | zero => simp [cmpc]
    | succ n ih =>
      rw [cmpc, List.length_append]
      split
      · cases ys[n]? <;> simp <;> omega
      · simp; omega
  unfold setS compS
  have := h (sortS xs) (sortS xs).length
  rw [sortS_len] at this ⊢
  exact this
set_option maxHeartbeats 1000000 in
theorem make_any (n : Int) (A : Option Addr) (c : Nat) (xs : List S33) (w : World) (hr : Kd.C k33 w A xs.length xs) (hb : xs.length * 16 ≤ 140737488355328) :
    Calls Try.prog 10 #[.int .i64 n, .slice A xs.length c] w fun e w' => ∃ w2 v, e = .returned (.slice (some ⟨w2.heap.size, 0, none⟩) 1 1) ∧ w' = w2.alloc (.cells #[.int .i64 n, v] 39) ∧ RowS w2 w.heap.size v (setS xs) ∧ Below w.heap.size w w2 := by
  have HS := Lib.hid (ssortall_any A c xs w hr hb)
  clear hr hb
  go_enter Try.func10, Try.ntmps10
  go_wp2_with fail
  refine HS.out.mono ?_
  rintro e w2 ⟨v2, rfl, ho2, hb2⟩
  have HO := Lib.hid (And.intro ho2 hb2)
  obtain ⟨A5, c5, rfl⟩ := own_slice ho2
  clear ho2 hb2
  go_wp2
  go_ret
  exact ⟨w2, _, rfl, rfl, HO.out.1, HO.out.2⟩
def idsOf (ds : List S39) (x : Int) : List S33 := (ds.filter fun d => decide (d.f0 = x)).flatMap (·.f1)
theorem idsOf_snoc (ds : List S39) (d : S39) (x : Int) : idsOf (ds ++ [d]) x = idsOf ds x ++ (if d.f0 = x then d.f1 else []) := by
  unfold idsOf
  rw [List.filter_append, List.flatMap_append]
  by_cases h : d.f0 = x <;> simp [h]
def hasOf (ds : List S39) (x : Int) : Bool := ds.any fun d => decide (d.f0 = x)
theorem hasOf_snoc (ds : List S39) (d : S39) (x : Int) : hasOf (ds ++ [d]) x = (hasOf ds x || decide (d.f0 = x)) := by simp [hasOf]
theorem idsOf_none {ds : List S39} {x : Int} (h : hasOf ds x = false) : idsOf ds x = [] := by
  unfold idsOf
  rw [List.filter_eq_nil_iff.2]
  · rfl
  · intro d hd
    unfold hasOf at h
    rw [List.any_eq_false] at h
    exact h d hd
structure MG (s mb : Nat) (ds : List S39) (w : World) (f : Int → Option Value) : Prop where
  map : MI w mb f
  row : ∀ x v, f x = some v → RowS w s v (idsOf ds x)
  has : ∀ x, (f x).isSome = hasOf ds x
  apart : ∀ x y v u, x ≠ y → f x = some v → f y = some u → ∀ k, v.ownBlock = some k → u.ownBlock ≠ some k
theorem MG.upd {s mb : Nat} {ds : List S39} {w w' : World} {f : Int → Option Value} {S : Nat → Prop} (h : MG s mb ds w f) (hu : Upd w w' S) (hm : ¬ S mb) (hs : ∀ k, s ≤ k → ¬ S k) : MG s mb ds w' f where
  map := h.map.upd hu hm
  row x v hx := own_move (h.row x v hx) (fun k hk => hu.block k ((h.row x v hx).lt k hk).2 (hs k ((h.row x v hx).lt k hk).1))
  has := h.has
  apart := h.apart
theorem MG.below {s mb : Nat} {ds : List S39} {w w' : World} {f : Int → Option Value} (h : MG s mb ds w f) (hb : Below w.heap.size w w') : MG s mb ds w' f := h.upd (Upd.of_below hb (fun _ => False)) (fun x => x) (fun _ _ x => x)
theorem rowS_nil (w : World) (s : Nat) : RowS w s (.slice none 0 0) [] := own_nil _ _ _ _
theorem MG.at_ {s mb : Nat} {ds : List S39} {w : World} {f : Int → Option Value} (h : MG s mb ds w f) (x : Int) : RowS w s ((f x).getD (.slice none 0 0)) (idsOf ds x) := by
  cases hf : f x with
  | some v => exact h.row x v hf
  | none =>
    have : hasOf ds x = false := by rw [← h.has x, hf]; rfl
    rw [idsOf_none this]
    exact rowS_nil w s
theorem MG.put {s mb : Nat} {ds : List S39} {W w5 : World} {f : Int → Option Value} (h : MG s mb ds W f) (hms : mb < s) (d : S39) (h0 : 0 ≤ d.f0) (h1 : d.f0 ≤ 1000) {v1 : Value} (hr : RowS w5 s v1 (idsOf ds d.f0 ++ d.f1))
    (hg : W.grownBy w5 ((f d.f0).getD (.slice none 0 0)).ownBlock) (hat : v1.ownBlock = ((f d.f0).getD (.slice none 0 0)).ownBlock ∨ ∃ b, v1.ownBlock = some b ∧ W.heap.size ≤ b) :
    ∃ w6, (Instr.mapUpdate 57 (.map (some mb)) (.int .i64 d.f0) v1).run Try.prog w5 = .ok () w6 ∧ MG s mb (ds ++ [d]) w6 (upF f d.f0 (some v1)) ∧ Upd W w6 (fun k => k = mb ∨ s ≤ k) := by
  have hv := h.at_ d.f0
  have hge : ∀ k, ((f d.f0).getD (.slice none 0 0)).ownBlock = some k → s ≤ k ∧ k < W.heap.size := fun k hk => hv.lt k hk
  have hu5 : Upd W w5 (fun k => k = mb ∨ s ≤ k) := Upd.of_grown hg (fun k hk => .inr (hge k hk).1)
  have hm5 : MI w5 mb f := h.map.upd (Upd.of_grown hg (S := fun k => s ≤ k) (fun k hk => (hge k hk).1)) (by omega)
  obtain ⟨w6, hrun, hm6, hu6⟩ := hm5.putS (x := d.f0) (WalkArith.wf_i64 (by omega)) h0 h1 v1
  have hmv : ∀ {w : World} {v : Value} {xs : List S33}, RowS w s v xs → ∀ k, v.ownBlock = some k → ¬ k = mb := fun hr k hk e => by have := (hr.lt k hk).1; omega
  refine ⟨w6, hrun, ⟨hm6, fun y v hy => ?_, fun y => ?_, fun y z v u hyz hy hz k hk hk2 => ?_⟩, hu5.trans (hu6.mono (fun k _ hk => .inl hk))⟩
  · rw [idsOf_snoc]
    by_cases e : y = d.f0
    · subst e
      rw [upF_same] at hy
      injection hy with hy
      subst hy
      rw [if_pos rfl]
      exact own_move hr (fun k hk => hu6.block k (hr.lt k hk).2 (hmv hr k hk))
    · rw [upF_other f _ e] at hy
      rw [if_neg (fun h => e h.symm), List.append_nil]
      have hry := h.row y v hy
      have hry5 : RowS w5 s v (idsOf ds y) := own_move hry (fun k hk => hg.block k (hry.lt k hk).2 (fun e2 => by
        cases hf : f d.f0 with
        | none => rw [hf] at e2; simp [Value.ownBlock] at e2
        | some u =>
          rw [hf] at e2
          exact h.apart y d.f0 v u e hy hf k hk e2.symm))
      exact own_move hry5 (fun k hk => hu6.block k (hry5.lt k hk).2 (hmv hry5 k hk))
  · rw [hasOf_snoc, ← h.has y]
    by_cases e : y = d.f0
    · subst e; rw [upF_same]; simp
    · rw [upF_other f _ e]
      have : ¬ d.f0 = y := fun h => e h.symm
      simp [this]
  · have key : ∀ (y : Int) (v : Value), y ≠ d.f0 → f y = some v → ∀ k, v.ownBlock = some k → v1.ownBlock ≠ some k := fun y v e hy k hk hk2 => by
      rcases hat with h2 | ⟨b, hb, hbs⟩
      · rw [h2] at hk2
        cases hf : f d.f0 with
        | none => rw [hf] at hk2; simp [Value.ownBlock] at hk2
        | some u =>
          rw [hf] at hk2
          exact h.apart y d.f0 v u e hy hf k hk hk2
      · rw [hb] at hk2
        injection hk2 with hk2
        have := ((h.row y v hy).lt k hk).2
        omega
    by_cases ey : y = d.f0
    · subst ey
      rw [upF_same] at hy
      injection hy with hy
      subst hy
      rw [upF_other f _ (fun e => hyz e.symm)] at hz
      exact key z u (fun e => hyz e.symm) hz k hk2 hk
    · rw [upF_other f _ ey] at hy
      by_cases ez : z = d.f0
      · subst ez
        rw [upF_same] at hz
        injection hz with hz
        subst hz
        exact key y v ey hy k hk hk2
      · rw [upF_other f _ ez] at hz
        exact h.apart y z v u hyz hy hz k hk hk2
end Go.Proofs.Ytaedlmeaconflaa.P
end
section
set_option linter.unusedVariables false
set_option linter.unusedSimpArgs false
namespace Go.Proofs.Ytaedlmeaconflaa.P
open Go.RowKit Go.Shelf Go.Proofs.YtaedlmeaconflaaW.PrintWords Go.Proofs.YtaedlmeaconflaaW.PrintLast Go.Proofs.YtaedlmeaconflaaW.PrintMore
def keysD (ds : List S39) : List Int := ((List.range 1001).filter fun i : Nat => hasOf ds i).map (fun n : Nat => (n : Int))
def mergeD (ds : List S39) : List S39 := (keysD ds).map fun x => ⟨x, setS (idsOf ds x)⟩
theorem keysF_D {s mb : Nat} {ds : List S39} {w : World} {f : Int → Option Value} (h : MG s mb ds w f) : keysF f = keysD ds := by
  unfold keysF keysD
  rw [show (fun i : Nat => (f (i : Int)).isSome) = (fun i : Nat => hasOf ds (i : Int)) from funext fun i => h.has i]
theorem idsOf_le : ∀ (ds : List S39) (x : Int), (idsOf ds x).length ≤ (ds.flatMap (·.f1)).length
  | [], x => by simp [idsOf]
  | d :: ds, x => by
    have ih := idsOf_le ds x
    rw [List.flatMap_cons, List.length_append]
    unfold idsOf at *
    by_cases h : d.f0 = x
    · rw [List.filter_cons_of_pos (by simpa using h), List.flatMap_cons, List.length_append]; omega
    · rw [List.filter_cons_of_neg (by simpa using h)]; omega
theorem idsOf_take_le (ds : List S39) (k : Nat) (x : Int) : (idsOf (ds.take k) x).length ≤ (ds.flatMap (·.f1)).length := by
  refine Nat.le_trans (idsOf_le _ x) ?_
  conv => rhs; rw [← List.take_append_drop k ds, List.flatMap_append, List.length_append]
  omega
theorem Upd.then_new {a b c : World} {S : Nat → Prop} (h : Upd a b S) (k : Upd b c (fun q => S q ∨ a.heap.size ≤ q)) : Upd a c S :=
  ⟨k.os.trans h.os, k.tape.trans h.tape, k.output.trans h.output, Nat.le_trans h.size k.size, fun q hq hs => (k.block q (Nat.lt_of_lt_of_le hq h.size) (fun e => by rcases e with e | e; exact hs e; omega)).trans (h.block q hq hs)⟩
theorem heapDs : Kd.Heap kDs := Kd.heap_slice 39 heapD
set_option maxHeartbeats 4000000 in
set_option maxRecDepth 100000 in
theorem merge_any (A : Option Addr) (c : Nat) (l : List (List S39)) (w : World) (hr : Kd.C kDs w A l.length l) (hsh : ∀ d ∈ l.flatten, 0 ≤ d.f0 ∧ d.f0 ≤ 1000) (hn : l.flatten.length ≤ 1099511627776) (hids : (l.flatten.flatMap (·.f1)).length ≤ 1099511627776) :
    Calls Try.prog 9 #[.slice A l.length c] w fun e w' => ∃ v, e = .returned v ∧ Kd.S k39 39 w' w.heap.size (fun _ => True) v (mergeD l.flatten) ∧ Below w.heap.size w w' := by
  have mixed : Try.prog.follows .mixedOrders = true := by kernel_rfl
  have hmm := @run_makeMap Try.prog
  obtain ⟨w0, hw0⟩ : ∃ w0, w.alloc (.map #[] 0) = w0 := ⟨_, rfl⟩
  have hb0 : Below w.heap.size w w0 := hw0 ▸ (Below.refl _ _).alloc (Nat.le_refl _) _
  have hsz0 : w0.heap.size = w.heap.size + 1 := by rw [← hw0]; simp
  have hM0 : MI w0 w.heap.size (fun _ => none) := hw0 ▸ MI.made w
  have hF : Kd.F kDs w0 (fun q => q < w.heap.size) A l.length l := Kd.F_mono (Kd.F_old (Kd.C_F heapDs hr) hb0) (fun q hq => hq.2)
  have HCat := Lib.hid (dconcat_any w0 (fun q => q < w.heap.size) (fun q hq => by omega) A c l hF hn)
  clear hF hr
  generalize hds : l.flatten = ds at *
  have HH := Lib.hid (And.intro hb0 (And.intro hsz0 hM0))
  have HSH := Lib.hid hsh
  have HI := Lib.hid hids
  clear hb0 hsz0 hM0 hsh hids hds
  go_enter Try.func9, Try.ntmps9
  go_wp2_with fail
  clear hmm
  refine HCat.out.mono ?_
  rintro e w1 ⟨v1, rfl, ho1, hb1⟩
  have HO1 := Lib.hid (And.intro ho1 hb1)
  obtain ⟨A3, c3, rfl⟩ := Kd.N_slice ho1
  clear ho1 hb1
  go_wp2
  go_loopw [12] (fun si wr => ∃ (k : Nat) (f : Int → Option Value), si = .int .i64 (k : Int) ∧ k ≤ ds.length ∧ RowKit.Hid (MG w1.heap.size w.heap.size (ds.take k) wr f ∧ Upd w1 wr (· = w.heap.size))) (fun si _ => ds.length - (intOf si).toNat)
  case atStart => exact ⟨0, fun _ => none, rfl, by omega, Lib.hid ⟨⟨HH.out.2.2.below HO1.out.2, fun x v h => (by cases h), fun x => (by simp [hasOf]), fun x y v u _ h => (by cases h)⟩, Upd.refl _ _⟩⟩
  case round =>
    obtain ⟨k, f, rfl, hk, HG⟩ := hrel
    by_cases hlt : k < ds.length
    · have hN := Kd.N_step (w1 := wr) HO1.out.1 (fun q hq hql => HG.out.2.block q hql (fun e => by
        have := HH.out.2.1
        rcases hq with h | h <;> omega))
      obtain ⟨_, hlc3, hC⟩ := Kd.N_reads' hN
      rcases A3 with _ | ad
      · exact absurd (hC.2.2 (by omega)) (by simp)
      obtain ⟨A1, c1, d0, d1, hlc, hCx⟩ := C_atD hC k hlt
      have hmem := HSH.out _ (List.getElem_mem hlt)
      have htk : ds.take (k + 1) = ds.take k ++ [ds[k]] := List.take_succ_eq_append_getElem hlt
      have hle := idsOf_take_le ds (k + 1) (ds[k]).f0
      rw [htk, idsOf_snoc, if_pos rfl, List.length_append] at hle
      generalize ds[k] = x at *
      have HX := Lib.hid (And.intro hCx (And.intro hmem (And.intro htk (Nat.le_trans hle HI.out))))
      clear hlc hCx hmem htk hle hN hlc3 hC
      obtain ⟨x0, x1⟩ := x
      obtain ⟨wb, hwb⟩ : ∃ wb, wr.alloc (.cells #[.int .i64 x0, .slice A1 x1.length c1] 39) = wb := ⟨_, rfl⟩
      have hBb : Below wr.heap.size wr wb := hwb ▸ (Below.refl _ _).alloc (Nat.le_refl _) _
      have hT : Blk wb wr.heap.size 39 #[.int .i64 x0, .slice A1 x1.length c1] := hwb ▸ Blk.new wr 39 _
      have hG := HG.out.1.below (hBb.drew)
      have hv := hG.at_ x0
      obtain ⟨Av, cv, hve⟩ := own_slice hv
      have hvw := hG.map.lookS (x := x0) (WalkArith.wf_i64 (by have := HX.out.2.1.1; have := HX.out.2.1.2; simp only at *; omega))
      rw [hve] at hvw
      have b0 : wb.cell? ⟨wr.heap.size, 0, none⟩ = some (.int .i64 x0) := hT.cell 0
      have b1 : wb.cell? ⟨wr.heap.size, 1, none⟩ = some (.slice A1 x1.length c1) := hT.cell 1
      have hlk := hvw
      have hvlt : ∀ q, (Value.slice Av (idsOf (ds.take k) x0).length cv).ownBlock = some q → w1.heap.size ≤ q ∧ q < wr.heap.size := fun q hq => by
        have := (HG.out.1.at_ x0).lt q
        rw [hve] at this
        exact this hq
      have hvr : RowS wb.drew w1.heap.size (.slice Av (idsOf (ds.take k) x0).length cv) (idsOf (ds.take k) x0) := hve ▸ hv
      have HV := Lib.hid (And.intro hG (And.intro hvr (And.intro hve (And.intro hBb (And.intro hT hvlt)))))
      have HSZ := Lib.hid (show w1.heap.size ≤ wb.heap.size from Nat.le_trans HG.out.2.size hBb.size)
      have HMS := Lib.hid (show w.heap.size < w1.heap.size by have := HO1.out.2.size; have := HH.out.2.1; omega)
      clear hBb hT hG hv hve hlk hvlt hvr
      go_upto_region 5 with fail
      refine wp_region_last1_held (S := (fun W => W.cell? ⟨wr.heap.size, 0, none⟩ = some (.int .i64 x0) ∧ W.cell? ⟨wr.heap.size, 1, none⟩ = some (.slice A1 x1.length c1) ∧ (Instr.lookup 57 (.map (some w.heap.size)) (.int .i64 x0) false).run Try.prog W = .ok (.slice Av (idsOf (ds.take k) x0).length cv) W)) (l := [_, _, _, _, _, _, _, _, _, _]) (o := _) (by kernel_rfl) (by kernel_rfl) ?_
      simp only [List.size_toArray, List.length_cons, List.length_nil, Nat.zero_add, Nat.reduceAdd]
      have hHeld : ((fun W => W.cell? ⟨wr.heap.size, 0, none⟩ = some (.int .i64 x0) ∧ W.cell? ⟨wr.heap.size, 1, none⟩ = some (.slice A1 x1.length c1) ∧ (Instr.lookup 57 (.map (some w.heap.size)) (.int .i64 x0) false).run Try.prog W = .ok (.slice Av (idsOf (ds.take k) x0).length cv) W)) wb.drew := ⟨b0, b1, hvw⟩
      refine wpAnyH_take (i := 0) (v := ?_) rfl (by kernel_rfl) (by kernel_rfl) (by kernel_rfl) (fun _ _ _ h => h) (Or.inl ⟨by rfl, ?_⟩) (by assumption) ?_
      rotate_left
      · (intro w hSw; (try dsimp only at hSw); go_split_ands; go_simp; try with_reducible rfl)
      try simp only [List.getElem_toArray, List.getElem_cons_succ, List.getElem_cons_zero, Act.put, List.setIfInBounds_toArray, List.set_cons_zero, List.set_cons_succ]
      refine wpAnyH_take (i := 1) (v := ?_) rfl (by kernel_rfl) (by kernel_rfl) (by kernel_rfl) (fun _ _ _ h => h) (Or.inl ⟨by rfl, ?_⟩) (by assumption) ?_
      rotate_left
      · (intro w hSw; (try dsimp only at hSw); go_split_ands; go_simp; try with_reducible rfl)
      try simp only [List.getElem_toArray, List.getElem_cons_succ, List.getElem_cons_zero, Act.put, List.setIfInBounds_toArray, List.set_cons_zero, List.set_cons_succ]
      refine wpAnyH_take (i := 2) (v := ?_) rfl (by kernel_rfl) (by kernel_rfl) (by kernel_rfl) (fun _ _ _ h => h) (Or.inl ⟨by rfl, ?_⟩) (by assumption) ?_
      rotate_left
      · (intro w hSw; (try dsimp only at hSw); go_split_ands; go_simp; try with_reducible rfl)
      try simp only [List.getElem_toArray, List.getElem_cons_succ, List.getElem_cons_zero, Act.put, List.setIfInBounds_toArray, List.set_cons_zero, List.set_cons_succ]
      refine wpAnyH_take (i := 3) (v := ?_) rfl (by kernel_rfl) (by kernel_rfl) (by kernel_rfl) (fun _ _ _ h => h) (Or.inl ⟨by rfl, ?_⟩) (by assumption) ?_
      rotate_left
      · (intro w hSw; (try dsimp only at hSw); go_split_ands; go_simp; try with_reducible rfl)
      try simp only [List.getElem_toArray, List.getElem_cons_succ, List.getElem_cons_zero, Act.put, List.setIfInBounds_toArray, List.set_cons_zero, List.set_cons_succ]
      refine wpAnyH_take (i := 4) (v := ?_) rfl (by kernel_rfl) (by kernel_rfl) (by kernel_rfl) (fun _ _ _ h => h) (Or.inl ⟨by rfl, ?_⟩) (by assumption) ?_
      rotate_left
      · (intro w hSw; (try dsimp only at hSw); go_split_ands; go_simp; try with_reducible rfl)
      try simp only [List.getElem_toArray, List.getElem_cons_succ, List.getElem_cons_zero, Act.put, List.setIfInBounds_toArray, List.set_cons_zero, List.set_cons_succ]
      refine wpAnyH_take (i := 5) (v := ?_) rfl (by kernel_rfl) (by kernel_rfl) (by kernel_rfl) (fun _ _ _ h => h) (Or.inl ⟨by rfl, ?_⟩) (by assumption) ?_
      rotate_left
      · (intro w hSw; (try dsimp only at hSw); go_split_ands; go_simp; try with_reducible rfl)
      try simp only [List.getElem_toArray, List.getElem_cons_succ, List.getElem_cons_zero, Act.put, List.setIfInBounds_toArray, List.set_cons_zero, List.set_cons_succ]
      refine wpAnyH_take (i := 6) (v := ?_) rfl (by kernel_rfl) (by kernel_rfl) (by kernel_rfl) (fun _ _ _ h => h) (Or.inl ⟨by rfl, ?_⟩) (by assumption) ?_
      rotate_left
      · (intro w hSw; (try dsimp only at hSw); go_split_ands; go_simp; try with_reducible rfl)
      try simp only [List.getElem_toArray, List.getElem_cons_succ, List.getElem_cons_zero, Act.put, List.setIfInBounds_toArray, List.set_cons_zero, List.set_cons_succ]
      refine wpAnyH_take (i := 7) (v := ?_) rfl (by kernel_rfl) (by kernel_rfl) (by kernel_rfl) (fun _ _ _ h => h) (Or.inl ⟨by rfl, ?_⟩) (by assumption) ?_
      rotate_left
      · (intro w hSw; (try dsimp only at hSw); go_split_ands; go_simp; try with_reducible rfl)
      try simp only [List.getElem_toArray, List.getElem_cons_succ, List.getElem_cons_zero, Act.put, List.setIfInBounds_toArray, List.set_cons_zero, List.set_cons_succ]
      refine wpAnyH_take (i := 8) (v := ?_) rfl (by kernel_rfl) (by kernel_rfl) (by kernel_rfl) (fun _ _ _ h => h) (Or.inl ⟨by rfl, ?_⟩) (by assumption) ?_
      rotate_left
      · (intro w hSw; (try dsimp only at hSw); go_split_ands; go_simp; try with_reducible rfl)
      try simp only [List.getElem_toArray, List.getElem_cons_succ, List.getElem_cons_zero, Act.put, List.setIfInBounds_toArray, List.set_cons_zero, List.set_cons_succ]
      refine wpAnyH_ready (rs := [9]) (by kernel_rfl) (by simp) ?_
      refine (AllReadyH.cons rfl (fun K hK => ?_) AllReadyH.nil)
      refine Kd.R_append_rows_step k33 (w0 := wb.drew) (Rr := k33.K wb.drew) w1.heap.size (by rfl) (.tmp 22) (.tmp 24) 37 33 (.agg #[.int .i64 0, .int .i64 0]) 16 (by rfl) Try.underlying37 info33 rfl (by decide) (by decide) (.slice Av (idsOf (ds.take k) x0).length cv) (idsOf (ds.take k) x0) x1 A1 x1.length c1 (fun _ => True) (fun _ => False) (by rfl) (by rfl) (RowS.R HV.out.2.1) (Kd.C_below HX.out.1 (HV.out.2.2.2.1.drew)) ?_ (fun _ h => h.elim) (fun _ _ => trivial) (Below.refl _ _) HSZ.out (by have := HX.out.2.2.2; simp only at this; omega) ?_
      · intro y cs hK
        obtain rfl := k33_open hK
        exact k33_mkM _ _ _ y
      intro v5 w5 hR5 hb5 hg5 hat5
      obtain ⟨A5, c5, rfl⟩ := Kd.R_slice hR5
      have hm5 := HV.out.1.map.upd (Upd.of_grown hg5 (S := fun q => w1.heap.size ≤ q) (fun q hq => (HV.out.2.2.2.2.2 q hq).1)) (by have := HMS.out; omega)
      have hlk5 := hm5.lookS (x := x0) (WalkArith.wf_i64 (by have := HX.out.2.1.1; have := HX.out.2.1.2; simp only at *; omega))
      rw [HV.out.2.2.1] at hlk5
      have hbne : ∀ q, (Value.slice Av (idsOf (ds.take k) x0).length cv).ownBlock = some q → q ≠ wr.heap.size := fun q hq => by have := (HV.out.2.2.2.2.2 q hq).2; omega
      refine hK.out _ _ ?_ (fun hHeld => ?_)
      · exact ⟨cellG hg5 (fun e => hbne _ e.symm rfl) hHeld.1, cellG hg5 (fun e => hbne _ e.symm rfl) hHeld.2.1, hlk5⟩
      clear hK K
      try simp only [List.getElem_toArray, List.getElem_cons_succ, List.getElem_cons_zero, Act.put, List.setIfInBounds_toArray, List.set_cons_zero, List.set_cons_succ]
      refine wpAnyH_done (by kernel_rfl) ?_ _
      refine lastPost_wp ?_
      clear hHeld hvw b0 b1 hm5 hlk5 hbne
      have hP := MG.put HV.out.1 HMS.out ⟨x0, x1⟩ HX.out.2.1.1 HX.out.2.1.2 (RowS.of_R hR5) (by rw [HV.out.2.2.1]; exact hg5) (by rw [HV.out.2.2.1]; exact hat5)
      obtain ⟨w6, hrun, hM6, hU6⟩ := hP
      have HN := Lib.hid (And.intro hM6 hU6)
      simp only at hrun
      clear hR5 hb5 hg5 hat5 hM6 hU6
      generalize idsOf (ds.take k) x0 ++ x1 = Z at *
      go_wp2_with fail
      go_roundw
      case rel => exact ⟨k + 1, _, by go_num, by omega, Lib.hid ⟨by rw [HX.out.2.2.1]; exact HN.out.1, HG.out.2.then_new ((Upd.of_below (HV.out.2.2.2.1.drew) _).trans HN.out.2)⟩⟩
      case measure => simp [intOf]; omega
    · obtain rfl : k = ds.length := by omega
      have hG := HG.out.1
      rw [List.take_length] at hG
      obtain ⟨wk, hwk⟩ : ∃ wk, wr.alloc (.cells #[.map (some w.heap.size)] 57) = wk := ⟨_, rfl⟩
      have hBk : Below wr.heap.size wr wk := hwk ▸ (Below.refl _ _).alloc (Nat.le_refl _) _
      have hTk : Blk wk wr.heap.size 57 #[.map (some w.heap.size)] := hwk ▸ Blk.new wr 57 _
      have hkey : ∀ n x, f n = some x → 0 ≤ n ∧ n ≤ 1000 := fun n x hx => by
        have := hG.has n
        rw [hx] at this
        unfold hasOf at this
        obtain ⟨d, hd, he⟩ := List.any_eq_true.1 this.symm
        have h1 := HSH.out d hd
        have : d.f0 = n := by simpa using he
        omega
      have HKY := Lib.hid (keysIS_any (some w.heap.size) wr)
      have hso := sortedIS_any (hG.map.below hBk) hkey hTk.lt (hTk.cell 0)
      rw [keysF_D hG] at hso
      have HSO := Lib.hid hso
      have HG2 := Lib.hid (And.intro hG (And.intro hBk (And.intro hkey (And.intro hTk.lt HG.out.2))))
      have hwb : Below w.heap.size w wr := HH.out.1.trans ((HO1.out.2.mono (by have := HH.out.2.1; omega)).trans (HG.out.2.below (B := w.heap.size) (by have := HO1.out.2.size; have := HH.out.2.1; omega) (fun q hq e => by omega)))
      have HWB := Lib.hid hwb
      clear hG hBk hTk hkey hso HG hwb
      go_wp2_with fail
      refine HKY.out.mono ?_
      rintro e wq ⟨rfl, rfl⟩
      rw [hwk]
      go_wp2_with fail
      refine HSO.out.mono ?_
      rintro e w8 ⟨v8, rfl, ho8, hb8⟩
      have HO8 := Lib.hid (And.intro ho8 (HG2.out.2.1.trans (hb8.mono (Nat.le_of_lt HG2.out.2.2.2.1))))
      obtain ⟨A8, c8, rfl, hR8⟩ := own_reads ho8
      clear ho8 hb8 hwk
      generalize hK : keysD ds = K at *
      have HK := Lib.hid (And.intro hK hR8)
      clear hK hR8
      go_wp2
      go_loopw [2, 31] (fun so si wt => ∃ (j : Nat) (A' : Option Addr) (c' : Nat), so = .slice A' j c' ∧ si = .int .i64 (j : Int) ∧ j ≤ K.length ∧ RowKit.Hid (Kd.S k39 39 wt w8.heap.size (fun _ => True) (.slice A' j c') ((K.take j).map fun x => (⟨x, setS (idsOf ds x)⟩ : S39)) ∧ Below w8.heap.size w8 wt)) (fun _ si _ => K.length - (intOf si).toNat)
      case atStart => exact ⟨0, none, 0, rfl, rfl, by omega, Lib.hid ⟨by simpa using Kd.S_nil k39 39 w8 w8.heap.size (fun _ => True), Below.refl _ _⟩⟩
      case round =>
        obtain ⟨j, A', c', rfl, rfl, hj, HS⟩ := hrel
        by_cases hlt : j < K.length
        · obtain ⟨ad8, rfl, hcell⟩ := HK.out.2.2.2 (by omega)
          have hck := pw_cell_below HS.out.2 (hcell j hlt)
          have hMt := HG2.out.1.below (HO8.out.2.mono (Nat.le_refl _))
          have hMt := hMt.below (HS.out.2)
          have htk : K.take (j + 1) = K.take j ++ [K[j]] := List.take_succ_eq_append_getElem hlt
          have hmem : K[j] ∈ keysD ds := by rw [HK.out.1]; exact List.getElem_mem hlt
          have hx01 : 0 ≤ K[j] ∧ K[j] ≤ 1000 := by
            unfold keysD at hmem
            obtain ⟨n, hn, he⟩ := List.mem_map.1 hmem
            have := List.mem_range.1 (List.mem_filter.1 hn).1
            omega
          rw [show K.getD j 0 = K[j] by rw [List.getD_eq_getElem?_getD, List.getElem?_eq_getElem hlt]; rfl] at hck
          generalize K[j] = x at *
          have hlk := hMt.map.lookS (x := x) (WalkArith.wf_i64 (by omega))
          have hv := hMt.at_ x
          obtain ⟨Av, cv, hve⟩ := own_slice hv
          rw [hve] at hv hlk
          obtain ⟨_, _, e3, _, hCv⟩ := Kd.R_reads (RowS.R hv)
          injection e3 with e3 _ e4
          subst e3 e4
          have hil := idsOf_take_le ds ds.length x
          rw [List.take_length] at hil
          have HMK := Lib.hid (make_any x Av cv (idsOf ds x) wr hCv (by have := HI.out; omega))
          have hlv : ∀ q, (Value.slice A' j c').ownBlock = some q → q < wr.heap.size := Kd.S_lt HS.out.1
          have HX2 := Lib.hid (And.intro htk (And.intro hx01 hlv))
          have HWT := Lib.hid (show Below w.heap.size w wr from HWB.out.trans ((HO8.out.2.mono HWB.out.size).trans (HS.out.2.mono (Nat.le_trans HWB.out.size HO8.out.2.size))))
          have HKC := Lib.hid (cardF_le f)
          have hKl : K.length ≤ 1001 := by
            rw [← HK.out.1]; unfold keysD
            rw [List.length_map]
            exact Nat.le_trans (List.length_filter_le _ _) (by simp)
          have HKL := Lib.hid hKl
          clear hcell hMt htk hmem hx01 hv hve hCv hil hlv hKl
          generalize hid : idsOf ds x = ids at *
          have HID := Lib.hid hid
          clear hid
          go_wp2_with fail
          refine HMK.out.mono ?_
          rintro e wm ⟨w2, v2, rfl, rfl, ho2, hb2⟩
          have HO2 := Lib.hid (And.intro ho2 hb2)
          obtain ⟨A5, c5, rfl⟩ := own_slice ho2
          clear ho2 hb2
          go_wp2_with (first | ((with_reducible refine gate_builtin (b := .append) (xs := #[.tmp 35, .tmp 40]) rfl ?_); at_builtin; refine stop_append rfl ?_))
          refine Lib.hid ?_
          refine Kd.S_append k39 (w0 := w8) w8.heap.size rfl (.tmp 35) (.tmp 40) 24 39 (.agg #[.int .i64 0, .slice none 0 0]) 32 rfl Try.underlying24 infoD rfl (by decide) (by decide) (.slice A' j c') ((K.take j).map fun x => (⟨x, setS (idsOf ds x)⟩ : S39)) ⟨x, setS ids⟩ [.int .i64 x, .slice A5 (setS ids).length c5] (fun _ => True) (fun q => wr.heap.size ≤ q) rfl rfl ?_ ?_ (fun _ _ => trivial) ?_ (HS.out.2.trans (HO2.out.2.mono HS.out.2.size)) (Nat.le_trans HS.out.2.size HO2.out.2.size) ?_ ?_
          · exact k39_mkM _ _ _ _ (Kd.R_lower (Kd.R_mono (Kd.R_bound (RowS.R HO2.out.1)) (fun q hq => hq.2.1)) HS.out.2.size)
          · intro q hq
            exact ⟨trivial, fun e => by have := HX2.out.2.2 q e.symm; omega⟩
          · exact Kd.S_below (Kd.S_mono (Kd.S_bound HS.out.1) (fun q hq => ⟨trivial, by have := hq.2.2.1; omega⟩)) HO2.out.2
          · have := HKL.out
            simp
            omega
          intro v4 w4 hS4 hB4 _ _
          rw [← HID.out, show ((K.take j).map fun x => (⟨x, setS (idsOf ds x)⟩ : S39)) ++ [⟨x, setS (idsOf ds x)⟩] = (K.take (j + 1)).map fun x => (⟨x, setS (idsOf ds x)⟩ : S39) by rw [HX2.out.1]; simp] at hS4
          have HN := Lib.hid (And.intro hS4 hB4)
          obtain ⟨A4, c4, e4⟩ := Kd.S_slice hS4
          have hln : ((K.take (j + 1)).map fun x => (⟨x, setS (idsOf ds x)⟩ : S39)).length = j + 1 := by simp; omega
          rw [hln] at e4
          subst e4
          clear hS4 hB4 hln
          have hKl := HKL.out
          go_wp2_with fail
          go_roundw
          case rel => exact ⟨j + 1, A4, c4, rfl, by go_num, by omega, HN⟩
          case measure => simp [intOf]; omega
        · obtain rfl : j = K.length := by omega
          go_wp2
          go_ret
          refine ⟨_, rfl, ?_, HWB.out.trans ((HO8.out.2.mono HWB.out.size).trans (HS.out.2.mono (Nat.le_trans HWB.out.size HO8.out.2.size)))⟩
          have := Kd.S_lower HS.out.1 (Nat.le_trans HWB.out.size HO8.out.2.size)
          rw [List.take_length] at this
          unfold mergeD
          rw [HK.out.1]
          exact this
end Go.Proofs.Ytaedlmeaconflaa.P
end
section
set_option linter.unusedVariables false
set_option linter.unusedSimpArgs false
namespace Go.Proofs.Ytaedlmeaconflaa.P
open Go.RowKit Go.Shelf Go.Proofs.YtaedlmeaconflaaW.PrintWords Go.Proofs.YtaedlmeaconflaaW.PrintLast Go.Proofs.YtaedlmeaconflaaW.PrintMore
def laidS (s : S33) : List Int := laidI s.f0 ++ laidI s.f1
def laidSs (l : List S33) : List Int := (l.map laidS).flatten
theorem laidS_len (s : S33) : (laidS s).length = 16 := by unfold laidS; rw [List.length_append, laidI_len, laidI_len]
theorem laidSs_len (l : List S33) : (laidSs l).length = 16 * l.length := by
  induction l with
  | nil => rfl
  | cons x l ih => unfold laidSs at ih ⊢; rw [List.map_cons, List.flatten_cons, List.length_append, ih, laidS_len, List.length_cons]; omega
theorem laidSs_snoc (l : List S33) {k : Nat} (hk : k < l.length) : laidSs (l.take (k + 1)) = laidSs (l.take k) ++ laidS l[k] := by
  unfold laidSs
  rw [List.take_succ_eq_append_getElem hk, List.map_append, List.flatten_append]; simp
theorem C_blkI {W : World} {b : Nat} {t : TypeId} (xs : List Int) (h : Blk W b t (xs.map (Value.int .i64)).toArray) (hm : xs.length ≤ 1000) : Kd.C (Kd.int .i64) W (some ⟨b, 0, none⟩) xs.length xs := by
  refine ⟨rfl, by omega, fun _ => ⟨_, rfl, fun j p hj => ⟨[.int .i64 p], rfl, rfl, fun i u hu => ?_⟩⟩⟩
  rcases i with _ | i
  · simp only [List.getElem?_cons_zero, Option.some.injEq] at hu
    subst hu
    have := h.cell j
    rw [show (⟨b, 0, none⟩ : Addr).add (j * (Kd.int .i64).sz + 0) = ⟨b, j, none⟩ by rw [show (Kd.int .i64).sz = 1 from rfl, Nat.mul_one, Nat.add_zero, add_plain]]
    rw [this]
    simp [hj]
  · simp at hu
theorem RowB.lower {w : World} {b b' : Nat} {v : Value} {xs : List Int} (h : RowB w b v xs) (hb : b' ≤ b) : RowB w b' v xs :=
  ⟨h.1, h.2.imp id fun ⟨g, cap, cur, h1, h2, h3⟩ => ⟨g, cap, cur, h1, Nat.le_trans hb h2, h3⟩⟩
section
variable {base g : Nat} {xs : List Int}
set_option maxHeartbeats 1000000 in
theorem pnStamp_any (A : Option Addr) (c : Nat) (l : List S33) (w : World) (h : PenIs w base g xs) (hC : ∀ W, KB base w W → Kd.C k33 W A l.length l) (hl : xs.length + 16 * l.length ≤ 130000000000000) : Calls Try.prog 41 #[ptr g, .slice A l.length c] w fun e w' => e = .returned (.tuple #[]) ∧ PenIs w' base g (xs ++ laidSs l) ∧ KB base w w' := by
  have hlz := Kd.C_max (hC w (KB.refl _ _))
  have HC := Lib.hid hC; have H := Lib.hid h; clear h hC
  go_enter Try.func41, Try.ntmps41
  go_wp2
  go_loopw [8] (fun kv wr => ∃ k : Nat, kv = .int .i64 k ∧ k ≤ l.length ∧ RowKit.Hid (PenIs wr base g (xs ++ laidSs (l.take k)) ∧ KB base w wr)) (fun k _ => l.length - (intOf k).toNat)
  case atStart => exact ⟨0, rfl, Nat.zero_le _, Lib.hid ⟨by simpa [laidSs] using H.out, KB.refl _ _⟩⟩
  case round =>
    obtain ⟨k, rfl, hk, HP⟩ := hrel
    by_cases hlt : k < l.length
    · rcases A with _ | ad
      · exact absurd ((HC.out wr HP.out.2).2.2 (by omega)) (by simp)
      obtain ⟨c0, c1⟩ := C_atS (HC.out wr HP.out.2) k hlt
      have hsn := laidSs_snoc l hlt
      have hY : (xs ++ laidSs (l.take k)).length + 8 * 2 ≤ 140000000000000 := by rw [List.length_append, laidSs_len, List.length_take]; omega
      generalize l[k] = x at *
      obtain ⟨x0, x1⟩ := x
      obtain ⟨w2, hw2⟩ : ∃ w2, (wr.alloc (.cells #[.int .i64 x0, .int .i64 x1] 33)).alloc (.cells #[.int .i64 x0, .int .i64 x1] 2) = w2 := ⟨_, rfl⟩
      have hb2 : Below wr.heap.size wr w2 := hw2 ▸ ((Below.refl _ _).alloc (Nat.le_refl _) _).alloc (by simp) _
      have hlit : Blk w2 (wr.heap.size + 1) 2 #[.int .i64 x0, .int .i64 x1] := by
        have := Blk.new (wr.alloc (.cells #[.int .i64 x0, .int .i64 x1] 33)) 2 #[.int .i64 x0, .int .i64 x1]
        rw [hw2] at this
        simpa using this
      have hge : base ≤ wr.heap.size := Nat.le_trans HP.out.1.ge (Nat.le_of_lt HP.out.1.lt)
      have hin := pnInt_any (some ⟨wr.heap.size + 1, 0, none⟩) 2 [x0, x1] w2 (HP.out.1.below hb2) (fun W hW => C_blkI [x0, x1] (hW.k _ _ _ (by decide) (by decide) hlit) (by simp)) (by simpa using hY)
      have HIN := Lib.hid hin
      have HX := Lib.hid (And.intro hsn (And.intro (KB.of_below hb2 hge) hge))
      clear hin hsn hlit hge hb2 hY
      go_wp2_with fail
      refine HIN.out.mono ?_
      rintro e w3 ⟨rfl, hP3, hB3⟩
      have HN := Lib.hid (And.intro hP3 hB3)
      clear hP3 hB3
      go_wp2_with fail
      go_roundw
      case rel => exact ⟨k + 1, by go_num, by omega, Lib.hid ⟨by rw [HX.out.1]; simpa [laidIs, laidS, List.append_assoc] using HN.out.1, HP.out.2.trans (HX.out.2.1.trans HN.out.2)⟩⟩
      case measure => simp [intOf]; omega
    · obtain rfl : k = l.length := by omega
      have hP := HP.out
      rw [List.take_length] at hP
      go_wp2
      (try simp only [Exit.inBlock, Exit.then]); refine bodyPost_end (results_none rfl _ _ _) rfl ?_
      exact ⟨rfl, hP⟩
def laidStamps (l : List S33) : List Int := laidI (l.length : Int) ++ laidSs l
theorem laidStamps_len (l : List S33) : (laidStamps l).length = 8 + 16 * l.length := by unfold laidStamps; rw [List.length_append, laidI_len, laidSs_len]
set_option maxHeartbeats 1000000 in
theorem pnStamps_any (A : Option Addr) (c : Nat) (l : List S33) (w : World) (h : PenIs w base g xs) (hC : ∀ W, KB base w W → Kd.C k33 W A l.length l) (hl : xs.length + 16 * l.length ≤ 120000000000000) : Calls Try.prog 21 #[ptr g, .slice A l.length c] w fun e w' => e = .returned (.tuple #[]) ∧ PenIs w' base g (xs ++ laidStamps l) ∧ KB base w w' := by
  obtain ⟨w2, hw2⟩ : ∃ w2, w.alloc (.cells #[.int .i64 (l.length : Int)] 2) = w2 := ⟨_, rfl⟩
  have hb2 : Below w.heap.size w w2 := hw2 ▸ (Below.refl _ _).alloc (Nat.le_refl _) _
  have hlit : Blk w2 w.heap.size 2 #[.int .i64 (l.length : Int)] := hw2 ▸ Blk.new w 2 _
  have hge : base ≤ w.heap.size := Nat.le_trans h.ge (Nat.le_of_lt h.lt)
  have hk2 : KB base w w2 := KB.of_below hb2 hge
  have hin := pnInt_any (some ⟨w.heap.size, 0, none⟩) 1 [(l.length : Int)] w2 (h.below hb2) (fun W hW => C_blkI [(l.length : Int)] (hW.k _ _ _ (by decide) (by decide) hlit) (by simp)) (by simp; omega)
  have HIN := Lib.hid hin
  have HX := Lib.hid (And.intro hk2 (And.intro hC hl))
  clear hin hlit hge hb2 hk2 h hC hl
  go_enter Try.func21, Try.ntmps21
  go_wp2_with fail
  refine HIN.out.mono ?_
  rintro e w3 ⟨rfl, hP3, hB3⟩
  have hst := pnStamp_any A c l w3 hP3 (fun W hW => HX.out.2.1 W (HX.out.1.trans (hB3.trans hW))) (by have := HX.out.2.2; simp [laidIs, laidI_len]; omega)
  have HST := Lib.hid (And.intro hst hB3)
  clear hst hP3 hB3
  go_wp2_with fail
  refine HST.out.1.mono ?_
  rintro e w4 ⟨rfl, hP4, hB4⟩
  have HN := Lib.hid (And.intro hP4 hB4)
  clear hP4 hB4
  go_wp2_with fail
  (try simp only [Exit.inBlock, Exit.then]); refine bodyPost_end (results_none rfl _ _ _) rfl ?_
  exact ⟨rfl, by simpa [laidIs, laidStamps, List.append_assoc] using HN.out.1, HX.out.1.trans (HST.out.2.trans HN.out.2)⟩
def laidD (d : S39) : List Int := laidI d.f0 ++ laidStamps d.f1
def laidDs (ds : List S39) : List Int := (ds.map laidD).flatten
theorem laidD_len (d : S39) : (laidD d).length = 16 + 16 * d.f1.length := by unfold laidD; rw [List.length_append, laidI_len, laidStamps_len]; omega
theorem laidDs_snoc (l : List S39) {k : Nat} (hk : k < l.length) : laidDs (l.take (k + 1)) = laidDs (l.take k) ++ laidD l[k] := by
  unfold laidDs
  rw [List.take_succ_eq_append_getElem hk, List.map_append, List.flatten_append]; simp
theorem laidDs_take_le (l : List S39) (k : Nat) : (laidDs (l.take k)).length ≤ (laidDs l).length := by
  unfold laidDs
  conv => rhs; rw [← List.take_append_drop k l, List.map_append, List.flatten_append, List.length_append]
  omega
def laidDeps (ds : List S39) : List Int := laidI (ds.length : Int) ++ laidDs ds
end
set_option maxHeartbeats 2000000 in
set_option maxRecDepth 100000 in
theorem put_any (A : Option Addr) (c : Nat) (ds : List S39) (w : World) (hr : Kd.C k39 w A ds.length ds) (hl : (laidDs ds).length ≤ 1099511627776) (hn : ds.length ≤ 1099511627776) :
    Calls Try.prog 7 #[.slice A ds.length c] w fun e w' => ∃ v, e = .returned v ∧ RowB w' w.heap.size v (laidDeps ds) ∧ Below w.heap.size w w' := by
  obtain ⟨w1, hw1⟩ : ∃ w1, w.alloc (.cells #[.slice none 0 0] 50) = w1 := ⟨_, rfl⟩
  have hb1 : Below w.heap.size w w1 := hw1 ▸ (Below.refl _ _).alloc (Nat.le_refl _) _
  have hP1 : PenIs w1 w.heap.size w.heap.size [] := hw1 ▸ PenIs.new w
  have hs1 : w.heap.size < w1.heap.size := hP1.lt
  obtain ⟨w2, hw2⟩ : ∃ w2, w1.alloc (.cells #[.int .i64 (ds.length : Int)] 2) = w2 := ⟨_, rfl⟩
  have hb2 : Below w1.heap.size w1 w2 := hw2 ▸ (Below.refl _ _).alloc (Nat.le_refl _) _
  have hlit : Blk w2 w1.heap.size 2 #[.int .i64 (ds.length : Int)] := hw2 ▸ Blk.new w1 2 _
  have hin := pnInt_any (some ⟨w1.heap.size, 0, none⟩) 1 [(ds.length : Int)] w2 (hP1.below hb2) (fun W hW => C_blkI [(ds.length : Int)] (hW.k _ _ _ (by decide) (by decide) hlit) (by simp)) (by simp)
  have HIN := Lib.hid hin
  have HX := Lib.hid (And.intro (hb1.trans (hb2.mono (Nat.le_of_lt hs1))) (And.intro hr (And.intro hl hs1)))
  clear hin hlit hb1 hb2 hP1 hs1 hr hl
  go_enter Try.func7, Try.ntmps7
  go_wp2_with fail
  refine HIN.out.mono ?_
  rintro e w3 ⟨rfl, hP3, hB3⟩
  have HN := Lib.hid (And.intro hP3 hB3)
  clear hP3 hB3
  go_wp2
  go_loopw [15] (fun kv wr => ∃ k : Nat, kv = .int .i64 (k : Int) ∧ k ≤ ds.length ∧ RowKit.Hid (PenIs wr w.heap.size w.heap.size (laidI (ds.length : Int) ++ laidDs (ds.take k)) ∧ Below w.heap.size w wr)) (fun k _ => ds.length - (intOf k).toNat)
  case atStart => exact ⟨0, rfl, Nat.zero_le _, Lib.hid ⟨by simpa [laidDs, laidIs] using HN.out.1, HX.out.1.trans HN.out.2.b⟩⟩
  case round =>
    obtain ⟨k, rfl, hk, HP⟩ := hrel
    by_cases hlt : k < ds.length
    · rcases A with _ | ad
      · exact absurd (HX.out.2.1.2.2 (by omega)) (by simp)
      obtain ⟨A1, c1, d0, d1, hlc, hCx⟩ := C_atD HX.out.2.1 k hlt
      have d0 := pw_cell_below HP.out.2 d0
      have d1 := pw_cell_below HP.out.2 d1
      have hsn := laidDs_snoc ds hlt
      have hle := laidDs_take_le ds (k + 1)
      rw [hsn, List.length_append, laidD_len] at hle
      generalize ds[k] = x at *
      obtain ⟨x0, x1⟩ := x
      simp only at hle hlc hCx d0 d1
      obtain ⟨wb, hwb⟩ : ∃ wb, wr.alloc (.cells #[.int .i64 x0, .slice A1 x1.length c1] 39) = wb := ⟨_, rfl⟩
      have hBb : Below wr.heap.size wr wb := hwb ▸ (Below.refl _ _).alloc (Nat.le_refl _) _
      have hT : Blk wb wr.heap.size 39 #[.int .i64 x0, .slice A1 x1.length c1] := hwb ▸ Blk.new wr 39 _
      obtain ⟨wc, hwc⟩ : ∃ wc, wb.alloc (.cells #[.int .i64 x0] 2) = wc := ⟨_, rfl⟩
      have hBc : Below wb.heap.size wb wc := hwc ▸ (Below.refl _ _).alloc (Nat.le_refl _) _
      have hlit : Blk wc wb.heap.size 2 #[.int .i64 x0] := hwc ▸ Blk.new wb 2 _
      have hTc : Blk wc wr.heap.size 39 #[.int .i64 x0, .slice A1 x1.length c1] := hT.below hBc hT.lt
      have hbc : Below wr.heap.size wr wc := hBb.trans (hBc.mono hBb.size)
      have hge : w.heap.size ≤ wr.heap.size := HP.out.2.size
      have hlX : (laidI (ds.length : Int) ++ laidDs (ds.take k)).length + (16 + 16 * x1.length) ≤ 2199023255552 := by
        rw [List.length_append, laidI_len]; have := HX.out.2.2.1; omega
      have hin := pnInt_any (some ⟨wb.heap.size, 0, none⟩) 1 [x0] wc (HP.out.1.below hbc) (fun W hW => C_blkI [x0] (hW.k _ _ _ (by decide) (by decide) hlit) (by simp)) (by simp only [List.length_cons, List.length_nil]; omega)
      have hc00 : wb.cell? ⟨wr.heap.size, 0, none⟩ = some (.int .i64 x0) := hT.cell 0
      have HIN := Lib.hid hin
      have HD := Lib.hid (And.intro hsn (And.intro hCx (And.intro hTc (And.intro (KB.of_below hbc hge) hlX))))
      clear hin hsn hle hCx hT hTc hBb hBc hbc hlit hge hlX
      go_wp2_with fail
      refine HIN.out.mono ?_
      rintro e w5 ⟨rfl, hP5, hB5⟩
      have hT5 := hB5.k _ _ _ (by decide) (by decide) HD.out.2.2.1
      have hc51 : w5.cell? ⟨wr.heap.size, 1, none⟩ = some (.slice A1 x1.length c1) := hT5.cell 1
      have hw5 : Below w.heap.size w w5 := HP.out.2.trans (HD.out.2.2.2.1.b.trans hB5.b)
      have hst := pnStamps_any A1 c1 x1 w5 hP5 (fun W hW => Kd.C_below HD.out.2.1 (hw5.trans hW.b)) (by have := HD.out.2.2.2.2; simp only [laidIs, List.map_cons, List.map_nil, List.flatten_cons, List.flatten_nil, List.append_nil, List.length_append, laidI_len] at *; omega)
      have HST := Lib.hid (And.intro hst hw5)
      clear hst hP5 hB5 hT5 hw5
      go_wp2_with fail
      refine HST.out.1.mono ?_
      rintro e w6 ⟨rfl, hP6, hB6⟩
      have HN6 := Lib.hid (And.intro hP6 hB6)
      clear hP6 hB6
      go_wp2_with fail
      go_roundw
      case rel => exact ⟨k + 1, by go_num, by omega, Lib.hid ⟨by rw [HD.out.1]; simpa [laidIs, laidD, List.append_assoc] using HN6.out.1, HST.out.2.trans HN6.out.2.b⟩⟩
      case measure => simp [intOf]; omega
    · obtain rfl : k = ds.length := by omega
      have hP := HP.out
      rw [List.take_length] at hP
      obtain ⟨Z, hZ⟩ : ∃ Z, laidDeps ds = Z := ⟨_, rfl⟩
      rw [show laidI (ds.length : Int) ++ laidDs ds = Z from hZ] at hP
      have hbt := pnBytes_any wr hP.1 (by rw [← hZ]; unfold laidDeps; rw [List.length_append, laidI_len]; have := HX.out.2.2.1; omega)
      have HZ := Lib.hid hZ
      clear hZ
      have HBT := Lib.hid (And.intro hbt hP)
      clear hbt hP
      go_wp2_with fail
      refine HBT.out.1.mono ?_
      rintro e w4 ⟨v4, rfl, ho4, hb4⟩
      have HO := Lib.hid (And.intro ho4 hb4)
      obtain ⟨A5, c5, rfl⟩ := own_slice ho4
      clear ho4 hb4
      go_wp2
      go_ret
      exact ⟨_, rfl, by rw [HZ.out]; exact RowB.lower HO.out.1 HBT.out.2.2.size, HBT.out.2.2.trans (HO.out.2.mono HBT.out.2.2.size)⟩
def deps_Put.f (d : List S39) : Option (List Int) := if (laidDs d).length ≤ 1099511627776 ∧ d.length ≤ 1099511627776 then some (laidDeps d) else none
theorem deps_Put.calls (A0 : Option Addr) (c0 : Nat) (l0 : List S39) (r : List Int) (w : World) (hr0 : Kd.C k39 w A0 l0.length l0) (_hc0 : l0.length ≤ c0) (h : deps_Put.f l0 = some r) :
    Calls Try.prog 7 #[.slice A0 l0.length c0] w fun e w' => ∃ v0_ : Value, e = .returned (v0_) ∧ Kd.R (Kd.int .u8) 5 w' w.heap.size (fun _ => True) v0_ r ∧ Below w.heap.size w w' := by
  unfold deps_Put.f at h
  split at h
  · rename_i hc
    injection h with h
    subst h
    exact (put_any A0 c0 l0 w hr0 hc.1 hc.2).mono fun e w' ⟨v, he, ho, hb⟩ => ⟨v, he, Kd.R_of_own ho (fun _ _ => trivial), hb⟩
  · cases h
end Go.Proofs.Ytaedlmeaconflaa.P
end
section
set_option linter.unusedVariables false
set_option linter.unusedSimpArgs false
namespace Go.Proofs.Ytaedlmeaconflaa.P
open Go.RowKit Go.Proofs.YtaedlmeaconflaaW.PrintWords Go.Proofs.YtaedlmeaconflaaW.PrintLast Go.Proofs.YtaedlmeaconflaaW.PrintMore
def readS (xs : List Int) : S33 := ⟨i64 (numOf xs 8), i64 (numOf (xs.drop 8) 8)⟩
def readSs (n : Nat) (xs : List Int) : List S33 := (List.range n).map fun k => readS (xs.drop (16 * k))
theorem readSs_snoc (n : Nat) (xs : List Int) : readSs (n + 1) xs = readSs n xs ++ [readS (xs.drop (16 * n))] := by unfold readSs; rw [List.range_succ, List.map_append]; rfl
theorem readSs_len (n : Nat) (xs : List Int) : (readSs n xs).length = n := by simp [readSs]
section
variable {w : World} {g ab be : Nat} {xs : List Int}
theorem flstamp_ok (h : EyeIs w g ab xs false) (hx : bytesOk xs) (hl : 16 ≤ xs.length) : Calls Try.prog 39 #[ptr g] w fun e w' => e = .returned (.agg #[.int .i64 (readS xs).f0, .int .i64 (readS xs).f1]) ∧ EyeIs w' g ab (xs.drop 16) false ∧ Upd w w' (· = g) := by
  obtain ⟨w1, hw1⟩ : ∃ w1, w.alloc (.cells #[.int .i64 0, .int .i64 0] 33) = w1 := ⟨_, rfl⟩
  have hb1 : Below w.heap.size w w1 := hw1 ▸ (Below.refl _ _).alloc (Nat.le_refl _) _
  have hT : Blk w1 w.heap.size 33 #[.int .i64 0, .int .i64 0] := hw1 ▸ Blk.new w 33 _
  have hlt := h.lt
  have hab := h.old
  have hn := number_ok (h.below hb1) hx 8 (by omega) (by omega)
  have hi := i64_wrap (n := numOf xs 8) (numOf_lt hx 8)
  have hi2 := i64_wrap (n := numOf (xs.drop 8) 8) (numOf_lt (bytesOk_drop hx 8) 8)
  have hrs : readS xs = ⟨i64 (numOf xs 8), i64 (numOf (xs.drop 8) 8)⟩ := rfl
  rw [hrs]
  have HN := Lib.hid hn
  have HX := Lib.hid (And.intro hb1 (And.intro hT (And.intro hlt (And.intro hab hx))))
  clear hn hb1 hT hlt hab hx h hrs
  generalize hm : numOf xs 8 = m at *
  generalize hm2 : numOf (xs.drop 8) 8 = m2 at *
  have HM := Lib.hid (And.intro hm hm2)
  clear hm hm2
  go_enter Try.func39, Try.ntmps39
  go_wp2_with fail
  refine HN.out.mono ?_
  rintro e w2 ⟨rfl, hE2, hu2⟩
  have hn2 := number_ok hE2 (bytesOk_drop HX.out.2.2.2.2 8) 8 (by rw [List.length_drop]; omega) (by omega)
  rw [HM.out.2, List.drop_drop] at hn2
  have HN2 := Lib.hid (And.intro hn2 hu2)
  clear hn2 hE2 hu2
  go_wp2_with fail
  refine HN2.out.1.mono ?_
  rintro e w3 ⟨rfl, hE3, hu3⟩
  have hT3 := HX.out.2.1.upd (HN2.out.2.trans hu3) (fun e => by have := HX.out.2.2.1; omega)
  have hc0 : w3.cell? ⟨w.heap.size, 0, none⟩ = some (.int .i64 0) := hT3.cell 0
  have hc1 : w3.cell? ⟨w.heap.size, 1, none⟩ = some (.int .i64 0) := hT3.cell 1
  have hz0 := hT3.frozen 0
  have hz1 := hT3.frozen 1
  have HE := Lib.hid (And.intro hE3 (And.intro hu3 hT3))
  clear hE3 hu3 hT3
  obtain ⟨w4, hw4⟩ : ∃ w4, (w3.setCell ⟨w.heap.size, 0, none⟩ (.int .i64 (i64 m))).setCell ⟨w.heap.size, 1, none⟩ (.int .i64 (i64 m2)) = w4 := ⟨_, rfl⟩
  go_wp2_with fail
  obtain ⟨hE3, hu3, hT3⟩ := HE.out
  have hT4 : Blk w4 w.heap.size 33 #[.int .i64 (i64 m), .int .i64 (i64 m2)] := hw4 ▸ (hT3.set_ 0 (.int .i64 (i64 m))).set_ 1 (.int .i64 (i64 m2))
  have hu4 : Upd w3 w4 (· = w.heap.size) := hw4 ▸ ((Upd.refl w3 (· = w.heap.size)).setCell (p := ⟨w.heap.size, 0, none⟩) (.inl rfl) _).setCell (p := ⟨w.heap.size, 1, none⟩) (.inl rfl) _
  obtain ⟨hb1, _, hlt, hab, _⟩ := HX.out
  refine bodyPost_ret (results_cell_row (by rfl) _ _ w.heap.size 33 #[.int .i64 (i64 m), .int .i64 (i64 m2)] (0, 0) _ (by rfl) hT4 Try.underlying33 (by rfl) (by kernel_rfl)) rfl ?_
  refine ⟨rfl, ?_, ?_⟩
  · exact hE3.upd hu4 (fun e => by omega) (fun e => by omega)
  · refine ((Upd.of_below hb1 (· = g)).trans (HN2.out.2.trans hu3)).then_new (hu4.mono fun k _ hk => .inr ?_)
    omega
def stOk (xs : List Int) : Bool := decide (8 ≤ xs.length ∧ 0 ≤ i64 (numOf xs 8) ∧ i64 (numOf xs 8) ≤ ((xs.length - 8) / 16 : Nat))
def sStamps (s : Sight) : List S33 × Sight := if s.2 = true ∨ stOk s.1 = false then ([], (s.1, true)) else (readSs (i64 (numOf s.1 8)).toNat (s.1.drop 8), (s.1.drop (8 + 16 * (i64 (numOf s.1 8)).toNat), false))
set_option maxHeartbeats 2000000 in
set_option maxRecDepth 100000 in
theorem stamps1_ok (h : EyeIs w g ab xs false) (hx : bytesOk xs) (he : w.cell? ⟨be, 0, none⟩ = some (ptr g)) (hbe : be ≠ g) (n : Nat) (hl : 8 + 16 * n ≤ xs.length) (hn : i64 (numOf xs 8) = (n : Int)) (hxl : xs.length ≤ 1099511627776) :
    Calls Try.prog 37 #[ptr be] w fun e w' => ∃ v, e = .returned v ∧ RowS w' w.heap.size v (readSs n (xs.drop 8)) ∧ EyeIs w' g ab (xs.drop (8 + 16 * n)) false ∧ Upd w w' (· = g) := by
  have hnum := number_ok h hx 8 (by omega) (by omega)
  have hi := i64_wrap (n := numOf xs 8) (numOf_lt hx 8)
  rw [hn] at hi
  generalize numOf xs 8 = m at *
  have HN := Lib.hid hnum
  have HX := Lib.hid (And.intro hx (And.intro he hbe))
  have HG := Lib.hid (And.intro h.lt h.old)
  clear h hnum hx hn
  go_enter Try.func37, Try.ntmps37
  go_wp2_with fail
  refine HN.out.mono ?_
  rintro e w1 ⟨rfl, hE1, hu1⟩
  have he1 : w1.cell? ⟨be, 0, none⟩ = some (ptr g) := (World.cell?_of_block (w := w) (hu1.block be (World.block_lt_of_cell? w _ he) hbe)).trans he
  obtain ⟨A, c, hB, hAc, hF⟩ := hE1.ex
  have hc0 : w1.cell? ⟨g, 0, none⟩ = some (.slice A (xs.drop 8).length c) := hB.cell 0
  have hlen : (xs.drop 8).length = xs.length - 8 := List.length_drop
  have h0 : decide ((0 : Int) ≤ (n : Int)) = true := decide_eq_true (by omega)
  have HE := Lib.hid (And.intro hE1 hu1)
  clear hB hF hE1 hu1
  have hq : decide ((n : Int) ≤ ((xs.length - 8 : Nat) : Int) / 16) = true := decide_eq_true (by omega)
  go_wp2_with fail
  refine (must_true w1).mono ?_
  rintro e w2 ⟨rfl, rfl⟩
  clear hc0 hq h0
  go_wp2
  go_loopw [1, 20] (fun so si wr => ∃ (k : Nat) (A' : Option Addr) (c' : Nat), so = .slice A' k c' ∧ si = .int .i64 (k : Int) ∧ k ≤ n ∧ RowKit.Hid (RowS wr w.heap.size (.slice A' k c') (readSs k (xs.drop 8)) ∧ EyeIs wr g ab (xs.drop (8 + 16 * k)) false ∧ Upd w wr (· = g))) (fun _ si _ => n - (intOf si).toNat)
  case atStart => exact ⟨0, none, 0, rfl, rfl, by omega, Lib.hid ⟨by simpa [readSs] using rowS_nil w2 w.heap.size, HE.out.1, HE.out.2⟩⟩
  case round =>
    obtain ⟨k, A', c', rfl, rfl, hk, HS⟩ := hrel
    by_cases hlt : k < n
    · have hst := flstamp_ok HS.out.2.1 (bytesOk_drop HX.out.1 _) (by rw [List.length_drop]; omega)
      rw [List.drop_drop] at hst
      have hsn := readSs_snoc k (xs.drop 8)
      rw [List.drop_drop] at hsn
      have hbc : wr.cell? ⟨be, 0, none⟩ = some (ptr g) := (World.cell?_of_block (w := w) (HS.out.2.2.block be (World.block_lt_of_cell? w _ HX.out.2.1) HX.out.2.2)).trans HX.out.2.1
      generalize readS (xs.drop (8 + 16 * k)) = x at *
      obtain ⟨x0, x1⟩ := x
      have HST := Lib.hid (And.intro hst hsn)
      clear hst hsn
      go_wp2_with fail
      refine HST.out.1.mono ?_
      rintro e w3 ⟨rfl, hE3, hu3⟩
      have hvg : ∀ q, (Value.slice A' k c').ownBlock = some q → ¬ q = g := fun q hq e => by have := (HS.out.1.lt q hq).1; have := HG.out.1; omega
      have hv3 : RowS w3 w.heap.size (.slice A' k c') (readSs k (xs.drop 8)) := own_move HS.out.1 (fun q hq => hu3.block q (HS.out.1.lt q hq).2 (hvg q hq))
      have HN3 := Lib.hid (And.intro hE3 (And.intro (HS.out.2.2.trans hu3) (And.intro hv3 hvg)))
      clear hE3 hu3 hv3 hvg
      go_wp2_with (first | ((with_reducible refine gate_builtin (b := .append) (xs := #[.tmp 22, .tmp 25]) rfl ?_); at_builtin; refine stop_append rfl ?_))
      refine Lib.hid ?_
      refine Kd.R_append k33 (w0 := w3) w.heap.size rfl (.tmp 22) (.tmp 25) 37 33 (.agg #[.int .i64 0, .int .i64 0]) 16 rfl Try.underlying37 info33 rfl (by decide) (by decide) (.slice A' k c') (readSs k (xs.drop 8)) ⟨x0, x1⟩ [.int .i64 x0, .int .i64 x1] (fun _ => True) (fun _ => False) rfl rfl (k33_mkM _ _ _ _) (fun _ h => h.elim) (fun _ _ => trivial) (RowS.R HN3.out.2.2.1) (Below.refl _ _) HN3.out.2.1.size (by rw [readSs_len]; omega) ?_
      intro v4 w4 hR4 hB4 hg4 hat4
      rw [← HST.out.2] at hR4
      obtain ⟨A4, c4, rfl⟩ := Kd.R_slice hR4
      have hu4 : Upd w3 w4 (fun q => w.heap.size ≤ q) := Upd.of_grown hg4 (fun q hq => (HN3.out.2.2.1.lt q hq).1)
      have HN4 := Lib.hid (And.intro (RowS.of_R hR4) hu4)
      rw [readSs_len] at HN4
      rw [readSs_len]
      clear hR4 hB4 hg4 hat4 hu4
      go_wp2_with fail
      go_roundw
      case rel => exact ⟨k + 1, A4, c4, rfl, by go_num, by omega, Lib.hid ⟨HN4.out.1, by
        have := HN3.out.1.upd HN4.out.2 (fun h => by have := HG.out.1; omega) (fun h => by have := HG.out.2; omega)
        rwa [show 8 + 16 * k + 16 = 8 + 16 * (k + 1) by omega] at this, HN3.out.2.1.then_new (HN4.out.2.mono fun q _ hq => .inr hq)⟩⟩
      case measure => simp [intOf]; omega
    · obtain rfl : k = n := by omega
      go_wp2
      go_ret
      exact ⟨_, rfl, HS.out⟩
theorem stamps1_short (h : EyeIs w g ab xs false) (he : w.cell? ⟨be, 0, none⟩ = some (ptr g)) (hl : xs.length < 8) : Calls Try.prog 37 #[ptr be] w fun e w' => e = .panicked sightP ∧ (∃ v0, Blk w' g 68 #[v0, .bool false]) ∧ Upd w w' (· = g) := by
  have hn := number_short h 8 hl
  obtain ⟨A, c, hB, _, _⟩ := h.ex
  have HN := Lib.hid hn; have HB := Lib.hid hB
  clear h hn hB
  go_enter Try.func37, Try.ntmps37
  go_wp2_with fail
  refine HN.out.mono ?_
  rintro e w1 ⟨rfl, rfl⟩
  go_wp2_with fail
  exact ⟨rfl, rfl, ⟨_, HB.out⟩, Upd.refl _ _⟩
set_option maxHeartbeats 1000000 in
set_option maxRecDepth 100000 in
theorem stamps1_bad (h : EyeIs w g ab xs false) (hx : bytesOk xs) (he : w.cell? ⟨be, 0, none⟩ = some (ptr g)) (hbe : be ≠ g) (hl : 8 ≤ xs.length) (n : Int) (hn : i64 (numOf xs 8) = n) (hb : n < 0 ∨ ((xs.length - 8 : Nat) : Int) / 16 < n) (hxl : xs.length ≤ 1099511627776) :
    Calls Try.prog 37 #[ptr be] w fun e w' => e = .panicked sightP ∧ (∃ v0, Blk w' g 68 #[v0, .bool false]) ∧ Upd w w' (· = g) := by
  have hnum := number_ok h hx 8 (by omega) (by omega)
  have hi := i64_wrap (n := numOf xs 8) (numOf_lt hx 8)
  rw [hn] at hi
  generalize numOf xs 8 = m at *
  have HN := Lib.hid hnum
  clear h hnum hn
  go_enter Try.func37, Try.ntmps37
  go_wp2_with fail
  refine HN.out.mono ?_
  rintro e w1 ⟨rfl, hE1, hu1⟩
  have he1 : w1.cell? ⟨be, 0, none⟩ = some (ptr g) := (World.cell?_of_block (w := w) (hu1.block be (World.block_lt_of_cell? w _ he) hbe)).trans he
  obtain ⟨A, c, hB, hAc, hF⟩ := hE1.ex
  have hc0 : w1.cell? ⟨g, 0, none⟩ = some (.slice A (xs.drop 8).length c) := hB.cell 0
  have hlen : (xs.drop 8).length = xs.length - 8 := List.length_drop
  have HE := Lib.hid (And.intro hB hu1)
  clear hB hF hE1 hu1
  by_cases h0 : 0 ≤ n
  · have hq : decide (n ≤ ((xs.length - 8 : Nat) : Int) / 16) = false := decide_eq_false (by omega)
    have d0 : decide (0 ≤ n) = true := decide_eq_true h0
    clear hb
    go_wp2_with fail
    refine (must_false w1).mono ?_
    rintro e w2 ⟨rfl, rfl⟩
    go_wp2_with fail
    exact ⟨rfl, rfl, ⟨_, HE.out.1⟩, HE.out.2⟩
  · have d0 : decide (0 ≤ n) = false := decide_eq_false h0
    clear hb
    go_wp2_with fail
    refine (must_false w1).mono ?_
    rintro e w2 ⟨rfl, rfl⟩
    go_wp2_with fail
    exact ⟨rfl, rfl, ⟨_, HE.out.1⟩, HE.out.2⟩
theorem entersSs : ∀ args w, (callFunc 37 args).run Try.prog w = .ok (.enter 37 args) w := enters_of Try.func37 (by kernel_rfl) rfl
theorem sStamps_bad {s : Sight} (h : s.2 = true ∨ stOk s.1 = false) : sStamps s = ([], (s.1, true)) := if_pos h
theorem sStamps_ok {xs : List Int} {n : Nat} (h : stOk xs = true) (hn : i64 (numOf xs 8) = (n : Int)) : sStamps (xs, false) = (readSs n (xs.drop 8), (xs.drop (8 + 16 * n), false)) := by
  unfold sStamps
  rw [if_neg (by simp [h]), hn, Int.toNat_natCast]
theorem flStamps_any (s : Sight) (h : EyeIs w g ab s.1 s.2) (hx : bytesOk s.1) (hxl : s.1.length ≤ 1099511627776) : Calls Try.prog 17 #[ptr g] w fun e w' => ∃ v, e = .returned v ∧ RowS w' w.heap.size v (sStamps s).1 ∧ EyeIs w' g ab (sStamps s).2.1 (sStamps s).2.2 ∧ Upd w w' (· = g) := by
  obtain ⟨xs, bl⟩ := s
  obtain ⟨w1, hw1⟩ : ∃ w1, w.alloc (.cells #[ptr g] 42) = w1 := ⟨_, rfl⟩
  have hb1 : Below w.heap.size w w1 := hw1 ▸ (Below.refl _ _).alloc (Nat.le_refl _) _
  have h0B : Blk w1 w.heap.size 42 #[ptr g] := hw1 ▸ Blk.new w 42 #[ptr g]
  have h0 : w1.cell? ⟨w.heap.size, 0, none⟩ = some (ptr g) := h0B.cell 0
  have h1 := h.below hb1
  have hlt := h.lt
  have hmf : ∀ (fn : Fn) (first cap : Array Value) (w : World), (Instr.makeFunc fn first cap).run Try.prog w = .ok (.func fn first cap) w := fun _ _ _ _ => rfl
  have hs : Calls Try.prog 36 #[ptr g, .func (.func 37) #[] #[ptr w.heap.size]] w1 fun e w' => ∃ v, e = .returned v ∧ RowS w' w1.heap.size v (sStamps (xs, bl)).1 ∧ EyeIs w' g ab (sStamps (xs, bl)).2.1 (sStamps (xs, bl)).2.2 ∧ Upd w1 w' (· = g) := by
    cases bl with
    | true =>
      rw [sStamps_bad (.inl rfl)]
      exact (seeS_blind h1 _ _ _).mono fun e w' ⟨he, hb⟩ => ⟨_, he, rowS_nil _ _, h1.below hb, Upd.of_below hb _⟩
    | false =>
      cases hok : stOk xs with
      | false =>
        rw [sStamps_bad (.inr hok)]
        by_cases hl : xs.length < 8
        · exact (seeS_bad h1 37 _ entersSs fun W hE hb => stamps1_short hE (pw_cell_below (hb) h0) hl).mono fun e w' ⟨he, hE, hu⟩ => ⟨_, he, rowS_nil _ _, hE, hu⟩
        · have hb2 : i64 (numOf xs 8) < 0 ∨ ((xs.length - 8 : Nat) : Int) / 16 < i64 (numOf xs 8) := by
            have : ¬ (8 ≤ xs.length ∧ 0 ≤ i64 (numOf xs 8) ∧ i64 (numOf xs 8) ≤ ((xs.length - 8) / 16 : Nat)) := of_decide_eq_false hok
            omega
          exact (seeS_bad h1 37 _ entersSs fun W hE hb => stamps1_bad hE hx (pw_cell_below (hb) h0) (by omega) (by show 8 ≤ xs.length; omega) _ rfl hb2 hxl).mono fun e w' ⟨he, hE, hu⟩ => ⟨_, he, rowS_nil _ _, hE, hu⟩
      | true =>
        have hk : 8 ≤ xs.length ∧ 0 ≤ i64 (numOf xs 8) ∧ i64 (numOf xs 8) ≤ ((xs.length - 8) / 16 : Nat) := of_decide_eq_true hok
        obtain ⟨n, hn⟩ : ∃ n : Nat, i64 (numOf xs 8) = (n : Int) := ⟨(i64 (numOf xs 8)).toNat, by omega⟩
        rw [sStamps_ok hok hn]
        exact seeS_ok h1 37 _ entersSs _ fun W hE hb => stamps1_ok hE hx (pw_cell_below hb h0) (by omega) n (by show 8 + 16 * n ≤ xs.length; omega) hn hxl
  have HS := Lib.hid hs; have HB := Lib.hid hb1
  clear h h0B h1 hs hb1
  generalize sStamps (xs, bl) = r at *
  go_enter Try.func17, Try.ntmps17
  go_wp2_with fail
  refine HS.out.mono ?_
  rintro e w2 ⟨v2, rfl, hv, hE, hu⟩
  have HO := Lib.hid (And.intro hv (And.intro hE hu))
  obtain ⟨A2, c2, rfl⟩ := own_slice hv
  clear hv hE hu
  go_wp2_with fail
  go_ret
  exact ⟨_, rfl, rowS_lower HO.out.1 HB.out.size, HO.out.2.1, (Upd.of_below HB.out _).trans HO.out.2.2⟩
end
end Go.Proofs.Ytaedlmeaconflaa.P
end
section
set_option linter.unusedVariables false
set_option linter.unusedSimpArgs false
namespace Go.Proofs.Ytaedlmeaconflaa.P
open Go.RowKit Go.Proofs.YtaedlmeaconflaaW.PrintWords Go.Proofs.YtaedlmeaconflaaW.PrintLast Go.Proofs.YtaedlmeaconflaaW.PrintMore
attribute [local go_sem] max2_int min2_int max_two min_two max_three min_three max_four min_four   -- for this text's walks alone
set_option linter.unusedVariables false
set_option linter.unusedSimpArgs false
def slices_Equal_byte_byte.l0 : Nat → List Int → List Int → Int → Int → Option (Bool)
 | 0, _, _, _, _ => none
 | k + 1, x0, x1, x12, x13 => if x13 < x12 then (if 0 ≤ x13 then (if x13 < (x0.length : Int) then (if x13 < (x1.length : Int) then (if (rd x0 x13) = (rd x1 x13) then (slices_Equal_byte_byte.l0 k x0 x1 x12 (wrap64 (x13 + 1))) else (some false)) else (none)) else (none)) else (none)) else (some true)
def slices_Equal_byte_byte.f (k : Nat) (l0 : List Int) (l1 : List Int) : Option (Bool) := if (l0.length : Int) = (l1.length : Int) then (slices_Equal_byte_byte.l0 k l0 l1 (l0.length : Int) 0) else (some false)
set_option maxHeartbeats 8000000 in
set_option maxRecDepth 100000 in
theorem slices_Equal_byte_byte.calls (k : Nat) (A0 : Option Addr) (c0 : Nat) (l0 : List Int) (A1 : Option Addr) (c1 : Nat) (l1 : List Int) (r : Bool) (w : World) (hr0 : Kd.C (Kd.int .u8) w A0 l0.length l0) (hc0 : l0.length ≤ c0) (hr1 : Kd.C (Kd.int .u8) w A1 l1.length l1) (hc1 : l1.length ≤ c1) (h : slices_Equal_byte_byte.f k l0 l1 = some r) :
  Calls Try.prog 19 #[.slice A0 l0.length c0, .slice A1 l1.length c1] w fun e w' => e = .returned (.bool r) ∧ Drawn0 w w' := by
 have HR0 := Aside0.mk hr0
 have HC0 := Aside0.mk hc0
 clear hr0 hc0
 have HR1 := Aside0.mk hr1
 have HC1 := Aside0.mk hc1
 clear hr1 hc1
 have H : (if (l0.length : Int) = (l1.length : Int) then (slices_Equal_byte_byte.l0 k l0 l1 (l0.length : Int) 0) else (some false)) = some r := h
 clear h
 by_cases c3 : (l0.length : Int) = (l1.length : Int)
 ·rw [if_pos c3] at H
  have c3b0 : ((l0.length : Int) == (l1.length : Int)) = true := beq_iff_eq.mpr c3
  have c3b1 : ((l0.length : Int) != (l1.length : Int)) = false := bne_eq_false_iff_eq.mpr c3
  have c3b2 : (l0.length == l1.length) = true := by first | simpa using c3 | (simp at c3 ⊢; omega)
  clear c3
  have H' := Aside0.mk H
  clear H
  go_enter Try.func19, Try.ntmps19
  go_wp2
  repeat (go_quiet (fail); try go_wp2)
  go_loopg [13] k (fun kq v13 w' => ∃ (x13_1 : Int), v13 = .int .i64 x13_1 ∧ Aside0 (slices_Equal_byte_byte.l0 kq l0 l1 (l0.length : Int) x13_1 = some r) ∧ Aside0 (kq ≤ k) ∧ Drawn0 w w')
  case atStart => exact ⟨(0), (by first | rfl | (simp; done) | (simp [*]; done)), H', ⟨Nat.le_refl _⟩, by repeat (first | exact Drawn0.refl _ | apply Drawn0.step)⟩
  case round =>
   clear H'
   try clear c1
   try clear p2
   try clear c3
   try clear c3b0
   try clear c3b1
   try clear c3b2
   obtain ⟨x13_1, rfl, HA, HK1, ⟨m1, rfl⟩⟩ := hrel
   cases gk with
   | zero => exact absurd HA.out (by simp [slices_Equal_byte_byte.l0])
   | succ k1 =>
    have H := HA.out
    clear HA
    simp only [slices_Equal_byte_byte.l0] at H
    by_cases c4 : x13_1 < (l0.length : Int)
    ·rw [if_pos c4] at H
     have c4b0 : decide (x13_1 < (l0.length : Int)) = true := decide_eq_true c4
     clear c4
     by_cases c5 : 0 ≤ x13_1
     ·rw [if_pos c5] at H
      have c5b0 : decide (0 ≤ x13_1) = true := decide_eq_true c5
      clear c5
      by_cases c6 : x13_1 < (l0.length : Int)
      ·rw [if_pos c6] at H
       have c6b0 : decide (x13_1 < (l0.length : Int)) = true := decide_eq_true c6
       clear c6
       by_cases c7 : x13_1 < (l1.length : Int)
       ·rw [if_pos c7] at H
        have c7b0 : decide (x13_1 < (l1.length : Int)) = true := decide_eq_true c7
        clear c7
        by_cases c8 : (rd l0 x13_1) = (rd l1 x13_1)
        ·rw [if_pos c8] at H
         have c8b0 : ((rd l0 x13_1) == (rd l1 x13_1)) = true := beq_iff_eq.mpr c8
         have c8b1 : ((rd l0 x13_1) != (rd l1 x13_1)) = false := bne_eq_false_iff_eq.mpr c8
         clear c8
         have H' := Aside0.mk H
         clear H
         have p103 : 0 ≤ (x13_1 : Int) := of_decide_eq_true (by first | (with_reducible assumption) | assumption)
         have q103 : x13_1 < (l0.length : Int) := of_decide_eq_true (by first | (with_reducible assumption) | assumption)
         obtain ⟨ad103, e103, hx103_0⟩ := Kd.at_int HR0.out x13_1 p103 q103
         cases e103
         replace p103 := eq_true p103
         replace q103 := eq_true q103
         have p104 : 0 ≤ (x13_1 : Int) := of_decide_eq_true (by first | (with_reducible assumption) | assumption)
         have q104 : x13_1 < (l1.length : Int) := of_decide_eq_true (by first | (with_reducible assumption) | assumption)
         obtain ⟨ad104, e104, hx104_0⟩ := Kd.at_int HR1.out x13_1 p104 q104
         cases e104
         replace p104 := eq_true p104
         replace q104 := eq_true q104
         go_wp2
         repeat (go_quiet (fail); try go_wp2)
         go_roundg k1
         case measure => have := HK1.out; omega
         case rel => exact ⟨(wrap64 (x13_1 + 1)), (by first | rfl | (simp; done) | (simp [*]; done)), H', ⟨by have := HK1.out; omega⟩, by repeat (first | exact Drawn0.refl _ | apply Drawn0.step)⟩
        ·rw [if_neg c8] at H
         have c8b0 : ((rd l0 x13_1) == (rd l1 x13_1)) = false := beq_eq_false_iff_ne.mpr c8
         have c8b1 : ((rd l0 x13_1) != (rd l1 x13_1)) = true := bne_iff_ne.mpr c8
         obtain rfl := Option.some.inj H
         have p103 : 0 ≤ (x13_1 : Int) := of_decide_eq_true (by first | (with_reducible assumption) | assumption)
         have q103 : x13_1 < (l0.length : Int) := of_decide_eq_true (by first | (with_reducible assumption) | assumption)
         obtain ⟨ad103, e103, hx103_0⟩ := Kd.at_int HR0.out x13_1 p103 q103
         cases e103
         replace p103 := eq_true p103
         replace q103 := eq_true q103
         have p104 : 0 ≤ (x13_1 : Int) := of_decide_eq_true (by first | (with_reducible assumption) | assumption)
         have q104 : x13_1 < (l1.length : Int) := of_decide_eq_true (by first | (with_reducible assumption) | assumption)
         obtain ⟨ad104, e104, hx104_0⟩ := Kd.at_int HR1.out x13_1 p104 q104
         cases e104
         replace p104 := eq_true p104
         replace q104 := eq_true q104
         go_wp2
         repeat (go_quiet (fail); try go_wp2)
         go_ret
         exact ⟨by first | rfl | (simp; done) | (simp [*]; done), by repeat (first | exact Drawn0.refl _ | apply Drawn0.step)⟩
       ·rw [if_neg c7] at H
        exact absurd H (by simp)
      ·rw [if_neg c6] at H
       exact absurd H (by simp)
     ·rw [if_neg c5] at H
      exact absurd H (by simp)
    ·rw [if_neg c4] at H
     have c4b0 : decide (x13_1 < (l0.length : Int)) = false := decide_eq_false c4
     clear c4
     obtain rfl := Option.some.inj H
     go_wp2
     repeat (go_quiet (fail); try go_wp2)
     go_ret
     exact ⟨by first | rfl | (simp; done) | (simp [*]; done), by repeat (first | exact Drawn0.refl _ | apply Drawn0.step)⟩
 ·rw [if_neg c3] at H
  have c3b0 : ((l0.length : Int) == (l1.length : Int)) = false := beq_eq_false_iff_ne.mpr c3
  have c3b1 : ((l0.length : Int) != (l1.length : Int)) = true := bne_iff_ne.mpr c3
  have c3b2 : (l0.length == l1.length) = false := by first | simpa using c3 | (simp at c3 ⊢; omega)
  obtain rfl := Option.some.inj H
  go_enter Try.func19, Try.ntmps19
  go_wp2
  repeat (go_quiet (fail); try go_wp2)
  go_ret
  exact ⟨by first | rfl | (simp; done) | (simp [*]; done), by repeat (first | exact Drawn0.refl _ | apply Drawn0.step)⟩
end Go.Proofs.Ytaedlmeaconflaa.P
end
section
set_option linter.unusedVariables false
set_option linter.unusedSimpArgs false
namespace Go.Proofs.Ytaedlmeaconflaa.P
open Go.RowKit Go.Proofs.YtaedlmeaconflaaW.PrintWords Go.Proofs.YtaedlmeaconflaaW.PrintLast Go.Proofs.YtaedlmeaconflaaW.PrintMore
def pLoop : Nat → Int → Sight → List S39 × Sight
  | 0, _, s => ([], s)
  | k + 1, n, s => if 0 < n then (⟨(sInt s).1, (sStamps (sInt s).2).1⟩ :: (pLoop k (n - 1) (sStamps (sInt s).2).2).1, (pLoop k (n - 1) (sStamps (sInt s).2).2).2) else ([], s)
theorem sInt_le (s : Sight) : (sInt s).2.1.length ≤ s.1.length := by unfold sInt; split <;> simp
theorem sInt_bytes {s : Sight} (h : bytesOk s.1) : bytesOk (sInt s).2.1 := by unfold sInt; split; exact h; exact bytesOk_drop h _
theorem sStamps_le (s : Sight) : (sStamps s).2.1.length ≤ s.1.length := by unfold sStamps; split <;> simp
theorem sStamps_bytes {s : Sight} (h : bytesOk s.1) : bytesOk (sStamps s).2.1 := by unfold sStamps; split; exact h; exact bytesOk_drop h _
theorem i64_bnd (n : Nat) (h : n < 18446744073709551616) : -9223372036854775808 ≤ i64 n ∧ i64 n < 9223372036854775808 := by unfold i64; split <;> omega
theorem sInt_bnd {s : Sight} (h : bytesOk s.1) : -9223372036854775808 ≤ (sInt s).1 ∧ (sInt s).1 < 9223372036854775808 := by
  unfold sInt; split
  · simp
  · exact i64_bnd _ (by have := numOf_lt h 8; omega)
theorem eqB (a b : List Int) (hl : a.length = b.length) (hm : a.length < 9223372036854775807) : ∀ (m i k : Nat), i + m = a.length → m < k → slices_Equal_byte_byte.l0 k a b (a.length : Int) (i : Int) = some (decide (a.drop i = b.drop i))
  | m, i, 0, _, h => by omega
  | 0, i, k + 1, h, _ => by
    have e1 : a.drop i = [] := List.drop_eq_nil_of_le (by omega)
    have e2 : b.drop i = [] := List.drop_eq_nil_of_le (by omega)
    rw [slices_Equal_byte_byte.l0, if_neg (by omega), e1, e2]
    simp
  | m + 1, i, k + 1, h, hk => by
    have hi : i < a.length := by omega
    have hj : i < b.length := by omega
    rw [slices_Equal_byte_byte.l0, if_pos (by omega), if_pos (by omega), if_pos (by omega), if_pos (by omega), rd_nat a hi, rd_nat b hj, wrap64_nat i (by omega), eqB a b hl hm m (i + 1) k (by omega) (by omega), List.drop_eq_getElem_cons hi, List.drop_eq_getElem_cons hj]
    by_cases he : a[i] = b[i]
    · rw [if_pos he, he]
      simp only [List.cons.injEq, true_and]
    · rw [if_neg he, decide_eq_false (fun h => he (List.cons.inj h).1)]
theorem eqBf (a b : List Int) (hm : a.length < 9223372036854775807) : slices_Equal_byte_byte.f (a.length + 1) a b = some (decide (a = b)) := by
  unfold slices_Equal_byte_byte.f
  by_cases hl : a.length = b.length
  · rw [if_pos (by omega), show (0 : Int) = ((0 : Nat) : Int) from rfl, eqB a b hl hm a.length 0 _ (by omega) (by omega)]
    simp
  · rw [if_neg (by omega)]
    have : a ≠ b := fun h => hl (by rw [h])
    simp [this]
def lenV : Value → Nat
  | .slice _ n _ => n
  | _ => 0
def pAll (b : List Int) : List S39 × Sight := pLoop 9 (sInt (b, false)).1 (sInt (b, false)).2
def okDone (s : Sight) : Bool := decide (¬ (s.2 = true ∨ s.1.length ≠ 0))
theorem pLoop_bytes : ∀ (k : Nat) (n : Int) (s : Sight), bytesOk s.1 → (pLoop k n s).1.length ≤ k
  | 0, n, s, _ => by simp [pLoop]
  | k + 1, n, s, h => by
    unfold pLoop
    split
    · have := pLoop_bytes k (n - 1) (sStamps (sInt s).2).2 (sStamps_bytes (sInt_bytes h))
      simp only [List.length_cons]; omega
    · simp
set_option maxHeartbeats 4000000 in
set_option maxRecDepth 100000 in
theorem parse_any (A : Option Addr) (c : Nat) (b : List Int) (w : World) (hr : Kd.C (Kd.int .u8) w A b.length b) (hc : b.length ≤ c) (hb : bytesOk b) (hl : b.length ≤ 1099511627776) (K : Nat) (q : Int) (hq : deps_Check.f K (pAll b).1 = some q) (hput : (laidDs (pAll b).1).length ≤ 1099511627776) :
    Calls Try.prog 5 #[.slice A b.length c] w fun e w' => ∃ v, e = .returned (.tuple #[v, .int .i64 (if okDone (pAll b).2 = true ∧ q = 0 ∧ laidDeps (pAll b).1 = b then 0 else 60)]) ∧ Kd.S k39 39 w' w.heap.size (fun _ => True) v (if okDone (pAll b).2 = true ∧ q = 0 ∧ laidDeps (pAll b).1 = b then (pAll b).1 else []) ∧ Below w.heap.size w w' := by
  have hop := flOpen_any A c b w (readsInt_of.2 (Kd.reads_of_C (d := (0 : Int)) hr)) (by omega)
  have HOP := Lib.hid hop
  have HX := Lib.hid (And.intro hr (And.intro hc (And.intro hb (And.intro hl (And.intro hq hput)))))
  have hDl : (pAll b).1.length ≤ 9 := pLoop_bytes 9 _ _ (sInt_bytes (s := (b, false)) hb)
  have HDL := Lib.hid hDl
  clear hop hr hc hb hl hq hput hDl
  generalize hP : pAll b = PA at *
  have HPA := Lib.hid hP
  clear hP
  generalize her : (if okDone PA.2 = true ∧ q = 0 ∧ laidDeps PA.1 = b then (0 : Int) else 60) = er at *
  generalize hrr : (if okDone PA.2 = true ∧ q = 0 ∧ laidDeps PA.1 = b then PA.1 else []) = rr at *
  have HER := Lib.hid (And.intro her hrr)
  clear her hrr
  go_enter Try.func5, Try.ntmps5
  go_wp2_with fail
  refine HOP.out.mono ?_
  rintro e w1 ⟨g, ab, rfl, hg, hab, hE1, hb1⟩
  have hI := flInt_any (b, false) hE1 HX.out.2.2.1
  have HE := Lib.hid (And.intro hg (And.intro hab (And.intro hb1 hI)))
  clear hg hab hE1 hb1 hI
  go_wp2_with fail
  refine HE.out.2.2.2.mono ?_
  rintro e w2 ⟨rfl, hE2, hu2⟩
  have hb2 : Below w.heap.size w w2 := HE.out.2.2.1.trans (hu2.below HE.out.2.2.1.size (fun q hq e => by have := HE.out.1; omega))
  have hn0 := sInt_bnd (s := (b, false)) HX.out.2.2.1
  have hpa : pLoop 9 (sInt (b, false)).1 (sInt (b, false)).2 = PA := HPA.out
  have HS0 := Lib.hid (And.intro hE2 (And.intro hb2 (And.intro (sInt_bytes (s := (b, false)) HX.out.2.2.1) (And.intro (sInt_le (b, false)) hpa))))
  clear hE2 hu2 hb2 hpa
  generalize sInt (b, false) = s0 at *
  obtain ⟨n0, s0⟩ := s0
  simp only at hn0
  go_wp2
  go_loopw [2, 5] (fun so sn wr => ∃ (ds : List S39) (A' : Option Addr) (c' : Nat) (n : Int) (s : Sight), so = .slice A' ds.length c' ∧ sn = .int .i64 n ∧ ds.length ≤ 9 ∧ -9223372036854775808 ≤ n ∧ n < 9223372036854775808 ∧ RowKit.Hid (Kd.S k39 39 wr w.heap.size (fun q => q ≠ g ∧ q ≠ ab) (.slice A' ds.length c') ds ∧ EyeIs wr g ab s.1 s.2 ∧ Below w.heap.size w wr ∧ bytesOk s.1 ∧ s.1.length ≤ b.length ∧ ds ++ (pLoop (9 - ds.length) n s).1 = PA.1 ∧ (pLoop (9 - ds.length) n s).2 = PA.2)) (fun so _ _ => 10 - (lenV so))
  case atStart => exact ⟨[], none, 0, n0, s0, rfl, rfl, by simp, hn0.1, hn0.2, Lib.hid ⟨Kd.S_nil _ _ _ _ _, HS0.out.1, HS0.out.2.1, HS0.out.2.2.1, HS0.out.2.2.2.1, by rw [← HS0.out.2.2.2.2]; rfl, by rw [← HS0.out.2.2.2.2]; rfl⟩⟩
  case round =>
    obtain ⟨ds, A', c', n, s, rfl, rfl, hk, hnl, hnh, HS⟩ := hrel
    by_cases hn : 0 < n ∧ ds.length ≤ 8
    · obtain ⟨hn, h8⟩ := hn
      obtain ⟨k, hk9⟩ : ∃ k, 9 - ds.length = k + 1 := ⟨8 - ds.length, by omega⟩
      obtain ⟨hS, hE, hB, hby, hle, hp1, hp2⟩ := HS.out
      rw [hk9, pLoop, if_pos hn] at hp1 hp2
      have hI := flInt_any s hE hby
      have hby1 := sInt_bytes hby
      have hle1 := Nat.le_trans (sInt_le s) hle
      have hSt := fun (W : World) (h : EyeIs W g ab (sInt s).2.1 (sInt s).2.2) => flStamps_any (sInt s).2 h hby1 (Nat.le_trans hle1 HX.out.2.2.2.1)
      have hby2 := sStamps_bytes hby1
      have hle2 := Nat.le_trans (sStamps_le (sInt s).2) hle1
      have hbb := sInt_bnd hby
      generalize sStamps (sInt s).2 = st at *
      generalize sInt s = xI at *
      obtain ⟨x0, s1⟩ := xI
      obtain ⟨l, s2⟩ := st
      simp only at hp1 hp2 hI hSt hby2 hle2
      have hlv : ∀ q, (Value.slice A' ds.length c').ownBlock = some q → q < wr.heap.size := Kd.S_lt hS
      have HY := Lib.hid (And.intro hS (And.intro hB (And.intro hby2 (And.intro hle2 (And.intro hp1 (And.intro hp2 (And.intro hk9 hlv)))))))
      have HI := Lib.hid hI; have HST := Lib.hid hSt
      have HGE := Lib.hid (And.intro hE.lt hE.old)
      have dn : decide (0 < n) = true := decide_eq_true hn
      have d8 : decide ((ds.length : Int) ≤ 8) = true := decide_eq_true (by omega)
      clear hS hE hB hby hle hp1 hp2 hI hSt hby1 hle1 hby2 hle2 hbb hlv hk9 HS
      go_wp2_with fail
      refine HI.out.mono ?_
      rintro e w3 ⟨rfl, hE3, hu3⟩
      have HST3 := Lib.hid (And.intro (HST.out w3 hE3) hu3)
      clear hE3 hu3
      go_wp2_with fail
      refine HST3.out.1.mono ?_
      rintro e w4 ⟨v4, rfl, hv4, hE4, hu4⟩
      obtain ⟨A4, c4, rfl⟩ := own_slice hv4
      have HN := Lib.hid (And.intro hv4 (And.intro hE4 (HST3.out.2.trans hu4)))
      clear hv4 hE4 hu4
      go_wp2_with (first | ((with_reducible refine gate_builtin (b := .append) (xs := #[.tmp 19, .tmp 25]) rfl ?_); at_builtin; refine stop_append rfl ?_))
      refine Lib.hid ?_
      have hgw : w.heap.size ≤ g := HE.out.1
      have hb4 : Below w.heap.size w w4 := HY.out.2.1.trans (HN.out.2.2.below HY.out.2.1.size (fun q hq e => by omega))
      have hsz3 : wr.heap.size ≤ w3.heap.size := HST3.out.2.size
      refine Kd.S_append k39 (w0 := w) w.heap.size rfl (.tmp 19) (.tmp 25) 24 39 (.agg #[.int .i64 0, .slice none 0 0]) 32 rfl Try.underlying24 infoD rfl (by decide) (by decide) (.slice A' ds.length c') ds ⟨x0, l⟩ [.int .i64 x0, .slice A4 l.length c4] (fun q => q ≠ g ∧ q ≠ ab) (fun q => w3.heap.size ≤ q) rfl rfl ?_ ?_ ?_ ?_ hb4 hb4.size ?_ ?_
      · exact k39_mkM _ _ _ _ (Kd.R_lower (Kd.R_mono (Kd.R_bound (RowS.R HN.out.1)) (fun q hq => hq.2.1)) (Nat.le_trans HY.out.2.1.size hsz3))
      · intro q hq
        have := HGE.out
        exact ⟨⟨by omega, by omega⟩, fun e => by have := HY.out.2.2.2.2.2.2.2 q e.symm; omega⟩
      · intro q hq
        have := HGE.out
        have := HN.out.2.2.size
        exact ⟨by omega, by omega⟩
      · exact Kd.S_step (Kd.S_mono (Kd.S_bound HY.out.1) (fun q hq => ⟨hq.1, by have := hq.2.2.1; omega⟩)) (fun q hq hql => HN.out.2.2.block q hql hq.1.1)
      · omega
      intro v5 w5 hS5 hB5 hg5 hat5
      have hln : (ds ++ [(⟨x0, l⟩ : S39)]).length = ds.length + 1 := by simp
      obtain ⟨A5, c5, e5⟩ := Kd.S_slice hS5
      have hE5 : EyeIs w5 g ab s2.1 s2.2 := by
        have hu5 : Upd w4 w5 (fun q => some q = (Value.slice A' ds.length c').ownBlock) := Upd.of_grown hg5 (fun q hq => hq.symm)
        exact HN.out.2.1.upd hu5 (fun h => ((Kd.S_R HY.out.1).1 g h.symm).1 rfl) (fun h => ((Kd.S_R HY.out.1).1 ab h.symm).2 rfl)
      have HN5 := Lib.hid (And.intro hS5 (And.intro hB5 hE5))
      rw [e5, hln] at HN5
      rw [e5, hln]
      clear hS5 hB5 hg5 hat5 e5 hE5 hb4 hsz3
      go_wp2_with fail
      go_roundw
      case rel =>
        refine ⟨ds ++ [⟨x0, l⟩], A5, c5, n - 1, s2, by rw [hln], by go_num, by omega, by omega, by omega, Lib.hid ⟨by rw [hln]; exact HN5.out.1, HN5.out.2.2, HN5.out.2.1, HY.out.2.2.1, HY.out.2.2.2.1, ?_, ?_⟩⟩
        · rw [hln, show 9 - (ds.length + 1) = k by have := HY.out.2.2.2.2.2.2.1; omega, List.append_assoc]; exact HY.out.2.2.2.2.1
        · rw [hln, show 9 - (ds.length + 1) = k by have := HY.out.2.2.2.2.2.2.1; omega]; exact HY.out.2.2.2.2.2.1
      case measure => simp [lenV]; omega
    · obtain ⟨hS, hE, hB, hby, hle, hp1, hp2⟩ := HS.out
      have hz : pLoop (9 - ds.length) n s = ([], s) := by
        rcases Nat.lt_or_ge ds.length 9 with h | h
        · obtain ⟨k, hk9⟩ : ∃ k, 9 - ds.length = k + 1 := ⟨8 - ds.length, by omega⟩
          rw [hk9, pLoop, if_neg (by omega)]
        · rw [show 9 - ds.length = 0 by omega]; rfl
      rw [hz] at hp1 hp2
      simp only [List.append_nil] at hp1 hp2
      obtain ⟨D, F⟩ := PA
      simp only at hp1 hp2
      subst hp1 hp2
      have hdone := flDone_any s hE
      obtain ⟨hnil, hcd, hC⟩ := Kd.S_reads' hS
      have hchk := deps_Check.calls K A' c' ds q wr hC hcd HX.out.2.2.2.2.1
      have hlv : ∀ q, (Value.slice A' ds.length c').ownBlock = some q → q < wr.heap.size := Kd.S_lt hS
      obtain ⟨dv, hdv⟩ : ∃ dv, (if s.2 = true ∨ s.1.length ≠ 0 then (20 : Int) else 0) = dv := ⟨_, rfl⟩
      rw [hdv] at hdone
      have hok : okDone s = decide (dv = 0) := by
        rw [← hdv]
        unfold okDone
        split
        · rename_i h; rw [decide_eq_false (fun hn => hn h)]; rfl
        · rename_i h; rw [decide_eq_true h]; rfl
      have hput := fun (W : World) (h : Below wr.heap.size wr W) => put_any A' c' ds W (Kd.C_below hC h) HX.out.2.2.2.2.2 (by have := HDL.out; simp only at this; omega)
      have HZ := Lib.hid (And.intro hdone (And.intro hchk (And.intro hput (And.intro hok (And.intro hS hB)))))
      clear hS hE hB hby hle hz hdone hcd hC hchk hlv hdv hok hput HS hnil
      have hW : ∀ W, Below wr.heap.size wr W → Below w.heap.size w W := fun W h => HZ.out.2.2.2.2.2.trans (h.mono HZ.out.2.2.2.2.2.size)
      have HW := Lib.hid hW
      clear hW
      have hexit : (0 < n ∧ decide ((ds.length : Int) ≤ 8) = false) ∨ ¬ 0 < n := by
        by_cases h0 : 0 < n
        · exact .inl ⟨h0, decide_eq_false (fun h => hn ⟨h0, by omega⟩)⟩
        · exact .inr h0
      clear hn
      obtain ⟨cnd, hcnd⟩ : ∃ cnd, (if okDone s = true ∧ q = 0 ∧ laidDeps ds = b then true else false) = cnd := ⟨_, rfl⟩
      have HCN := Lib.hid hcnd
      clear hcnd
      rcases hexit with ⟨h0, h8⟩ | h0
      · have d0 : decide (0 < n) = true := decide_eq_true h0
        go_wp2_with fail
        refine HZ.out.1.mono ?_
        rintro e w7 ⟨rfl, rfl⟩
        by_cases hd : dv = 0
        · subst hd
          have hko : okDone s = true := HZ.out.2.2.2.1
          have HKO := Lib.hid hko
          clear hko
          go_wp2_with fail
          refine HZ.out.2.1.mono ?_
          rintro e w8 ⟨rfl, hb8⟩
          have HB8 := Lib.hid hb8
          clear hb8
          by_cases hq0 : q = 0
          · subst hq0
            go_wp2_with fail
            refine (HZ.out.2.2.1 w8 HB8.out).mono ?_
            rintro e w9 ⟨v9, rfl, ho9, hb9⟩
            have HB9 := Lib.hid (HB8.out.trans (hb9.mono HB8.out.size))
            obtain ⟨A9, c9, e9, hc9, hC9⟩ := Kd.R_reads (Kd.R_of_own ho9 (fun _ _ => trivial) : Kd.R (Kd.int .u8) 5 w9 w8.heap.size (fun _ => True) v9 (laidDeps ds))
            subst e9
            have heq := slices_Equal_byte_byte.calls _ A9 c9 (laidDeps ds) A c b _ w9 hC9 hc9 (Kd.C_below HX.out.1 (HW.out _ HB9.out)) HX.out.2.1 (eqBf (laidDeps ds) b (by have h6 : (laidDs ds).length ≤ 1099511627776 := HX.out.2.2.2.2.2; unfold laidDeps; rw [List.length_append, laidI_len]; omega))
            have HEQ := Lib.hid heq
            have HD := Lib.hid (show (laidDeps ds = b) ↔ (laidDeps ds = b) from Iff.rfl)
            clear heq ho9 hb9 hc9 hC9
            by_cases he : laidDeps ds = b
            · have hr : decide (laidDeps ds = b) = true := decide_eq_true he
              rw [hr] at HEQ
              have HHE := Lib.hid he
              clear he hr
              go_wp2_with fail
              refine HEQ.out.mono ?_
              rintro e w10 ⟨rfl, hd10⟩
              have HB10 := Lib.hid (HB9.out.trans (hd10.below.mono HB9.out.size))
              clear hd10
              go_wp2
              go_ret2
              have e1 : er = 0 := HER.out.1.symm.trans (if_pos ⟨HKO.out, by simp, HHE.out⟩)
              have e2 : rr = ds := HER.out.2.symm.trans (if_pos ⟨HKO.out, by simp, HHE.out⟩)
              rw [e1, e2]
              refine ⟨_, rfl, ?_, HW.out _ HB10.out⟩
              exact Kd.S_mono (Kd.S_below HZ.out.2.2.2.2.1 HB10.out) (fun _ _ => trivial)
            · have hr : decide (laidDeps ds = b) = false := decide_eq_false he
              rw [hr] at HEQ
              have HHE := Lib.hid he
              clear he hr
              go_wp2_with fail
              refine HEQ.out.mono ?_
              rintro e w10 ⟨rfl, hd10⟩
              have HB10 := Lib.hid (HB9.out.trans (hd10.below.mono HB9.out.size))
              clear hd10
              go_wp2
              go_ret2
              have e1 : er = 60 := HER.out.1.symm.trans (if_neg (fun h => HHE.out h.2.2))
              have e2 : rr = [] := HER.out.2.symm.trans (if_neg (fun h => HHE.out h.2.2))
              rw [e1, e2]
              refine ⟨_, rfl, ?_, HW.out _ HB10.out⟩
              exact Kd.S_nil _ _ _ _ _
          · have HQ := Lib.hid hq0
            go_wp2
            go_ret2
            have e1 : er = 60 := HER.out.1.symm.trans (if_neg (fun h => HQ.out h.2.1))
            have e2 : rr = [] := HER.out.2.symm.trans (if_neg (fun h => HQ.out h.2.1))
            rw [e1, e2]
            refine ⟨_, rfl, ?_, HW.out _ HB8.out⟩
            exact Kd.S_nil _ _ _ _ _
        · have hko : okDone s = false := by rw [HZ.out.2.2.2.1]; exact decide_eq_false hd
          have HKO := Lib.hid hko
          clear hko
          go_wp2
          go_ret2
          have hno : ¬ (okDone s = true ∧ q = 0 ∧ laidDeps ds = b) := fun h => by rw [HKO.out] at h; exact absurd h.1 (by decide)
          have e1 : er = 60 := HER.out.1.symm.trans (if_neg hno)
          have e2 : rr = [] := HER.out.2.symm.trans (if_neg hno)
          rw [e1, e2]
          refine ⟨_, rfl, ?_, HW.out _ (Below.refl _ _)⟩
          exact Kd.S_nil _ _ _ _ _
      · have d0 : decide (0 < n) = false := decide_eq_false h0
        go_wp2_with fail
        refine HZ.out.1.mono ?_
        rintro e w7 ⟨rfl, rfl⟩
        by_cases hd : dv = 0
        · subst hd
          have hko : okDone s = true := HZ.out.2.2.2.1
          have HKO := Lib.hid hko
          clear hko
          go_wp2_with fail
          refine HZ.out.2.1.mono ?_
          rintro e w8 ⟨rfl, hb8⟩
          have HB8 := Lib.hid hb8
          clear hb8
          by_cases hq0 : q = 0
          · subst hq0
            go_wp2_with fail
            refine (HZ.out.2.2.1 w8 HB8.out).mono ?_
            rintro e w9 ⟨v9, rfl, ho9, hb9⟩
            have HB9 := Lib.hid (HB8.out.trans (hb9.mono HB8.out.size))
            obtain ⟨A9, c9, e9, hc9, hC9⟩ := Kd.R_reads (Kd.R_of_own ho9 (fun _ _ => trivial) : Kd.R (Kd.int .u8) 5 w9 w8.heap.size (fun _ => True) v9 (laidDeps ds))
            subst e9
            have heq := slices_Equal_byte_byte.calls _ A9 c9 (laidDeps ds) A c b _ w9 hC9 hc9 (Kd.C_below HX.out.1 (HW.out _ HB9.out)) HX.out.2.1 (eqBf (laidDeps ds) b (by have h6 : (laidDs ds).length ≤ 1099511627776 := HX.out.2.2.2.2.2; unfold laidDeps; rw [List.length_append, laidI_len]; omega))
            have HEQ := Lib.hid heq
            have HD := Lib.hid (show (laidDeps ds = b) ↔ (laidDeps ds = b) from Iff.rfl)
            clear heq ho9 hb9 hc9 hC9
            by_cases he : laidDeps ds = b
            · have hr : decide (laidDeps ds = b) = true := decide_eq_true he
              rw [hr] at HEQ
              have HHE := Lib.hid he
              clear he hr
              go_wp2_with fail
              refine HEQ.out.mono ?_
              rintro e w10 ⟨rfl, hd10⟩
              have HB10 := Lib.hid (HB9.out.trans (hd10.below.mono HB9.out.size))
              clear hd10
              go_wp2
              go_ret2
              have e1 : er = 0 := HER.out.1.symm.trans (if_pos ⟨HKO.out, by simp, HHE.out⟩)
              have e2 : rr = ds := HER.out.2.symm.trans (if_pos ⟨HKO.out, by simp, HHE.out⟩)
              rw [e1, e2]
              refine ⟨_, rfl, ?_, HW.out _ HB10.out⟩
              exact Kd.S_mono (Kd.S_below HZ.out.2.2.2.2.1 HB10.out) (fun _ _ => trivial)
            · have hr : decide (laidDeps ds = b) = false := decide_eq_false he
              rw [hr] at HEQ
              have HHE := Lib.hid he
              clear he hr
              go_wp2_with fail
              refine HEQ.out.mono ?_
              rintro e w10 ⟨rfl, hd10⟩
              have HB10 := Lib.hid (HB9.out.trans (hd10.below.mono HB9.out.size))
              clear hd10
              go_wp2
              go_ret2
              have e1 : er = 60 := HER.out.1.symm.trans (if_neg (fun h => HHE.out h.2.2))
              have e2 : rr = [] := HER.out.2.symm.trans (if_neg (fun h => HHE.out h.2.2))
              rw [e1, e2]
              refine ⟨_, rfl, ?_, HW.out _ HB10.out⟩
              exact Kd.S_nil _ _ _ _ _
          · have HQ := Lib.hid hq0
            go_wp2
            go_ret2
            have e1 : er = 60 := HER.out.1.symm.trans (if_neg (fun h => HQ.out h.2.1))
            have e2 : rr = [] := HER.out.2.symm.trans (if_neg (fun h => HQ.out h.2.1))
            rw [e1, e2]
            refine ⟨_, rfl, ?_, HW.out _ HB8.out⟩
            exact Kd.S_nil _ _ _ _ _
        · have hko : okDone s = false := by rw [HZ.out.2.2.2.1]; exact decide_eq_false hd
          have HKO := Lib.hid hko
          clear hko
          go_wp2
          go_ret2
          have hno : ¬ (okDone s = true ∧ q = 0 ∧ laidDeps ds = b) := fun h => by rw [HKO.out] at h; exact absurd h.1 (by decide)
          have e1 : er = 60 := HER.out.1.symm.trans (if_neg hno)
          have e2 : rr = [] := HER.out.2.symm.trans (if_neg hno)
          rw [e1, e2]
          refine ⟨_, rfl, ?_, HW.out _ (Below.refl _ _)⟩
          exact Kd.S_nil _ _ _ _ _
end Go.Proofs.Ytaedlmeaconflaa.P
end
section
set_option linter.unusedVariables false
set_option linter.unusedSimpArgs false

end
section
set_option linter.unusedVariables false
set_option linter.unusedSimpArgs false
namespace Go.Proofs.Ytaedlmeaconflaa.P
open Go.RowKit Go.Sort Go.Shelf Go.Proofs.YtaedlmeaconflaaW.PrintWords Go.Proofs.YtaedlmeaconflaaW.PrintLast Go.Proofs.YtaedlmeaconflaaW.PrintMore
theorem cmpS_lt (x y : S33) : cmpS x y < 0 ↔ x.f0 < y.f0 ∨ x.f0 = y.f0 ∧ x.f1 < y.f1 := by
  have := ltOf_cmpS x y
  simpa [ltOf] using this
theorem cmpS_tot (x y : S33) : cmpS x y < 0 ∨ x = y ∨ cmpS y x < 0 := by
  rw [cmpS_lt, cmpS_lt, S_ext]; omega
theorem cmpS_irr (x : S33) : ¬ cmpS x x < 0 := by rw [cmpS_lt]; omega
theorem cmpS_tr {x y z : S33} (h : cmpS x y < 0) (k : cmpS y z < 0) : cmpS x z < 0 := by rw [cmpS_lt] at *; omega
theorem cmpS_as {x y : S33} (h : cmpS x y < 0) : ¬ cmpS y x < 0 := by rw [cmpS_lt] at *; omega
def Asc (l : List S33) : Prop := l.Pairwise fun x y => cmpS x y < 0
instance (l : List S33) : Decidable (Asc l) := inferInstanceAs (Decidable (l.Pairwise fun x y => cmpS x y < 0))
theorem rise_ext {α : Type} {R : α → α → Prop} (hirr : ∀ x, ¬ R x x) (has : ∀ {x y}, R x y → ¬ R y x) : ∀ {a b : List α}, a.Pairwise R → b.Pairwise R → (∀ x, x ∈ a ↔ x ∈ b) → a = b
  | [], [], _, _, _ => rfl
  | [], y :: b, _, _, h => absurd ((h y).2 (List.mem_cons_self ..)) (by simp)
  | x :: a, [], _, _, h => absurd ((h x).1 (List.mem_cons_self ..)) (by simp)
  | x :: a, y :: b, ha, hb, h => by
    have ha' := List.pairwise_cons.1 ha
    have hb' := List.pairwise_cons.1 hb
    have e : x = y := by
      rcases List.mem_cons.1 ((h x).1 (List.mem_cons_self ..)) with e | hx
      · exact e
      · rcases List.mem_cons.1 ((h y).2 (List.mem_cons_self ..)) with e | hy
        · exact e.symm
        · exact absurd (hb'.1 x hx) (has (ha'.1 y hy))
    subst e
    rw [rise_ext hirr has ha'.2 hb'.2 (fun z => ?_)]
    have hz := h z
    rw [List.mem_cons, List.mem_cons] at hz
    constructor
    · intro hm
      rcases hz.1 (.inr hm) with e | k
      · rw [e] at hm; exact absurd (ha'.1 x hm) (hirr x)
      · exact k
    · intro hm
      rcases hz.2 (.inr hm) with e | k
      · rw [e] at hm; exact absurd (hb'.1 x hm) (hirr x)
      · exact k
theorem asc_ext {a b : List S33} (ha : Asc a) (hb : Asc b) (h : ∀ x, x ∈ a ↔ x ∈ b) : a = b := rise_ext (R := fun x y => cmpS x y < 0) cmpS_irr cmpS_as ha hb h
theorem sortS_mem (xs : List S33) (x : S33) : x ∈ sortS xs ↔ x ∈ xs := (List.mergeSort_perm xs _).mem_iff
theorem sortS_le (xs : List S33) : (sortS xs).Pairwise fun x y => x = y ∨ cmpS x y < 0 := by
  have h := List.pairwise_mergeSort (le := fun x y => !(ltOf cmpS) y x) (by
    intro a b c h1 h2
    simp only [Bool.not_eq_true'] at *
    rw [ltOf_cmpS_f] at *; omega) (by
    intro a b
    simp only [Bool.or_eq_true, Bool.not_eq_true']
    rw [ltOf_cmpS_f, ltOf_cmpS_f]; omega) xs
  refine h.imp fun {a b} hab => ?_
  simp only [Bool.not_eq_true'] at hab
  rw [ltOf_cmpS_f] at hab
  rcases cmpS_tot a b with k | k | k
  · exact .inr k
  · exact .inl k
  · rw [cmpS_lt] at k; exact absurd k hab
theorem cmpc_of {xs : List S33} (hp : xs.Pairwise fun x y => x = y ∨ cmpS x y < 0) : ∀ n, n ≤ xs.length → Asc (cmpc xs n) ∧ ∀ x, x ∈ cmpc xs n ↔ x ∈ xs.take n
  | 0, _ => ⟨List.Pairwise.nil, fun x => by simp [cmpc]⟩
  | n + 1, hn => by
    have hlt : n < xs.length := hn
    obtain ⟨h1, h2⟩ := cmpc_of hp n (Nat.le_of_lt hlt)
    have hg := List.pairwise_iff_getElem.1 hp
    rw [cmpc]
    have ht : ∀ x, x ∈ xs.take (n + 1) ↔ x ∈ xs.take n ∨ x = xs[n] := fun x => by
      rw [List.take_succ_eq_append_getElem hlt, List.mem_append, List.mem_singleton]
    by_cases hc : n = 0 ∨ xs[n]? ≠ xs[n - 1]?
    · rw [if_pos hc, List.getElem?_eq_getElem hlt]
      simp only [Option.toList_some]
      refine ⟨List.pairwise_append.2 ⟨h1, List.pairwise_singleton _ _, fun y hy z hz => ?_⟩, fun x => by rw [List.mem_append, h2, ht, List.mem_singleton]⟩
      rw [List.mem_singleton.1 hz]
      obtain ⟨i, hi, rfl⟩ := List.mem_take_iff_getElem.1 ((h2 y).1 hy)
      have hin : i < n := by omega
      rcases hc with hc | hc
      · omega
      · have hne : xs[n] ≠ xs[n - 1]'(by omega) := fun e => hc (by rw [List.getElem?_eq_getElem hlt, List.getElem?_eq_getElem (show n - 1 < xs.length by omega), e])
        have hl : cmpS (xs[n - 1]'(by omega)) xs[n] < 0 := by
          rcases hg (n - 1) n (by omega) hlt (by omega) with e | k
          · exact absurd e.symm hne
          · exact k
        rcases Nat.lt_or_ge i (n - 1) with h | h
        · rcases hg i (n - 1) (by omega) (by omega) h with e | k
          · rw [e]; exact hl
          · exact cmpS_tr k hl
        · obtain rfl : i = n - 1 := by omega
          exact hl
    · rw [if_neg hc, List.append_nil]
      refine ⟨h1, fun x => ?_⟩
      rw [h2, ht]
      constructor
      · exact .inl
      · rintro (h | rfl)
        · exact h
        · have h0 : n ≠ 0 := fun e => hc (.inl e)
          have he : xs[n]? = xs[n - 1]? := by
            rcases Classical.em (xs[n]? = xs[n - 1]?) with h | h
            · exact h
            · exact absurd (.inr h) hc
          rw [List.getElem?_eq_getElem hlt, List.getElem?_eq_getElem (show n - 1 < xs.length by omega)] at he
          injection he with he
          rw [he]
          exact List.mem_take_iff_getElem.2 ⟨n - 1, by omega, rfl⟩
theorem setS_asc (xs : List S33) : Asc (setS xs) := (cmpc_of (sortS_le xs) _ (Nat.le_refl _)).1
theorem setS_mem (xs : List S33) (x : S33) : x ∈ setS xs ↔ x ∈ xs := by
  have := (cmpc_of (sortS_le xs) _ (Nat.le_refl _)).2 x
  rw [List.take_length, sortS_mem] at this
  exact this
theorem setS_self {xs : List S33} (h : Asc xs) : setS xs = xs := asc_ext (setS_asc xs) h (setS_mem xs)
theorem Asc.filter {xs : List S33} (h : Asc xs) (p : S33 → Bool) : Asc (xs.filter p) := List.Pairwise.filter _ h
structure DpOk (d : List S39) : Prop where
  shards : d.Pairwise fun x y => x.f0 < y.f0
  low : ∀ x ∈ d, 0 ≤ x.f0 ∧ x.f0 < 8
  asc : ∀ x ∈ d, Asc x.f1
theorem D_eq {a b : S39} (h0 : a.f0 = b.f0) (h1 : a.f1 = b.f1) : a = b := D_ext.2 ⟨h0, h1⟩
theorem hasOf_iff (ds : List S39) (x : Int) : hasOf ds x = true ↔ ∃ d ∈ ds, d.f0 = x := by unfold hasOf; simp
theorem mem_keysD (ds : List S39) (hb : ∀ d ∈ ds, 0 ≤ d.f0 ∧ d.f0 ≤ 1000) (x : Int) : x ∈ keysD ds ↔ ∃ d ∈ ds, d.f0 = x := by
  rw [← hasOf_iff]
  unfold keysD
  simp only [List.mem_map, List.mem_filter, List.mem_range]
  constructor
  · rintro ⟨n, ⟨_, h⟩, rfl⟩; exact h
  · intro h
    obtain ⟨d, hd, rfl⟩ := (hasOf_iff _ _).1 h
    have := hb d hd
    exact ⟨d.f0.toNat, ⟨by omega, by rw [show ((d.f0.toNat : Nat) : Int) = d.f0 by omega]; exact h⟩, by omega⟩
theorem keysD_rise (ds : List S39) : (keysD ds).Pairwise fun x y => x < y := by
  unfold keysD
  rw [List.pairwise_map]
  exact (List.pairwise_lt_range (n := 1001)).filter _ |>.imp fun {a b} h => by omega
theorem mergeD_mem (ds : List S39) (hb : ∀ d ∈ ds, 0 ≤ d.f0 ∧ d.f0 ≤ 1000) (e : S39) : e ∈ mergeD ds ↔ (∃ d ∈ ds, d.f0 = e.f0) ∧ e.f1 = setS (idsOf ds e.f0) := by
  unfold mergeD
  simp only [List.mem_map, mem_keysD ds hb]
  constructor
  · rintro ⟨x, h, rfl⟩; exact ⟨h, rfl⟩
  · rintro ⟨h, h1⟩; exact ⟨e.f0, h, D_eq rfl h1.symm⟩
theorem mergeD_rise (ds : List S39) : (mergeD ds).Pairwise fun x y => x.f0 < y.f0 := by
  unfold mergeD
  rw [List.pairwise_map]
  exact keysD_rise ds
theorem rise_extD {a b : List S39} (ha : a.Pairwise fun x y => x.f0 < y.f0) (hb : b.Pairwise fun x y => x.f0 < y.f0) (h : ∀ x, x ∈ a ↔ x ∈ b) : a = b := rise_ext (R := fun x y : S39 => x.f0 < y.f0) (fun x => by omega) (fun {x y} h => by omega) ha hb h
end Go.Proofs.Ytaedlmeaconflaa.P
end
section
set_option linter.unusedVariables false
set_option linter.unusedSimpArgs false
namespace Go.Proofs.Ytaedlmeaconflaa.P
def Ev {α : Type} (F : Nat → Option α) (r : α) : Prop := ∃ K, ∀ k, K ≤ k → F k = some r
section
variable {α β : Type}
theorem Ev.of (F : Nat → Option α) {r : α} (h : ∀ k, F k = some r) : Ev F r := ⟨0, fun k _ => h k⟩
theorem Ev.some (r : α) : Ev (fun _ => Option.some r) r := ⟨0, fun _ _ => rfl⟩
theorem Ev.succ {F : Nat → Option α} {r : α} (h : Ev (fun k => F (k + 1)) r) : Ev F r := by
  obtain ⟨K, h⟩ := h
  refine ⟨K + 1, fun k hk => ?_⟩
  obtain ⟨j, rfl⟩ : ∃ j, k = j + 1 := ⟨k - 1, by omega⟩
  exact h j (by omega)
theorem Ev.bind {F : Nat → Option α} {G : Nat → α → Option β} {r : α} {s : β} (h : Ev F r) (g : Ev (fun k => G k r) s) : Ev (fun k => (F k).bind (G k)) s := by
  obtain ⟨K, h⟩ := h
  obtain ⟨L, g⟩ := g
  refine ⟨max K L, fun k hk => ?_⟩
  show (F k).bind (G k) = _
  rw [h k (by omega)]
  exact g k (by omega)
theorem Ev.bind1 {x : Option α} {G : Nat → α → Option β} {r : α} {s : β} (h : x = Option.some r) (g : Ev (fun k => G k r) s) : Ev (fun k => x.bind (G k)) s := by
  subst h; exact g
theorem Ev.cond {c : Prop} [Decidable c] {F G : Nat → Option α} {r : α} (h1 : c → Ev F r) (h2 : ¬ c → Ev G r) : Ev (fun k => if c then F k else G k) r := by
  by_cases h : c
  · simp only [if_pos h]; exact h1 h
  · simp only [if_neg h]; exact h2 h
theorem Ev.yes {c : Prop} [Decidable c] {F G : Nat → Option α} {r : α} (h : c) (h1 : Ev F r) : Ev (fun k => if c then F k else G k) r := Ev.cond (fun _ => h1) (fun n => absurd h n)
theorem Ev.no {c : Prop} [Decidable c] {F G : Nat → Option α} {r : α} (h : ¬ c) (h1 : Ev G r) : Ev (fun k => if c then F k else G k) r := Ev.cond (fun y => absurd y h) (fun _ => h1)
theorem Ev.get {F : Nat → Option α} {r : α} (h : Ev F r) : ∃ k, F k = Option.some r := by obtain ⟨K, h⟩ := h; exact ⟨K, h K (Nat.le_refl _)⟩
theorem Ev.eq {F : Nat → Option α} {r s : α} (h : Ev F r) (e : r = s) : Ev F s := e ▸ h
end
theorem w64_succ {n : Nat} (h : n < 9223372036854775807) : Go.RowKit.wrap64 ((n : Int) + 1) = ((n + 1 : Nat) : Int) := by unfold Go.RowKit.wrap64; omega
theorem w64_of {x : Int} (h0 : -9223372036854775808 ≤ x) (h1 : x < 9223372036854775808) : Go.RowKit.wrap64 x = x := by unfold Go.RowKit.wrap64; omega
end Go.Proofs.Ytaedlmeaconflaa.P
end
section
set_option linter.unusedVariables false
set_option linter.unusedSimpArgs false
namespace Go.Proofs.Ytaedlmeaconflaa.P
open Go.RowKit Go.Proofs.YtaedlmeaconflaaW.PrintWords Go.Proofs.YtaedlmeaconflaaW.PrintLast Go.Proofs.YtaedlmeaconflaaW.PrintMore
attribute [local go_sem] max2_int min2_int max_two min_two max_three min_three max_four min_four   -- for this text's walks alone
set_option linter.unusedVariables false
set_option linter.unusedSimpArgs false
def deps_All.l0 : Nat → List (S33) → List (S39) → Int → Int → Option ((List (S33)))
 | 0, _, _, _, _ => none
 | k + 1, x3, x6, x7, x8 => if x8 < x7 then (if 0 ≤ x8 then (if x8 < (x6.length : Int) then (if x3.length + ((rd_T39 x6 x8).f1).length < 8796093022208 then (deps_All.l0 k (x3 ++ ((rd_T39 x6 x8).f1)) x6 x7 (wrap64 (x8 + 1))) else (none)) else (none)) else (none)) else ((stamp_Sort.f x3).bind fun t141 => (some t141))
def deps_All.f (k : Nat) (l0 : List (S39)) : Option ((List (S33))) := deps_All.l0 k ([] : List (S33)) l0 (l0.length : Int) 0
set_option maxHeartbeats 8000000 in
set_option maxRecDepth 100000 in
theorem deps_All.calls (k : Nat) (A0 : Option Addr) (c0 : Nat) (l0 : List (S39)) (r : List (S33)) (w : World) (hr0 : Kd.C k39 w A0 l0.length l0) (hc0 : l0.length ≤ c0) (h : deps_All.f k l0 = some r) :
  Calls Try.prog 13 #[.slice A0 l0.length c0] w fun e w' => ∃ v0_ : Value, e = .returned (v0_) ∧ Kd.R k33 33 w' w.heap.size (fun _ => True) v0_ r ∧ Below w.heap.size w w' := by
 have hu39 := Try.underlying39
 have HR0 := Aside0.mk hr0
 have HC0 := Aside0.mk hc0
 clear hr0 hc0
 have HB := Aside0.mk (Below.refl w.heap.size w)
 have H : (deps_All.l0 k ([] : List (S33)) l0 (l0.length : Int) 0) = some r := h
 clear h
 have H' := Aside0.mk H
 clear H
 go_enter Try.func13, Try.ntmps13
 go_wp2
 go_loopg [3, 8] k (fun kq v3 v8 w' => ∃ (x3_1 : List (S33)) (x8_1 : Int), v8 = .int .i64 x8_1 ∧ Aside0 (deps_All.l0 kq x3_1 l0 (l0.length : Int) x8_1 = some r) ∧ Aside0 (kq ≤ k) ∧ Aside0 (Kd.R k33 33 w' w.heap.size (fun _ => True) v3 x3_1) ∧ Aside0 (Below w.heap.size w w'))
 case atStart => exact ⟨(([] : List (S33))), (0), (by first | rfl | (simp; done) | (simp [*]; done)), H', ⟨Nat.le_refl _⟩, ⟨by first | exact Kd.R_nil _ _ _ _ _ | exact Kd.N_nil _ _ _ _ _ | exact Kd.V_nil _ _ _ _ _ | exact Kd.Q_nil _ _ _ _ _ | exact Kd.S_nil _ _ _ _ _⟩, ⟨by repeat (first | (with_reducible first | exact HB.out | apply below_alloc | apply pw_below_drewN | apply below_drew1) | exact HB.out)⟩⟩
 case round =>
  clear H'
  try clear c1
  obtain ⟨x3_1, x8_1, rfl, HA, HK1, HO_3, HB⟩ := hrel
  cases gk with
  | zero => exact absurd HA.out (by simp [deps_All.l0])
  | succ k1 =>
   have H := HA.out
   clear HA
   simp only [deps_All.l0] at H
   by_cases c2 : x8_1 < (l0.length : Int)
   ·rw [if_pos c2] at H
    have c2b0 : decide (x8_1 < (l0.length : Int)) = true := decide_eq_true c2
    clear c2
    by_cases c3 : 0 ≤ x8_1
    ·rw [if_pos c3] at H
     have c3b0 : decide (0 ≤ x8_1) = true := decide_eq_true c3
     clear c3
     by_cases c4 : x8_1 < (l0.length : Int)
     ·rw [if_pos c4] at H
      have c4b0 : decide (x8_1 < (l0.length : Int)) = true := decide_eq_true c4
      clear c4
      by_cases c5 : x3_1.length + ((rd_T39 l0 x8_1).f1).length < 8796093022208
      ·rw [if_pos c5] at H
       have LMc5 := Aside0.mk c5
       clear c5
       obtain ⟨y138, hy138⟩ : ∃ y_ : List (S33), y_ = (x3_1 ++ ((rd_T39 l0 x8_1).f1)) := ⟨_, rfl⟩
       replace H : (deps_All.l0 k1 y138 l0 (l0.length : Int) (wrap64 (x8_1 + 1))) = some r := by first | (rw [hy138]; with_reducible exact H) | (have H2_ := (Option.bind_some _ _).symm.trans H; rw [hy138]; with_reducible exact H2_) | (have H2_ := (Option.bind_some _ _).symm.trans H; with_reducible exact H2_) | with_reducible exact H | (rw [hy138]; exact H) | exact H
       have Ny138 := Aside0.mk hy138
       clear hy138
       have H' := Aside0.mk H
       clear H
       have p136 : 0 ≤ (x8_1 : Int) := of_decide_eq_true (by first | (with_reducible assumption) | assumption)
       have q136 : x8_1 < (l0.length : Int) := of_decide_eq_true (by first | (with_reducible assumption) | assumption)
       obtain ⟨ad136, A136_1, c136_1, e136, hx136_0, hx136_1, hl136_1, hi136_1⟩ := at_T39 HR0.out x8_1 p136 q136
       cases e136
       replace hx136_0 := (HB.out.cell (World.block_lt_of_cell? w _ hx136_0)).trans hx136_0
       replace hx136_1 := (HB.out.cell (World.block_lt_of_cell? w _ hx136_1)).trans hx136_1
       have HR136_1 := Aside0.mk hi136_1
       have HC136_1 := Aside0.mk hl136_1
       clear hi136_1 hl136_1
       replace p136 := eq_true p136
       replace q136 := eq_true q136
       go_wp2_with (first | ((with_reducible refine gate_dst (N := 5) rfl ?_); refine box_event ?hg (N := 5) ?hd (cs := #[.int .i64 0, .slice none 0 0]) (t := 39) ?hr ?_; (case hd => rfl); (case hg => rfl); (case hr => first | (go_simp; done) | (go_simp; rfl)); intro gb137 hg w6 hbox hb; have n0_ := Aside0.mk (Kd.R_below (by (with_reducible repeat (first | apply Kd.R_alloc | apply Kd.R_drewN | apply Kd.R_drew)); exact HO_3.out) hb); have n1_ := Aside0.mk (below_step (by repeat (first | (with_reducible first | exact HB.out | apply below_alloc | apply pw_below_drewN | apply below_drew1) | exact HB.out)) hb); have n2_ := Aside0.mk (hbox); have n3_ := Aside0.mk ((by rw [hg]; exact (below_size (by repeat (first | (with_reducible first | exact HB.out | apply below_alloc | apply pw_below_drewN | apply below_drew1) | exact HB.out))) : w.heap.size ≤ gb137)); have n4_ := Aside0.mk ((by rw [hg]; exact (below_size (by repeat (first | (with_reducible first | exact HB.out | apply below_alloc | apply pw_below_drewN | apply below_drew1) | exact HB.out))) : w.heap.size ≤ gb137)); clear HO_3; clear HB; have HO_3 := n0_; have HB := n1_; have BK137 := n2_; have GW137 := n3_; have GE137 := n4_; clear n0_ n1_ n2_ n3_ n4_; clear hb hbox hg; have hcz7_0 : w6.cell? ⟨gb137, 0, none⟩ = some (.int .i64 0) := (blk_cell BK137.out 0).trans rfl; have hcz7_1 : w6.cell? ⟨gb137, 1, none⟩ = some (.slice none 0 0) := (blk_cell BK137.out 1).trans rfl; have hfz7_0 := blk_frozen BK137.out 0; have hfz7_1 := blk_frozen BK137.out 1) | ((with_reducible refine gate_builtin (b := .append) (xs := #[.tmp 12, .tmp 14]) rfl ?_); at_builtin; refine Kd.R_append_rows k33 (w0 := w) w.heap.size rfl (.tmp 12) (.tmp 14) 37 33 (.agg #[(.int .i64 0), (.int .i64 0)]) 16 rfl Try.underlying37 info33 rfl (by decide) (by omega) u3 x3_1 ((rd_T39 l0 x8_1).f1) _ _ _ (fun _ => True) (fun _ => False) rfl rfl ?aO ?aR (fun _ _ h => h) (fun _ h => h.elim) ?aF ?aB ?aS ?aL ?_; (case aR => exact Kd.C_below HR136_1.out (by repeat (first | (with_reducible first | exact HB.out | apply below_alloc | apply pw_below_drewN | apply below_drew1 | refine below_set ?_ GE137.out) | exact HB.out))); (case aB => exact (by repeat (first | (with_reducible first | exact HB.out | apply below_alloc | apply pw_below_drewN | apply below_drew1 | refine below_set ?_ GE137.out) | exact HB.out))); (case aF => exact (fun _ _ => trivial)); (case aO => exact (by (with_reducible repeat (first | apply Kd.R_alloc | apply Kd.R_drewN | apply Kd.R_drew)); exact Kd.R_mono (Kd.R_far (p := ⟨gb137, 1, none⟩) (Kd.R_far (p := ⟨gb137, 0, none⟩) (Kd.R_types HO_3.out BK137.out (by decide)) (fun _ hk => hk.2) (.int .i64 ((rd_T39 l0 x8_1).f0))) (fun _ hk => hk.2) (.slice A136_1 ((rd_T39 l0 x8_1).f1).length c136_1)) (fun _ hk => trivial))); (case aS => exact (below_size (by repeat (first | (with_reducible first | exact HB.out | apply below_alloc | apply pw_below_drewN | apply below_drew1 | refine below_set ?_ GE137.out) | exact HB.out)))); (case aL => have := LMc5.out; omega); intro v139 w8 ho hb hg hat; rw [← Ny138.out] at ho; have n0_ := Aside0.mk (blk_grown (g := gb137) (o := .cells #[.int .i64 ((rd_T39 l0 x8_1).f0), .slice A136_1 ((rd_T39 l0 x8_1).f1).length c136_1] 39 (0, 0)) (by (with_reducible repeat (first | refine blk_drewN ?_ _ | refine blk_drew ?_ | refine blk_alloc ?_ _)); refine blk_put (cs := #[.int .i64 ((rd_T39 l0 x8_1).f0), .slice none 0 0]) ?_ 1 _ rfl; (with_reducible repeat (first | refine blk_drewN ?_ _ | refine blk_drew ?_ | refine blk_alloc ?_ _)); refine blk_put (cs := #[.int .i64 0, .slice none 0 0]) ?_ 0 _ rfl; (with_reducible repeat (first | refine blk_drewN ?_ _ | refine blk_drew ?_ | refine blk_alloc ?_ _)); exact BK137.out) hg (Kd.R_ne HO_3.out BK137.out (by decide))); have n1_ := Aside0.mk (hb); have n2_ := Aside0.mk (ho); clear BK137; clear HB; clear HO_3; have BK137 := n0_; have HB := n1_; have HO140 := n2_; clear n0_ n1_ n2_; clear ho hb hg hat))
       go_roundg k1
       case measure => have := HK1.out; omega
       case rel => exact ⟨(y138), (wrap64 (x8_1 + 1)), (by first | rfl | (simp; done) | (simp [*]; done)), H', ⟨by have := HK1.out; omega⟩, ⟨by (with_reducible repeat (first | apply Kd.R_alloc | apply Kd.R_drewN | apply Kd.R_drew)); exact HO140.out⟩, ⟨by repeat (first | (with_reducible first | exact HB.out | apply below_alloc | apply pw_below_drewN | apply below_drew1 | refine below_set ?_ GE137.out) | exact HB.out)⟩⟩
      ·rw [if_neg c5] at H
       exact absurd H (by simp)
     ·rw [if_neg c4] at H
      exact absurd H (by simp)
    ·rw [if_neg c3] at H
     exact absurd H (by simp)
   ·rw [if_neg c2] at H
    have c2b0 : decide (x8_1 < (l0.length : Int)) = false := decide_eq_false c2
    clear c2
    replace H := Option.bind_eq_some_iff.mp H
    obtain ⟨t141, A90, H⟩ := H
    replace H : (some t141) = some r := H
    have A9 := Aside0.mk A90
    clear A90
    obtain rfl := Option.some.inj H
    obtain ⟨Ao10, co10, eo10⟩ := Kd.R_slice HO_3.out
    subst eo10
    go_wp2_with (first | ((with_reducible refine gate_callee (f := 28) rfl ?_); refine goesL_ (some 18) rfl rfl Try.func28 (by kernel_rfl) rfl #[.slice Ao10 x3_1.length co10] rfl (by (try simp only [List.map_toArray, List.map_cons, List.map_nil]); first | done | rfl | (simp only [List.length_drop, List.length_take]; rfl)) ?_; (with_reducible refine (stamp_Sort.calls _ _ x3_1 t141 _ ?side1 ?side2 A9.out).mono ?_); (case side1 => repeat (first | exact (Kd.R_reads' HO_3.out).2.2 | (with_reducible refine Kd.C_alloc ?_ _) | (with_reducible refine Kd.C_drewN ?_ _) | (with_reducible refine Kd.C_drew ?_))); (case side2 => exact (Kd.R_reads' HO_3.out).2.1); rintro e w11 ⟨v142, rfl, ho0, hb⟩; refine ⟨_, rfl, ?_⟩; have n0_ := Aside0.mk (Kd.R_elder' (by (with_reducible repeat (first | apply Kd.R_alloc | apply Kd.R_drewN | apply Kd.R_drew)); exact HO_3.out) (Kd.R_base ho0) hb); have n1_ := Aside0.mk (Kd.R_lower (Kd.R_new' ho0 (Kd.R_lt (by (with_reducible repeat (first | apply Kd.R_alloc | apply Kd.R_drewN | apply Kd.R_drew)); exact HO_3.out))) (below_size (by repeat (first | (with_reducible first | exact HB.out | apply below_alloc | apply pw_below_drewN | apply below_drew1) | exact HB.out)))); have n2_ := Aside0.mk (below_step (by repeat (first | (with_reducible first | exact HB.out | apply below_alloc | apply pw_below_drewN | apply below_drew1) | exact HB.out)) hb); clear HO_3; clear HB; have HO_3 := n0_; have HO143 := n1_; have HB := n2_; clear n0_ n1_ n2_; (try clear hb); (try clear hb2); (try clear hk); (try clear hi); (try clear ho0)))
    go_ret
    exact ⟨_, by first | rfl | (simp [errW_none, errW_some] <;> rfl) | (simp [*, errW_none, errW_some] <;> rfl), by (with_reducible repeat (first | apply Kd.R_alloc | apply Kd.R_drewN | apply Kd.R_drew)); exact Kd.R_mono HO143.out (fun _ hk => trivial), by repeat (first | (with_reducible first | exact HB.out | apply below_alloc | apply pw_below_drewN | apply below_drew1) | exact HB.out)⟩
end Go.Proofs.Ytaedlmeaconflaa.P
end
section
set_option linter.unusedVariables false
set_option linter.unusedSimpArgs false
namespace Go.Proofs.Ytaedlmeaconflaa.P
open Go.RowKit Go.Proofs.YtaedlmeaconflaaW.PrintWords Go.Proofs.YtaedlmeaconflaaW.PrintLast Go.Proofs.YtaedlmeaconflaaW.PrintMore
attribute [local go_sem] max2_int min2_int max_two min_two max_three min_three max_four min_four   -- for this text's walks alone
set_option linter.unusedVariables false
set_option linter.unusedSimpArgs false
attribute [local go_sem high] eqA33
def folkmootref01_Same.l0 : Nat → List (S33) → List (S33) → Int → Option (Bool)
 | 0, _, _, _ => none
 | k + 1, x0, x1, x5 => if x5 < (x0.length : Int) then (if 0 ≤ x5 then (if x5 < (x1.length : Int) then (if (!(((rd_T33 x0 x5).f0) == ((rd_T33 x1 x5).f0)) || (!(((rd_T33 x0 x5).f1) == ((rd_T33 x1 x5).f1)))) = true then (some false) else (folkmootref01_Same.l0 k x0 x1 (wrap64 (x5 + 1)))) else (none)) else (none)) else (some true)
def folkmootref01_Same.f (k : Nat) (l0 : List (S33)) (l1 : List (S33)) : Option (Bool) := if (l0.length : Int) = (l1.length : Int) then (folkmootref01_Same.l0 k l0 l1 0) else (some false)
set_option maxHeartbeats 8000000 in
set_option maxRecDepth 100000 in
theorem folkmootref01_Same.calls (k : Nat) (A0 : Option Addr) (c0 : Nat) (l0 : List (S33)) (A1 : Option Addr) (c1 : Nat) (l1 : List (S33)) (r : Bool) (w : World) (hr0 : Kd.C k33 w A0 l0.length l0) (hc0 : l0.length ≤ c0) (hr1 : Kd.C k33 w A1 l1.length l1) (hc1 : l1.length ≤ c1) (h : folkmootref01_Same.f k l0 l1 = some r) :
  Calls Try.prog 12 #[.slice A0 l0.length c0, .slice A1 l1.length c1] w fun e w' => e = .returned (.bool r) ∧ Drawn0 w w' := by
 have hu33 := Try.underlying33
 have HR0 := Aside0.mk hr0
 have HC0 := Aside0.mk hc0
 clear hr0 hc0
 have HR1 := Aside0.mk hr1
 have HC1 := Aside0.mk hc1
 clear hr1 hc1
 have H : (if (l0.length : Int) = (l1.length : Int) then (folkmootref01_Same.l0 k l0 l1 0) else (some false)) = some r := h
 clear h
 by_cases c3 : (l0.length : Int) = (l1.length : Int)
 ·rw [if_pos c3] at H
  have c3b0 : ((l0.length : Int) == (l1.length : Int)) = true := beq_iff_eq.mpr c3
  have c3b1 : ((l0.length : Int) != (l1.length : Int)) = false := bne_eq_false_iff_eq.mpr c3
  have c3b2 : (l0.length == l1.length) = true := by first | simpa using c3 | (simp at c3 ⊢; omega)
  clear c3
  have H' := Aside0.mk H
  clear H
  go_enter Try.func12, Try.ntmps12
  go_wp2
  repeat (go_quiet (fail); try go_wp2)
  go_loopg [5] k (fun kq v5 w' => ∃ (x5_1 : Int), v5 = .int .i64 x5_1 ∧ Aside0 (folkmootref01_Same.l0 kq l0 l1 x5_1 = some r) ∧ Aside0 (kq ≤ k) ∧ Drawn0 w w')
  case atStart => exact ⟨(0), (by first | rfl | (simp; done) | (simp [*]; done)), H', ⟨Nat.le_refl _⟩, by repeat (first | exact Drawn0.refl _ | apply Drawn0.step)⟩
  case round =>
   clear H'
   try clear c1
   try clear p2
   try clear c3
   try clear c3b0
   try clear c3b1
   try clear c3b2
   obtain ⟨x5_1, rfl, HA, HK1, ⟨m1, rfl⟩⟩ := hrel
   cases gk with
   | zero => exact absurd HA.out (by simp [folkmootref01_Same.l0])
   | succ k1 =>
    have H := HA.out
    clear HA
    simp only [folkmootref01_Same.l0] at H
    by_cases c4 : x5_1 < (l0.length : Int)
    ·rw [if_pos c4] at H
     have c4b0 : decide (x5_1 < (l0.length : Int)) = true := decide_eq_true c4
     clear c4
     by_cases c5 : 0 ≤ x5_1
     ·rw [if_pos c5] at H
      have c5b0 : decide (0 ≤ x5_1) = true := decide_eq_true c5
      clear c5
      by_cases c6 : x5_1 < (l1.length : Int)
      ·rw [if_pos c6] at H
       have c6b0 : decide (x5_1 < (l1.length : Int)) = true := decide_eq_true c6
       clear c6
       by_cases c7 : (!(((rd_T33 l0 x5_1).f0) == ((rd_T33 l1 x5_1).f0)) || (!(((rd_T33 l0 x5_1).f1) == ((rd_T33 l1 x5_1).f1)))) = true
       ·rw [if_pos c7] at H
        have c7b0 : (!(((rd_T33 l0 x5_1).f0) == ((rd_T33 l1 x5_1).f0)) || (!(((rd_T33 l0 x5_1).f1) == ((rd_T33 l1 x5_1).f1)))) = true := c7
        clear c7
        obtain rfl := Option.some.inj H
        have p129 : 0 ≤ (x5_1 : Int) := of_decide_eq_true (by first | (with_reducible assumption) | assumption)
        have q129 : x5_1 < (l0.length : Int) := of_decide_eq_true (by first | (with_reducible assumption) | assumption)
        obtain ⟨ad129, e129, hx129_0, hx129_1⟩ := at_T33 HR0.out x5_1 p129 q129
        cases e129
        replace p129 := eq_true p129
        replace q129 := eq_true q129
        have p130 : 0 ≤ (x5_1 : Int) := of_decide_eq_true (by first | (with_reducible assumption) | assumption)
        have q130 : x5_1 < (l1.length : Int) := of_decide_eq_true (by first | (with_reducible assumption) | assumption)
        obtain ⟨ad130, e130, hx130_0, hx130_1⟩ := at_T33 HR1.out x5_1 p130 q130
        cases e130
        replace p130 := eq_true p130
        replace q130 := eq_true q130
        go_wp2
        repeat (go_quiet (fail); try go_wp2)
        go_ret
        exact ⟨by first | rfl | (simp; done) | (simp [*]; done), by repeat (first | exact Drawn0.refl _ | apply Drawn0.step)⟩
       ·rw [if_neg c7] at H
        have c7b0 : (!(((rd_T33 l0 x5_1).f0) == ((rd_T33 l1 x5_1).f0)) || (!(((rd_T33 l0 x5_1).f1) == ((rd_T33 l1 x5_1).f1)))) = false := by simpa using c7
        clear c7
        have H' := Aside0.mk H
        clear H
        have p129 : 0 ≤ (x5_1 : Int) := of_decide_eq_true (by first | (with_reducible assumption) | assumption)
        have q129 : x5_1 < (l0.length : Int) := of_decide_eq_true (by first | (with_reducible assumption) | assumption)
        obtain ⟨ad129, e129, hx129_0, hx129_1⟩ := at_T33 HR0.out x5_1 p129 q129
        cases e129
        replace p129 := eq_true p129
        replace q129 := eq_true q129
        have p130 : 0 ≤ (x5_1 : Int) := of_decide_eq_true (by first | (with_reducible assumption) | assumption)
        have q130 : x5_1 < (l1.length : Int) := of_decide_eq_true (by first | (with_reducible assumption) | assumption)
        obtain ⟨ad130, e130, hx130_0, hx130_1⟩ := at_T33 HR1.out x5_1 p130 q130
        cases e130
        replace p130 := eq_true p130
        replace q130 := eq_true q130
        go_wp2
        repeat (go_quiet (fail); try go_wp2)
        go_roundg k1
        case measure => have := HK1.out; omega
        case rel => exact ⟨(wrap64 (x5_1 + 1)), (by first | rfl | (simp; done) | (simp [*]; done)), H', ⟨by have := HK1.out; omega⟩, by repeat (first | exact Drawn0.refl _ | apply Drawn0.step)⟩
      ·rw [if_neg c6] at H
       exact absurd H (by simp)
     ·rw [if_neg c5] at H
      exact absurd H (by simp)
    ·rw [if_neg c4] at H
     have c4b0 : decide (x5_1 < (l0.length : Int)) = false := decide_eq_false c4
     clear c4
     obtain rfl := Option.some.inj H
     go_wp2
     repeat (go_quiet (fail); try go_wp2)
     go_ret
     exact ⟨by first | rfl | (simp; done) | (simp [*]; done), by repeat (first | exact Drawn0.refl _ | apply Drawn0.step)⟩
 ·rw [if_neg c3] at H
  have c3b0 : ((l0.length : Int) == (l1.length : Int)) = false := beq_eq_false_iff_ne.mpr c3
  have c3b1 : ((l0.length : Int) != (l1.length : Int)) = true := bne_iff_ne.mpr c3
  have c3b2 : (l0.length == l1.length) = false := by first | simpa using c3 | (simp at c3 ⊢; omega)
  obtain rfl := Option.some.inj H
  go_enter Try.func12, Try.ntmps12
  go_wp2
  repeat (go_quiet (fail); try go_wp2)
  go_ret
  exact ⟨by first | rfl | (simp; done) | (simp [*]; done), by repeat (first | exact Drawn0.refl _ | apply Drawn0.step)⟩
end Go.Proofs.Ytaedlmeaconflaa.P
end
