/- what the claim's row stands on, part 3. -/
import Derived.Test.YtaedlmeaconflaaGreatZc2
import Derived.Test.YtaedlmeaconflaaGreatZc0
import Derived.Lib.OwnBridge
import Derived.Sort.OwnSortedInts
import Derived.Shelf.Small.Bits
import Derived.Shelf.SlIterI.Sorted
import Derived.Maps.OwnOps
import Derived.Maps.OwnSet
import Derived.Maps.RangeWalk
section
set_option linter.unusedVariables false
set_option linter.unusedSimpArgs false
namespace Go.Proofs.YtaedlmeaconflaaGreat.P
open Go.RowKit Go.Proofs.YtaedlmeaconflaaGreatW.PrintWords Go.Proofs.YtaedlmeaconflaaGreatW.PrintLast Go.Proofs.YtaedlmeaconflaaGreatW.PrintMore
abbrev kDs : Kd (List S26) := Kd.slice 26 k26
def rdB (xs : List (List S26)) (i : Int) : (List S26) := xs.getD i.toNat ([] : List S26)
theorem at_B {w : World} {A : Option Addr} {n : Nat} {xs : List (List S26)} (h : Kd.C kDs w A n xs) (i : Int) (h0 : 0 ≤ i) (h1 : i < n) : ∃ ad A0 c0, A = some ad ∧ w.cell? (ad.add i.toNat) = some (.slice A0 (rdB xs i).length c0) ∧ (rdB xs i).length ≤ c0 ∧ k26.C w A0 (rdB xs i).length (rdB xs i) := by
  obtain ⟨ad, c, e, _, hK, hc0⟩ := Kd.C_get h ([] : List S26) i h0 h1
  have hc : ∀ j u, c[j]? = some u → w.cell? (ad.add (i.toNat * 1 + j)) = some u := hc0
  obtain ⟨A0, c0, rfl, l0, g0⟩ := hK
  exact ⟨ad, A0, c0, e, by have hq := hc 0 _ rfl; rwa [Nat.mul_one, Nat.add_zero] at hq, l0, g0⟩
theorem rdB_nat (xs : List (List S26)) {k : Nat} (hk : k < xs.length) : rdB xs (k : Int) = xs[k] := by unfold rdB; simp [List.getD_eq_getElem?_getD, List.getElem?_eq_getElem hk]
theorem w64 {x : Int} (h0 : -9223372036854775808 ≤ x) (h1 : x ≤ 9223372036854775807) : wrap64 x = x := by unfold wrap64; omega
theorem heapD : Kd.Heap k26 := Kd.heap_iso _ (Kd.heap_pair (Kd.heap_int .i64) (Kd.heap_slice 41 (Kd.heap_iso _ (Kd.heap_pair (Kd.heap_int .i64) (Kd.heap_int .i64)))))
def RowN (P : Nat → Prop) (w : World) (base : Nat) (v : Value) (xs : List S26) : Prop := Kd.N k26 26 w base (fun q => P q ∨ base ≤ q) v xs
theorem add_block (a : Addr) (i : Nat) : (a.add i).block = a.block := by unfold Addr.add; split <;> rfl
theorem at_BF {w : World} {P : Nat → Prop} {A : Option Addr} {n : Nat} {xs : List (List S26)} (h : Kd.F kDs w P A n xs) (i : Int) (h0 : 0 ≤ i) (h1 : i < n) : ∃ ad A0 c0, A = some ad ∧ w.cell? (ad.add i.toNat) = some (.slice A0 (rdB xs i).length c0) ∧ (rdB xs i).length ≤ c0 ∧ Kd.F k26 w P A0 (rdB xs i).length (rdB xs i) := by
  obtain ⟨ad, A0, c0, e, hc, hl, hC⟩ := at_B (Kd.F_now h) i h0 h1
  refine ⟨ad, A0, c0, e, hc, hl, fun W' hW => ?_⟩
  obtain ⟨ad', A0', c0', e', hc', _, hC'⟩ := at_B (h W' hW) i h0 h1
  rw [e] at e'
  injection e' with e'
  subst e'
  have hin := Kd.F_in h e (by omega) (by decide)
  have hcc : W'.cell? (ad.add i.toNat) = w.cell? (ad.add i.toNat) := World.cell?_of_block (w := w) (hW (ad.add i.toNat).block (by rw [add_block]; exact hin) (World.block_lt_of_cell? w _ hc))
  rw [hcc, hc] at hc'
  injection hc' with hc'
  injection hc' with hA _ _
  rw [hA]
  exact hC'
def zD : S26 := ⟨0, []⟩
set_option maxHeartbeats 1000000 in
theorem dgrow_any (P : Nat → Prop) (m : Nat) (hm : m ≤ 1099511627776) (w : World) : Calls Tryz.prog 98 #[.slice none 0 0, .int .i64 m] w fun e w' => ∃ v, e = .returned v ∧ RowN P w' w.heap.size v [] ∧ Below w.heap.size w w' := by
  have d0 : decide ((m : Int) < 0) = false := decide_eq_false (by omega)
  have e1 : wrap64 ((m : Int) - 0) = m := by rw [w64 (by omega) (by omega)]; omega
  go_enter Tryz.func98, Tryz.ntmps98
  by_cases hz : m = 0
  · subst hz
    go_wp2
    go_ret
    exact ⟨_, rfl, Kd.N_nil _ _ _ _ _, Below.refl _ _⟩
  · have d1 : decide ((0 : Int) < m) = true := decide_eq_true (by omega)
    go_wp2_with ((with_reducible refine gate_builtin (b := .append) (xs := #[.tmp 20, .tmp 21]) rfl ?_); at_builtin; refine Kd.R_append_zeros k26 (w0 := w) w.heap.size rfl (.tmp 20) (.tmp 21) 22 3 26 (.agg #[.int .i64 0, .slice none 0 0]) 32 rfl Tryz.underlying22 Tryz.underlying3 infoD rfl (by decide) (by decide) (.slice none 0 0) [] zD (m : Int) (fun k => w.heap.size ≤ k) rfl rfl (k26_mkM _ _ _ zD (Kd.R_nil _ _ _ _ _)) (fun _ h => h) (Kd.R_nil _ _ _ _ _) (by omega) (Below.refl _ _) (Nat.le_refl _) (by simp; omega) ?_; intro v1 w1 hR hb hg hat; have ho := hR; obtain ⟨A, c, rfl⟩ := Kd.R_slice hR)
    go_ret
    refine ⟨_, rfl, ?_, hb⟩
    obtain ⟨_, inner, hown, _⟩ := ho
    have h2 := own_take hown (Nat.zero_le _)
    rw [Nat.zero_mul, List.take_zero] at h2
    exact Kd.R_N ⟨fun q hq => .inr (h2.lt q hq).1, [], h2, Reps.none _ _⟩
theorem flat_snoc (l : List (List S26)) {k : Nat} (hk : k < l.length) : (l.take (k + 1)).flatten = (l.take k).flatten ++ l[k] := by
  rw [List.take_succ_eq_append_getElem hk, List.flatten_append]; simp
theorem flat_le (l : List (List S26)) (k : Nat) : (l.take k).flatten.length ≤ l.flatten.length := by
  conv => rhs; rw [← List.take_append_drop k l, List.flatten_append, List.length_append]
  omega
def CatA (l : List (List S26)) (w : World) (sv kv : Value) (wr : World) : Prop := ∃ k : Nat, sv = .int .i64 (l.take k).flatten.length ∧ kv = .int .i64 k ∧ k ≤ l.length ∧ wr = w
def CatB (P : Nat → Prop) (l : List (List S26)) (w : World) (v kv : Value) (wr : World) : Prop := ∃ k : Nat, kv = .int .i64 k ∧ k ≤ l.length ∧ RowN P wr w.heap.size v (l.take k).flatten ∧ Below w.heap.size w wr
set_option maxHeartbeats 4000000 in
theorem dconcat_any (w : World) (P : Nat → Prop) (hP : ∀ q, P q → q < w.heap.size) (A : Option Addr) (c : Nat) (l : List (List S26)) (hC : Kd.F kDs w P A l.length l) (hl : l.flatten.length ≤ 1099511627776) :
    Calls Tryz.prog 66 #[.slice A l.length c] w fun e w' => ∃ v, e = .returned v ∧ RowN P w' w.heap.size v l.flatten ∧ Below w.heap.size w w' := by
  have hm := Kd.C_max (Kd.F_now hC)
  have HC := Lib.hid hC; have HPP := Lib.hid hP; clear hC hP
  obtain ⟨Q, hQ⟩ : ∃ Q, l.flatten = Q := ⟨_, rfl⟩
  have hle := flat_le l
  rw [hQ] at hl hle ⊢
  have HQ := Lib.hid hQ; have HLE := Lib.hid hle; clear hQ hle
  go_enter Tryz.func66, Tryz.ntmps66
  go_wp2
  go_loopw [3, 11] (fun sv kv wr => CatA l w sv kv wr) (fun _ k _ => l.length - (intOf k).toNat)
  case atStart => exact ⟨0, rfl, rfl, Nat.zero_le _, rfl⟩
  case round =>
    obtain ⟨k, rfl, rfl, hk, hw⟩ := hrel
    replace hw := hw.symm
    subst hw
    by_cases hlt : k < l.length
    · obtain ⟨ad, A0, c0, rfl, hx, hl0, hi0⟩ := at_BF HC.out (k : Int) (by omega) (by omega)
      rw [rdB_nat l hlt] at hx
      simp only [Int.toNat_natCast] at hx
      have hfs := flat_snoc l hlt
      have hfl := HLE.out (k + 1)
      rw [hfs, List.length_append] at hfl
      generalize (l.take k).flatten = P0 at *
      generalize l[k] = u at *
      have HFS := Lib.hid hfs; clear hfs
      have e1 : wrap64 ((P0.length : Int) + u.length) = (P0.length : Int) + u.length := w64 (by omega) (by omega)
      have d1 : decide ((P0.length : Int) + u.length < 0) = false := decide_eq_false (by omega)
      go_wp2
      go_roundw
      case rel => exact ⟨k + 1, by rw [HFS.out, List.length_append, Int.natCast_add], by go_num, by omega, rfl⟩
      case measure => simp [intOf]; omega
    · obtain rfl : k = l.length := by omega
      rw [List.take_length, HQ.out]
      go_wp2_with fail
      refine (dgrow_any P Q.length hl w).mono ?_
      rintro e w1 ⟨v, rfl, ho, hb⟩
      go_wp2
      go_loopw [6, 27] (fun v kv wr => CatB P l w v kv wr) (fun _ k _ => l.length - (intOf k).toNat)
      case atStart => exact ⟨0, rfl, Nat.zero_le _, ho, hb⟩
      case round =>
        clear ho hb
        obtain ⟨k, rfl, hk, ho, hb⟩ := hrel
        by_cases hlt : k < l.length
        · obtain ⟨ad, A0, c0, rfl, hx, hl0, hi0⟩ := at_BF HC.out (k : Int) (by omega) (by omega)
          rw [rdB_nat l hlt] at hx hi0
          simp only [Int.toNat_natCast] at hx
          have hx := pw_cell_below hb hx
          have hrd := Kd.F_old hi0 hb
          have hfs := flat_snoc l hlt
          have hfl := HLE.out (k + 1)
          rw [hfs, List.length_append] at hfl
          generalize (l.take k).flatten = P0 at *
          generalize l[k] = u at *
          have HFS := Lib.hid hfs; clear hfs
          have HO := Lib.hid ho; have HRD := Lib.hid hrd; have HB := Lib.hid hb
          obtain ⟨A6, c6, rfl⟩ := Kd.N_slice ho
          clear ho hrd hb hi0
          have hvo : ∀ q, q < w.heap.size → some q ≠ (Value.slice A6 P0.length c6).ownBlock := fun q hq e => by have := Kd.N_base HO.out q e.symm; omega
          have HV := Lib.hid hvo
          clear hvo
          go_wp2_with ((with_reducible refine gate_builtin (b := .append) (xs := #[.tmp 31, .tmp 32]) rfl ?_); at_builtin; refine Kd.N_append_rows k26 (w0 := w) w.heap.size rfl (.tmp 31) (.tmp 32) 22 26 (.agg #[.int .i64 0, .slice none 0 0]) 32 rfl Tryz.underlying22 infoD rfl (by decide) (by decide) (.slice A6 P0.length c6) P0 u A0 u.length c0 (fun q => P q ∨ w.heap.size ≤ q) (fun q => P q ∧ q < w.heap.size) rfl rfl HO.out HRD.out (fun q hq => ⟨.inl hq.1, HV.out q hq.2⟩) (fun q hq => .inr (Nat.le_trans HB.out.size hq)) HB.out HB.out.size (by omega) ?_; intro v1 w6 hO1 hb6 hg6 hat6)
          go_roundw
          case rel => exact ⟨k + 1, by go_num, by omega, by rw [HFS.out]; assumption, by assumption⟩
          case measure => simp [intOf]; omega
        · obtain rfl : k = l.length := by omega
          rw [List.take_length, HQ.out] at ho
          go_wp2
          go_ret
          exact ⟨_, rfl, ho, hb⟩
end Go.Proofs.YtaedlmeaconflaaGreat.P
end
section
set_option linter.unusedVariables false
set_option linter.unusedSimpArgs false
namespace Go.Proofs.YtaedlmeaconflaaGreat.P
open Go.RowKit Go.Sort Go.Lib Go.Shelf Go.Maps Go.ChangeMaps Go.Proofs.YtaedlmeaconflaaGreatW.PrintWords Go.Proofs.YtaedlmeaconflaaGreatW.PrintLast Go.Proofs.YtaedlmeaconflaaGreatW.PrintMore
def kI (x : Int) : Lit := .int .i64 x
theorem kI_key (x : Int) : WideAt.IsKeyLit (kI x) := trivial
theorem kI_inj {x y : Int} (h : kI x = kI y) : x = y := by simpa [kI] using h
def wfI (x : Int) : Prop := (Lit.int .i64 x).wf = true
abbrev HD := DataW Value
def heldR (v : Value) : Option (HD × List MemPlace) := some (.held v, [])
def upF {α : Type} (f : Int → Option α) (x : Int) (v : Option α) : Int → Option α := fun y => if y = x then v else f y
theorem upF_same {α : Type} (f : Int → Option α) (x : Int) (v : Option α) : upF f x v x = v := if_pos rfl
theorem upF_other {α : Type} (f : Int → Option α) {x y : Int} (v : Option α) (h : y ≠ x) : upF f x v y = f y := if_neg h
def cardF {α : Type} (f : Int → Option α) : Nat := ((List.range 1001).filter fun i : Nat => (f i).isSome).length
theorem cnt_same {p p' : Nat → Bool} {x : Nat} (h3 : ∀ y, y ≠ x → p' y = p y) : ∀ (l : List Nat), x ∉ l → l.filter p' = l.filter p
  | [], _ => rfl
  | y :: l, hx => by
    rw [List.filter_cons, List.filter_cons, h3 y (fun e => hx (e ▸ List.mem_cons_self ..)), cnt_same h3 l (fun h => hx (List.mem_cons_of_mem _ h))]
theorem cnt_up {p p' : Nat → Bool} {x : Nat} (h1 : p x = false) (h2 : p' x = true) (h3 : ∀ y, y ≠ x → p' y = p y) : ∀ (l : List Nat), l.Nodup → x ∈ l → (l.filter p').length = (l.filter p).length + 1
  | [], _, hx => by cases hx
  | y :: l, hn, hx => by
    have hn' := List.nodup_cons.1 hn
    by_cases e : y = x
    · subst e
      rw [List.filter_cons, List.filter_cons, h1, h2, cnt_same h3 l hn'.1]
      simp
    · have hl : x ∈ l := by
        rcases List.mem_cons.1 hx with h | h
        · exact absurd h.symm e
        · exact h
      have ih := cnt_up h1 h2 h3 l hn'.2 hl
      rw [List.filter_cons, List.filter_cons, h3 y e]
      split <;> simp [ih]
set_option maxRecDepth 100000 in
theorem cardF_put {α : Type} (f : Int → Option α) {x : Int} (h0 : 0 ≤ x) (h1 : x ≤ 1000) (hn : f x = none) (v : α) : cardF (upF f x (some v)) = cardF f + 1 := by
  obtain ⟨n, rfl⟩ : ∃ n : Nat, x = n := ⟨x.toNat, by omega⟩
  refine cnt_up (x := n) (by simp [hn]) (by simp [upF]) (fun y hy => ?_) _ List.nodup_range (List.mem_range.2 (by omega))
  rw [upF_other f _ (show ((y : Nat) : Int) ≠ n by omega)]
theorem cnt_congr {p q : Nat → Bool} (h : ∀ i, p i = q i) (l : List Nat) : (l.filter p).length = (l.filter q).length := by rw [show p = q from funext h]
theorem cardF_same {α : Type} (f : Int → Option α) {x : Int} (hn : (f x).isSome = true) (v : α) : cardF (upF f x (some v)) = cardF f :=
  cnt_congr (fun i => by
    by_cases e : (i : Int) = x
    · rw [e, upF_same, hn]; rfl
    · rw [upF_other f _ e]) _
set_option maxRecDepth 100000 in
theorem cardF_le {α : Type} (f : Int → Option α) : cardF f ≤ 1001 := Nat.le_trans (List.length_filter_le _ _) (by simp)
theorem cardF_none {α : Type} : cardF (fun _ => none : Int → Option α) = 0 := by unfold cardF; simp
def Holds (D : HD) (f : Int → Option Value) : Prop := Maps.size D = cardF f ∧ ∀ x, Maps.has D (kI x) = (f x).isSome ∧ ∀ z, D.atKey (kI x) (.held z) = .held ((f x).getD z)
def MI (w : World) (mb : Nat) (f : Int → Option Value) : Prop := ∃ D : HD, w.ownsMap Tryz.prog 3 heldR mb (Maps.size D) D ∧ Holds D f
theorem own_tight {w : World} {P : Program} {k b n : Nat} {R : Value → Option (HD × List MemPlace)} {D : HD} (h : w.ownsMap P k R b n D) : w.ownsMap P k R b (Maps.size D) D := by
  obtain ⟨es, clock, hb, F, hs, rfl⟩ := h
  exact ⟨es, clock, hb, F, by simp [Maps.size, length_sorted], rfl⟩
theorem own_upd_map {w w' : World} {P : Program} {k b n : Nat} {R : Value → Option (HD × List MemPlace)} {D : HD} (h : w.ownsMap P k R b n D) (he : w'.heap[b]? = w.heap[b]?) : w'.ownsMap P k R b n D := by
  obtain ⟨es, clock, hb, r⟩ := h
  exact ⟨es, clock, he.trans hb, r⟩
section
variable {w w' : World} {mb : Nat} {f : Int → Option Value}
theorem MI.lt (h : MI w mb f) : mb < w.heap.size := by obtain ⟨D, h, _⟩ := h; exact h.lt
theorem MI.upd {S : Nat → Prop} (h : MI w mb f) (hu : Upd w w' S) (hs : ¬ S mb) : MI w' mb f := by
  have hlt := h.lt
  obtain ⟨D, h, hh⟩ := h
  exact ⟨D, own_upd_map h (hu.block mb hlt hs), hh⟩
theorem MI.below (h : MI w mb f) (hb : Below w.heap.size w w') : MI w' mb f := h.upd (Upd.of_below hb (fun _ => False)) (fun x => x)
set_option maxRecDepth 100000 in
theorem MI.made (w : World) : MI (w.alloc (.map #[] 0)) w.heap.size (fun _ => none) := ⟨.map [], World.ownsMap_made _ _ _ _, by rw [cardF_none]; rfl, fun x => ⟨rfl, fun z => rfl⟩⟩
theorem MI.block (h : MI w mb f) {t : TypeId} {cs : Array Value} {g : Nat} (hb : Blk w g t cs) : g ≠ mb := by
  obtain ⟨D, ⟨es, clock, h2, _⟩, _⟩ := h
  rintro rfl
  unfold Blk at hb
  rw [hb] at h2
  cases h2
theorem int_law : Keyed Tryz.prog 3 := Maps.int_keyed Tryz.underlying3
set_option maxRecDepth 100000 in
theorem MI.lookS (h : MI w mb f) {x : Int} (hx : wfI x) : (Instr.lookup 95 (.map (some mb)) (.int .i64 x) false).run Tryz.prog w = .ok ((f x).getD (.slice none 0 0)) w := by
  obtain ⟨D, h, hs, hh⟩ := h
  obtain ⟨v, ps, hrun, hv⟩ := h.lookup int_law Tryz.underlying95 (Tryz.zeroValue24 w) (zd := .held (.slice none 0 0)) (zp := []) rfl (Maps.keyOf_int_mk Tryz.underlying3 hx)
  obtain ⟨h1, h2⟩ := hh x
  rw [show Lit.int .i64 x = kI x from rfl, h2] at hv
  unfold heldR at hv
  injection hv with hv
  injection hv with hv _
  injection hv with hv
  rw [hrun, hv]
set_option maxRecDepth 100000 in
theorem MI.putS (h : MI w mb f) {x : Int} (hx : wfI x) (h0 : 0 ≤ x) (h1 : x ≤ 1000) (v : Value) :
    ∃ w', (Instr.mapUpdate 95 (.map (some mb)) (.int .i64 x) v).run Tryz.prog w = .ok () w' ∧ MI w' mb (upF f x (some v)) ∧ Upd w w' (· = mb) := by
  obtain ⟨D, h, hs, hh⟩ := h
  have hT := h.tidy int_law
  obtain ⟨w', hrun, hown, hg⟩ := h.update int_law Tryz.underlying95 (by have := cardF_le f; rw [hs]; simp only [maxLen]; omega) (Maps.keyOf_int_mk Tryz.underlying3 hx) (d := .held v) (ps := []) (val := v) rfl
  refine ⟨w', hrun, ⟨D.put (kI x) (.held v), own_tight hown, ?_, fun y => ?_⟩, Upd.of_grown hg (fun k hk => by injection hk with hk; exact hk.symm)⟩
  · rw [Maps.size_put hT, (hh x).1]
    cases hf : f x with
    | none => rw [cardF_put f h0 h1 hf, hs]; rfl
    | some u => rw [cardF_same f (by rw [hf]; rfl), hs]; rfl
  · by_cases e : y = x
    · subst e
      rw [Maps.has_put_same hT.isMap (kI_key y), upF_same]
      exact ⟨rfl, fun z => by rw [Maps.atKey_put_same hT.isMap (kI_key y)]; rfl⟩
    · have hne : kI y ≠ kI x := fun h => e (kI_inj h)
      rw [Maps.has_put_other hne, upF_other f _ e]
      exact ⟨(hh y).1, fun z => by rw [Maps.atKey_put_other hne]; exact (hh y).2 z⟩
end
set_option maxHeartbeats 1000000 in
theorem iins_none (p : Option Addr) (cap : Nat) (w : World) : Calls Tryz.prog 126 #[.slice p 0 cap, .int .i64 0, .int .i64 0] w fun e w' => e = .returned (.tuple #[]) ∧ w' = w := by
  go_enter Tryz.func126, Tryz.ntmps126
  go_wp2
  refine wp_loop_rounds 1 ?_
  rw [rounds_succ]
  go_wp2
  go_end0
  exact ⟨rfl, rfl⟩
set_option maxHeartbeats 2000000 in
set_option maxRecDepth 100000 in
theorem ipdq_none (p : Option Addr) (cap : Nat) (w : World) : Calls Tryz.prog 115 #[.slice p 0 cap, .int .i64 0, .int .i64 0, .int .i64 0] w fun e w' => e = .returned (.tuple #[]) ∧ w' = w := by
  go_enter Tryz.func115, Tryz.ntmps115
  go_wp2
  refine wp_loop_rounds 1 ?_
  rw [rounds_succ]
  go_wp2_with (go_at_call 126; refine (iins_none _ _ _).mono ?_; rintro e w' ⟨rfl, rfl⟩)
  (try simp only [Exit.inBlock, Exit.then]); refine bodyPost_ret (results_none rfl _ _ _) rfl ?_
  exact ⟨rfl, rfl⟩
set_option maxHeartbeats 1000000 in
theorem isort_none (p : Option Addr) (cap : Nat) (w : World) : Calls Tryz.prog 100 #[.slice p 0 cap] w fun e w' => e = .returned (.tuple #[]) ∧ w' = w := by
  have hLen : ∀ w, Calls Tryz.prog 113 #[.int .u64 0] w fun e w' => e = .returned (.int .i64 0) ∧ w' = w := fun w => Any.bits_Len Tryz.shLen 0 w (by omega) (by omega)
  go_enter Tryz.func100, Tryz.ntmps100
  go_wp2_with (first
    | (go_at_call 113; refine (hLen _).mono ?_; rintro e w' ⟨rfl, rfl⟩)
    | (go_at_call 115; refine (ipdq_none _ _ _).mono ?_; rintro e w' ⟨rfl, rfl⟩))
  go_end0
  exact ⟨rfl, rfl⟩
theorem sortsA (m : Nat) : AnyZI.SortsIn Tryz.prog Tryz.shSorted_ren Fence.wide m :=
  ⟨fun blk off cap ss W hH hblk hsz => callsIn_wide.2 (Any.slices_Sort_int Tryz.shSort blk off cap ss W hH hblk hsz),
   fun p cap W => callsIn_wide.2 (isort_none p cap W)⟩
def keysF {α : Type} (F : Int → Option α) : List Int := ((List.range 1001).filter fun i : Nat => (F i).isSome).map (fun n : Nat => (n : Int))
theorem keysF_nodup {α : Type} (F : Int → Option α) : (keysF F).Nodup := by
  unfold keysF
  exact List.Pairwise.map _ (fun a b h e => h (Int.ofNat.inj e)) ((List.nodup_range (n := 1001)).filter _)
theorem mem_keysF {α : Type} {F : Int → Option α} (h : ∀ n x, F n = some x → 0 ≤ n ∧ n ≤ 1000) (x : Int) : x ∈ keysF F ↔ (F x).isSome = true := by
  unfold keysF
  simp only [List.mem_map, List.mem_filter, List.mem_range];constructor
  · rintro ⟨n, ⟨_, h2⟩, rfl⟩; exact h2
  · intro hx
    obtain ⟨y, hy⟩ := Option.isSome_iff_exists.1 hx
    have := h x y hy
    exact ⟨x.toNat, ⟨by omega, by rw [Int.toNat_of_nonneg (by omega)]; exact hx⟩, Int.toNat_of_nonneg (by omega)⟩
theorem keysF_sorted {α : Type} (F : Int → Option α) : (keysF F).Pairwise (fun x y => decide (x ≤ y) = true) := by
  unfold keysF
  rw [List.pairwise_map]
  refine ((List.pairwise_lt_range (n := 1001)).filter _).imp (fun h => ?_)
  simp; omega
section
theorem keysIS_any (mb : Option Nat) (W : World) : Calls Tryz.prog 68 #[.map mb] W fun e w' => e = .returned (.func (.func 101) #[] #[.pointer (some ⟨W.heap.size, 0, none⟩)]) ∧ w' = W.alloc (.cells #[.map mb] 95) :=
  (callsIn_wide (n := 5)).1 (AnyZI.keys_in Tryz.shKeys Fence.wide 5 trivial rfl mb W)
theorem own_int_keys {w : World} {n mb : Nat} {D : HD} (h : w.ownsMap Tryz.prog 3 heldR mb n D) : ∃ es, D = .map es ∧ es.Pairwise (fun p q => p.1 ≠ q.1) ∧ ∀ p ∈ es, ∃ x, p.1 = .int .i64 x := by
  obtain ⟨es, e, hp⟩ := h.tidy int_law
  obtain ⟨es0, clock, hb, F, _, e0⟩ := h
  rw [e] at e0
  injection e0 with e0
  refine ⟨es, e, hp, fun p hpm => ?_⟩
  rw [e0] at hpm
  have hpm := (WideShapes.sorted_perm _).mem_iff.1 hpm
  obtain ⟨x, hx, rfl⟩ := List.mem_map.1 hpm
  obtain ⟨y, hy⟩ := F.reads x hx
  rw [WideElems.rg_of hy]
  obtain ⟨z, _, hz, _⟩ := Maps.keyOf_i64 Tryz.underlying3 (WideElems.rd_key hy)
  exact ⟨z, hz⟩
theorem keys_perm {w : World} {n mb : Nat} {D : HD} (h : w.ownsMap Tryz.prog 3 heldR mb n D) {f : Int → Option Value} (hh : Holds D f) {L : List Int} (hn : L.Nodup) (hL : ∀ x, x ∈ L ↔ (f x).isSome = true) : L.Perm (intKeys D) := by
  obtain ⟨es, rfl, hp, hk⟩ := own_int_keys h
  exact perm_intKeys hp hk hn (fun x => by rw [hL x, ← (hh.2 x).1]; rfl)
theorem sortedIS_any {w : World} {mb : Nat} {f : Int → Option Value} {Bm : Nat} (hM : MI w mb f) (hf : ∀ n x, f n = some x → 0 ≤ n ∧ n ≤ 1000) (hB : Bm < w.heap.size) (hm : w.cell? ⟨Bm, 0, none⟩ = some (.map (some mb))) :
    Calls Tryz.prog 67 #[.func (.func 101) #[] #[.pointer (some ⟨Bm, 0, none⟩)]] w fun e w' => ∃ v, e = .returned v ∧ w'.ownsRow w.heap.size 3 1 v (keysF f).length (nums .i64 (keysF f)) ∧ Below w.heap.size w w' := by
  obtain ⟨D, hown, hh⟩ := hM
  have hsz : Maps.size D = cardF f := hh.1
  have hcl := cardF_le f
  have hseq : SeqGives Fence.wide 2 Tryz.prog 101 #[.pointer (some ⟨Bm, 0, none⟩)] encZ (fun ss => ss.Perm (intKeys D)) (Maps.size D) w :=
    AnyZI.keys_gives (ρ := Tryz.shKeys_ren) { Tryz.shKeys with } Fence.wide _ trivial rfl (by omega) Bm mb (Maps.size D) D w hB hm hown
  have cS := AnyZI.sorted_in Tryz.shSorted Fence.wide 5 trivial trivial trivial trivial rfl (by omega) (sortsA _) (enters_of Tryz.func100 (by kernel_rfl) rfl) 101 #[.pointer (some ⟨Bm, 0, none⟩)] trivial (enters_of Tryz.func101 (by kernel_rfl) rfl) _ _ (by rw [hsz]; unfold maxLen; omega) (by rw [hsz]; omega) _ hseq
  refine ((callsIn_wide (n := 5)).1 cS).mono fun e w' ⟨v, ss, he, hp, ho, _, hb⟩ => ⟨v, he, ?_, hb⟩
  have hpm := hp.trans (keys_perm hown hh (keysF_nodup f) (mem_keysF hf)).symm
  rw [mergeSort_of_perm_i hpm, hpm.length_eq, List.mergeSort_of_pairwise (keysF_sorted f)] at ho
  exact ho
end
end Go.Proofs.YtaedlmeaconflaaGreat.P
end
section
set_option linter.unusedVariables false
set_option linter.unusedSimpArgs false
namespace Go.Proofs.YtaedlmeaconflaaGreat.P
open Go.RowKit Go.Shelf Go.Proofs.YtaedlmeaconflaaGreatW.PrintWords Go.Proofs.YtaedlmeaconflaaGreatW.PrintLast Go.Proofs.YtaedlmeaconflaaGreatW.PrintMore
theorem setS_len (xs : List S41) : (setS xs).length ≤ xs.length := by
  have h : ∀ (ys : List S41) (n : Nat), (cmpc ys n).length ≤ n := by
    intro ys n
    induction n with
    | zero => simp [cmpc]
    | succ n ih =>
      rw [cmpc, List.length_append]
      split
      · cases ys[n]? <;> simp <;> omega
      · simp; omega
  unfold setS compS
  have := h (sortS xs) (sortS xs).length
  rw [sortS_len] at this ⊢
  exact this
set_option maxHeartbeats 1000000 in
theorem make_any (n : Int) (A : Option Addr) (c : Nat) (xs : List S41) (w : World) (hr : Kd.C k41 w A xs.length xs) (hb : xs.length * 16 ≤ 140737488355328) :
    Calls Tryz.prog 29 #[.int .i64 n, .slice A xs.length c] w fun e w' => ∃ w2 v, e = .returned (.slice (some ⟨w2.heap.size, 0, none⟩) 1 1) ∧ w' = w2.alloc (.cells #[.int .i64 n, v] 26) ∧ RowS w2 w.heap.size v (setS xs) ∧ Below w.heap.size w w2 := by
  have HS := Lib.hid (ssortall_any A c xs w hr hb)
  clear hr hb
  go_enter Tryz.func29, Tryz.ntmps29
  go_wp2_with fail
  refine HS.out.mono ?_
  rintro e w2 ⟨v2, rfl, ho2, hb2⟩
  have HO := Lib.hid (And.intro ho2 hb2)
  obtain ⟨A5, c5, rfl⟩ := own_slice ho2
  clear ho2 hb2
  go_wp2
  go_ret
  exact ⟨w2, _, rfl, rfl, HO.out.1, HO.out.2⟩
def idsOf (ds : List S26) (x : Int) : List S41 := (ds.filter fun d => decide (d.f0 = x)).flatMap (·.f1)
theorem idsOf_snoc (ds : List S26) (d : S26) (x : Int) : idsOf (ds ++ [d]) x = idsOf ds x ++ (if d.f0 = x then d.f1 else []) := by
  unfold idsOf
  rw [List.filter_append, List.flatMap_append]
  by_cases h : d.f0 = x <;> simp [h]
def hasOf (ds : List S26) (x : Int) : Bool := ds.any fun d => decide (d.f0 = x)
theorem hasOf_snoc (ds : List S26) (d : S26) (x : Int) : hasOf (ds ++ [d]) x = (hasOf ds x || decide (d.f0 = x)) := by simp [hasOf]
theorem idsOf_none {ds : List S26} {x : Int} (h : hasOf ds x = false) : idsOf ds x = [] := by
  unfold idsOf
  rw [List.filter_eq_nil_iff.2]
  · rfl
  · intro d hd
    unfold hasOf at h
    rw [List.any_eq_false] at h
    exact h d hd
structure MG (s mb : Nat) (ds : List S26) (w : World) (f : Int → Option Value) : Prop where
  map : MI w mb f
  row : ∀ x v, f x = some v → RowS w s v (idsOf ds x)
  has : ∀ x, (f x).isSome = hasOf ds x
  apart : ∀ x y v u, x ≠ y → f x = some v → f y = some u → ∀ k, v.ownBlock = some k → u.ownBlock ≠ some k
theorem MG.upd {s mb : Nat} {ds : List S26} {w w' : World} {f : Int → Option Value} {S : Nat → Prop} (h : MG s mb ds w f) (hu : Upd w w' S) (hm : ¬ S mb) (hs : ∀ k, s ≤ k → ¬ S k) : MG s mb ds w' f where
  map := h.map.upd hu hm
  row x v hx := own_move (h.row x v hx) (fun k hk => hu.block k ((h.row x v hx).lt k hk).2 (hs k ((h.row x v hx).lt k hk).1))
  has := h.has
  apart := h.apart
theorem MG.below {s mb : Nat} {ds : List S26} {w w' : World} {f : Int → Option Value} (h : MG s mb ds w f) (hb : Below w.heap.size w w') : MG s mb ds w' f := h.upd (Upd.of_below hb (fun _ => False)) (fun x => x) (fun _ _ x => x)
theorem rowS_nil (w : World) (s : Nat) : RowS w s (.slice none 0 0) [] := own_nil _ _ _ _
theorem MG.at_ {s mb : Nat} {ds : List S26} {w : World} {f : Int → Option Value} (h : MG s mb ds w f) (x : Int) : RowS w s ((f x).getD (.slice none 0 0)) (idsOf ds x) := by
  cases hf : f x with
  | some v => exact h.row x v hf
  | none =>
    have : hasOf ds x = false := by rw [← h.has x, hf]; rfl
    rw [idsOf_none this]
    exact rowS_nil w s
theorem MG.put {s mb : Nat} {ds : List S26} {W w5 : World} {f : Int → Option Value} (h : MG s mb ds W f) (hms : mb < s) (d : S26) (h0 : 0 ≤ d.f0) (h1 : d.f0 ≤ 1000) {v1 : Value} (hr : RowS w5 s v1 (idsOf ds d.f0 ++ d.f1))
    (hg : W.grownBy w5 ((f d.f0).getD (.slice none 0 0)).ownBlock) (hat : v1.ownBlock = ((f d.f0).getD (.slice none 0 0)).ownBlock ∨ ∃ b, v1.ownBlock = some b ∧ W.heap.size ≤ b) :
    ∃ w6, (Instr.mapUpdate 95 (.map (some mb)) (.int .i64 d.f0) v1).run Tryz.prog w5 = .ok () w6 ∧ MG s mb (ds ++ [d]) w6 (upF f d.f0 (some v1)) ∧ Upd W w6 (fun k => k = mb ∨ s ≤ k) := by
  have hv := h.at_ d.f0
  have hge : ∀ k, ((f d.f0).getD (.slice none 0 0)).ownBlock = some k → s ≤ k ∧ k < W.heap.size := fun k hk => hv.lt k hk
  have hu5 : Upd W w5 (fun k => k = mb ∨ s ≤ k) := Upd.of_grown hg (fun k hk => .inr (hge k hk).1)
  have hm5 : MI w5 mb f := h.map.upd (Upd.of_grown hg (S := fun k => s ≤ k) (fun k hk => (hge k hk).1)) (by omega)
  obtain ⟨w6, hrun, hm6, hu6⟩ := hm5.putS (x := d.f0) (WalkArith.wf_i64 (by omega)) h0 h1 v1
  have hmv : ∀ {w : World} {v : Value} {xs : List S41}, RowS w s v xs → ∀ k, v.ownBlock = some k → ¬ k = mb := fun hr k hk e => by have := (hr.lt k hk).1; omega
  refine ⟨w6, hrun, ⟨hm6, fun y v hy => ?_, fun y => ?_, fun y z v u hyz hy hz k hk hk2 => ?_⟩, hu5.trans (hu6.mono (fun k _ hk => .inl hk))⟩
  · rw [idsOf_snoc]
    by_cases e : y = d.f0
    · subst e
      rw [upF_same] at hy
      injection hy with hy
      subst hy
      rw [if_pos rfl]
      exact own_move hr (fun k hk => hu6.block k (hr.lt k hk).2 (hmv hr k hk))
    · rw [upF_other f _ e] at hy
      rw [if_neg (fun h => e h.symm), List.append_nil]
      have hry := h.row y v hy
      have hry5 : RowS w5 s v (idsOf ds y) := own_move hry (fun k hk => hg.block k (hry.lt k hk).2 (fun e2 => by
        cases hf : f d.f0 with
        | none => rw [hf] at e2; simp [Value.ownBlock] at e2
        | some u =>
          rw [hf] at e2
          exact h.apart y d.f0 v u e hy hf k hk e2.symm))
      exact own_move hry5 (fun k hk => hu6.block k (hry5.lt k hk).2 (hmv hry5 k hk))
  · rw [hasOf_snoc, ← h.has y]
    by_cases e : y = d.f0
    · subst e; rw [upF_same]; simp
    · rw [upF_other f _ e]
      have : ¬ d.f0 = y := fun h => e h.symm
      simp [this]
  · have key : ∀ (y : Int) (v : Value), y ≠ d.f0 → f y = some v → ∀ k, v.ownBlock = some k → v1.ownBlock ≠ some k := fun y v e hy k hk hk2 => by
      rcases hat with h2 | ⟨b, hb, hbs⟩
      · rw [h2] at hk2
        cases hf : f d.f0 with
        | none => rw [hf] at hk2; simp [Value.ownBlock] at hk2
        | some u =>
          rw [hf] at hk2
          exact h.apart y d.f0 v u e hy hf k hk hk2
      · rw [hb] at hk2
        injection hk2 with hk2
        have := ((h.row y v hy).lt k hk).2
        omega
    by_cases ey : y = d.f0
    · subst ey
      rw [upF_same] at hy
      injection hy with hy
      subst hy
      rw [upF_other f _ (fun e => hyz e.symm)] at hz
      exact key z u (fun e => hyz e.symm) hz k hk2 hk
    · rw [upF_other f _ ey] at hy
      by_cases ez : z = d.f0
      · subst ez
        rw [upF_same] at hz
        injection hz with hz
        subst hz
        exact key y v ey hy k hk hk2
      · rw [upF_other f _ ez] at hz
        exact h.apart y z v u hyz hy hz k hk hk2
end Go.Proofs.YtaedlmeaconflaaGreat.P
end
section
set_option linter.unusedVariables false
set_option linter.unusedSimpArgs false
namespace Go.Proofs.YtaedlmeaconflaaGreat.P
open Go.RowKit Go.Shelf Go.Proofs.YtaedlmeaconflaaGreatW.PrintWords Go.Proofs.YtaedlmeaconflaaGreatW.PrintLast Go.Proofs.YtaedlmeaconflaaGreatW.PrintMore
def keysD (ds : List S26) : List Int := ((List.range 1001).filter fun i : Nat => hasOf ds i).map (fun n : Nat => (n : Int))
def mergeD (ds : List S26) : List S26 := (keysD ds).map fun x => ⟨x, setS (idsOf ds x)⟩
theorem keysF_D {s mb : Nat} {ds : List S26} {w : World} {f : Int → Option Value} (h : MG s mb ds w f) : keysF f = keysD ds := by
  unfold keysF keysD
  rw [show (fun i : Nat => (f (i : Int)).isSome) = (fun i : Nat => hasOf ds (i : Int)) from funext fun i => h.has i]
theorem idsOf_le : ∀ (ds : List S26) (x : Int), (idsOf ds x).length ≤ (ds.flatMap (·.f1)).length
  | [], x => by simp [idsOf]
  | d :: ds, x => by
    have ih := idsOf_le ds x
    rw [List.flatMap_cons, List.length_append]
    unfold idsOf at *
    by_cases h : d.f0 = x
    · rw [List.filter_cons_of_pos (by simpa using h), List.flatMap_cons, List.length_append]; omega
    · rw [List.filter_cons_of_neg (by simpa using h)]; omega
theorem idsOf_take_le (ds : List S26) (k : Nat) (x : Int) : (idsOf (ds.take k) x).length ≤ (ds.flatMap (·.f1)).length := by
  refine Nat.le_trans (idsOf_le _ x) ?_
  conv => rhs; rw [← List.take_append_drop k ds, List.flatMap_append, List.length_append]
  omega
theorem Upd.then_new {a b c : World} {S : Nat → Prop} (h : Upd a b S) (k : Upd b c (fun q => S q ∨ a.heap.size ≤ q)) : Upd a c S :=
  ⟨k.os.trans h.os, k.tape.trans h.tape, k.output.trans h.output, Nat.le_trans h.size k.size, fun q hq hs => (k.block q (Nat.lt_of_lt_of_le hq h.size) (fun e => by rcases e with e | e; exact hs e; omega)).trans (h.block q hq hs)⟩
theorem heapDs : Kd.Heap kDs := Kd.heap_slice 26 heapD
set_option maxHeartbeats 4000000 in
set_option maxRecDepth 100000 in
theorem merge_any (A : Option Addr) (c : Nat) (l : List (List S26)) (w : World) (hr : Kd.C kDs w A l.length l) (hsh : ∀ d ∈ l.flatten, 0 ≤ d.f0 ∧ d.f0 ≤ 1000) (hn : l.flatten.length ≤ 1099511627776) (hids : (l.flatten.flatMap (·.f1)).length ≤ 1099511627776) :
    Calls Tryz.prog 25 #[.slice A l.length c] w fun e w' => ∃ v, e = .returned v ∧ Kd.S k26 26 w' w.heap.size (fun _ => True) v (mergeD l.flatten) ∧ Below w.heap.size w w' := by
  have mixed : Tryz.prog.follows .mixedOrders = true := by kernel_rfl
  have hmm := @run_makeMap Tryz.prog
  obtain ⟨w0, hw0⟩ : ∃ w0, w.alloc (.map #[] 0) = w0 := ⟨_, rfl⟩
  have hb0 : Below w.heap.size w w0 := hw0 ▸ (Below.refl _ _).alloc (Nat.le_refl _) _
  have hsz0 : w0.heap.size = w.heap.size + 1 := by rw [← hw0]; simp
  have hM0 : MI w0 w.heap.size (fun _ => none) := hw0 ▸ MI.made w
  have hF : Kd.F kDs w0 (fun q => q < w.heap.size) A l.length l := Kd.F_mono (Kd.F_old (Kd.C_F heapDs hr) hb0) (fun q hq => hq.2)
  have HCat := Lib.hid (dconcat_any w0 (fun q => q < w.heap.size) (fun q hq => by omega) A c l hF hn)
  clear hF hr
  generalize hds : l.flatten = ds at *
  have HH := Lib.hid (And.intro hb0 (And.intro hsz0 hM0))
  have HSH := Lib.hid hsh
  have HI := Lib.hid hids
  clear hb0 hsz0 hM0 hsh hids hds
  go_enter Tryz.func25, Tryz.ntmps25
  go_wp2_with fail
  clear hmm;refine HCat.out.mono ?_
  rintro e w1 ⟨v1, rfl, ho1, hb1⟩
  have HO1 := Lib.hid (And.intro ho1 hb1)
  obtain ⟨A3, c3, rfl⟩ := Kd.N_slice ho1
  clear ho1 hb1
  go_wp2
  go_loopw [12] (fun si wr => ∃ (k : Nat) (f : Int → Option Value), si = .int .i64 (k : Int) ∧ k ≤ ds.length ∧ RowKit.Hid (MG w1.heap.size w.heap.size (ds.take k) wr f ∧ Upd w1 wr (· = w.heap.size))) (fun si _ => ds.length - (intOf si).toNat)
  case atStart => exact ⟨0, fun _ => none, rfl, by omega, Lib.hid ⟨⟨HH.out.2.2.below HO1.out.2, fun x v h => (by cases h), fun x => (by simp [hasOf]), fun x y v u _ h => (by cases h)⟩, Upd.refl _ _⟩⟩
  case round =>
    obtain ⟨k, f, rfl, hk, HG⟩ := hrel
    by_cases hlt : k < ds.length
    · have hN := Kd.N_step (w1 := wr) HO1.out.1 (fun q hq hql => HG.out.2.block q hql (fun e => by
        have := HH.out.2.1
        rcases hq with h | h <;> omega))
      obtain ⟨_, hlc3, hC⟩ := Kd.N_reads' hN
      rcases A3 with _ | ad
      · exact absurd (hC.2.2 (by omega)) (by simp)
      obtain ⟨A1, c1, d0, d1, hlc, hCx⟩ := C_atD hC k hlt
      have hmem := HSH.out _ (List.getElem_mem hlt)
      have htk : ds.take (k + 1) = ds.take k ++ [ds[k]] := List.take_succ_eq_append_getElem hlt
      have hle := idsOf_take_le ds (k + 1) (ds[k]).f0
      rw [htk, idsOf_snoc, if_pos rfl, List.length_append] at hle
      generalize ds[k] = x at *
      have HX := Lib.hid (And.intro hCx (And.intro hmem (And.intro htk (Nat.le_trans hle HI.out))))
      clear hlc hCx hmem htk hle hN hlc3 hC
      obtain ⟨x0, x1⟩ := x
      obtain ⟨wb, hwb⟩ : ∃ wb, wr.alloc (.cells #[.int .i64 x0, .slice A1 x1.length c1] 26) = wb := ⟨_, rfl⟩
      have hBb : Below wr.heap.size wr wb := hwb ▸ (Below.refl _ _).alloc (Nat.le_refl _) _
      have hT : Blk wb wr.heap.size 26 #[.int .i64 x0, .slice A1 x1.length c1] := hwb ▸ Blk.new wr 26 _
      have hG := HG.out.1.below (hBb.drew)
      have hv := hG.at_ x0
      obtain ⟨Av, cv, hve⟩ := own_slice hv
      have hvw := hG.map.lookS (x := x0) (WalkArith.wf_i64 (by have := HX.out.2.1.1; have := HX.out.2.1.2; simp only at *; omega))
      rw [hve] at hvw
      have b0 : wb.cell? ⟨wr.heap.size, 0, none⟩ = some (.int .i64 x0) := hT.cell 0
      have b1 : wb.cell? ⟨wr.heap.size, 1, none⟩ = some (.slice A1 x1.length c1) := hT.cell 1
      have hlk := hvw
      have hvlt : ∀ q, (Value.slice Av (idsOf (ds.take k) x0).length cv).ownBlock = some q → w1.heap.size ≤ q ∧ q < wr.heap.size := fun q hq => by
        have := (HG.out.1.at_ x0).lt q
        rw [hve] at this
        exact this hq
      have hvr : RowS wb.drew w1.heap.size (.slice Av (idsOf (ds.take k) x0).length cv) (idsOf (ds.take k) x0) := hve ▸ hv
      have HV := Lib.hid (And.intro hG (And.intro hvr (And.intro hve (And.intro hBb (And.intro hT hvlt)))))
      have HSZ := Lib.hid (show w1.heap.size ≤ wb.heap.size from Nat.le_trans HG.out.2.size hBb.size)
      have HMS := Lib.hid (show w.heap.size < w1.heap.size by have := HO1.out.2.size; have := HH.out.2.1; omega)
      clear hBb hT hG hv hve hlk hvlt hvr
      go_upto_region 5 with fail
      refine wp_region_last1_held (S := (fun W => W.cell? ⟨wr.heap.size, 0, none⟩ = some (.int .i64 x0) ∧ W.cell? ⟨wr.heap.size, 1, none⟩ = some (.slice A1 x1.length c1) ∧ (Instr.lookup 95 (.map (some w.heap.size)) (.int .i64 x0) false).run Tryz.prog W = .ok (.slice Av (idsOf (ds.take k) x0).length cv) W)) (l := [_, _, _, _, _, _, _, _, _, _]) (o := _) (by kernel_rfl) (by kernel_rfl) ?_;simp only [List.size_toArray, List.length_cons, List.length_nil, Nat.zero_add, Nat.reduceAdd]
      have hHeld : ((fun W => W.cell? ⟨wr.heap.size, 0, none⟩ = some (.int .i64 x0) ∧ W.cell? ⟨wr.heap.size, 1, none⟩ = some (.slice A1 x1.length c1) ∧ (Instr.lookup 95 (.map (some w.heap.size)) (.int .i64 x0) false).run Tryz.prog W = .ok (.slice Av (idsOf (ds.take k) x0).length cv) W)) wb.drew := ⟨b0, b1, hvw⟩
      refine wpAnyH_take (i := 0) (v := ?_) rfl (by kernel_rfl) (by kernel_rfl) (by kernel_rfl) (fun _ _ _ h => h) (Or.inl ⟨by rfl, ?_⟩) (by assumption) ?_;rotate_left
      · (intro w hSw; (try dsimp only at hSw); go_split_ands; go_simp; try with_reducible rfl)
      try simp only [List.getElem_toArray, List.getElem_cons_succ, List.getElem_cons_zero, Act.put, List.setIfInBounds_toArray, List.set_cons_zero, List.set_cons_succ]
      refine wpAnyH_take (i := 1) (v := ?_) rfl (by kernel_rfl) (by kernel_rfl) (by kernel_rfl) (fun _ _ _ h => h) (Or.inl ⟨by rfl, ?_⟩) (by assumption) ?_;rotate_left
      · (intro w hSw; (try dsimp only at hSw); go_split_ands; go_simp; try with_reducible rfl)
      try simp only [List.getElem_toArray, List.getElem_cons_succ, List.getElem_cons_zero, Act.put, List.setIfInBounds_toArray, List.set_cons_zero, List.set_cons_succ]
      refine wpAnyH_take (i := 2) (v := ?_) rfl (by kernel_rfl) (by kernel_rfl) (by kernel_rfl) (fun _ _ _ h => h) (Or.inl ⟨by rfl, ?_⟩) (by assumption) ?_;rotate_left
      · (intro w hSw; (try dsimp only at hSw); go_split_ands; go_simp; try with_reducible rfl)
      try simp only [List.getElem_toArray, List.getElem_cons_succ, List.getElem_cons_zero, Act.put, List.setIfInBounds_toArray, List.set_cons_zero, List.set_cons_succ]
      refine wpAnyH_take (i := 3) (v := ?_) rfl (by kernel_rfl) (by kernel_rfl) (by kernel_rfl) (fun _ _ _ h => h) (Or.inl ⟨by rfl, ?_⟩) (by assumption) ?_;rotate_left
      · (intro w hSw; (try dsimp only at hSw); go_split_ands; go_simp; try with_reducible rfl)
      try simp only [List.getElem_toArray, List.getElem_cons_succ, List.getElem_cons_zero, Act.put, List.setIfInBounds_toArray, List.set_cons_zero, List.set_cons_succ]
      refine wpAnyH_take (i := 4) (v := ?_) rfl (by kernel_rfl) (by kernel_rfl) (by kernel_rfl) (fun _ _ _ h => h) (Or.inl ⟨by rfl, ?_⟩) (by assumption) ?_;rotate_left
      · (intro w hSw; (try dsimp only at hSw); go_split_ands; go_simp; try with_reducible rfl)
      try simp only [List.getElem_toArray, List.getElem_cons_succ, List.getElem_cons_zero, Act.put, List.setIfInBounds_toArray, List.set_cons_zero, List.set_cons_succ]
      refine wpAnyH_take (i := 5) (v := ?_) rfl (by kernel_rfl) (by kernel_rfl) (by kernel_rfl) (fun _ _ _ h => h) (Or.inl ⟨by rfl, ?_⟩) (by assumption) ?_;rotate_left
      · (intro w hSw; (try dsimp only at hSw); go_split_ands; go_simp; try with_reducible rfl)
      try simp only [List.getElem_toArray, List.getElem_cons_succ, List.getElem_cons_zero, Act.put, List.setIfInBounds_toArray, List.set_cons_zero, List.set_cons_succ]
      refine wpAnyH_take (i := 6) (v := ?_) rfl (by kernel_rfl) (by kernel_rfl) (by kernel_rfl) (fun _ _ _ h => h) (Or.inl ⟨by rfl, ?_⟩) (by assumption) ?_;rotate_left
      · (intro w hSw; (try dsimp only at hSw); go_split_ands; go_simp; try with_reducible rfl)
      try simp only [List.getElem_toArray, List.getElem_cons_succ, List.getElem_cons_zero, Act.put, List.setIfInBounds_toArray, List.set_cons_zero, List.set_cons_succ]
      refine wpAnyH_take (i := 7) (v := ?_) rfl (by kernel_rfl) (by kernel_rfl) (by kernel_rfl) (fun _ _ _ h => h) (Or.inl ⟨by rfl, ?_⟩) (by assumption) ?_;rotate_left
      · (intro w hSw; (try dsimp only at hSw); go_split_ands; go_simp; try with_reducible rfl)
      try simp only [List.getElem_toArray, List.getElem_cons_succ, List.getElem_cons_zero, Act.put, List.setIfInBounds_toArray, List.set_cons_zero, List.set_cons_succ]
      refine wpAnyH_take (i := 8) (v := ?_) rfl (by kernel_rfl) (by kernel_rfl) (by kernel_rfl) (fun _ _ _ h => h) (Or.inl ⟨by rfl, ?_⟩) (by assumption) ?_;rotate_left
      · (intro w hSw; (try dsimp only at hSw); go_split_ands; go_simp; try with_reducible rfl)
      try simp only [List.getElem_toArray, List.getElem_cons_succ, List.getElem_cons_zero, Act.put, List.setIfInBounds_toArray, List.set_cons_zero, List.set_cons_succ]
      refine wpAnyH_ready (rs := [9]) (by kernel_rfl) (by simp) ?_;refine (AllReadyH.cons rfl (fun K hK => ?_) AllReadyH.nil);refine Kd.R_append_rows_step k41 (w0 := wb.drew) (Rr := k41.K wb.drew) w1.heap.size (by rfl) (.tmp 22) (.tmp 24) 24 41 (.agg #[.int .i64 0, .int .i64 0]) 16 (by rfl) Tryz.underlying24 info41 rfl (by decide) (by decide) (.slice Av (idsOf (ds.take k) x0).length cv) (idsOf (ds.take k) x0) x1 A1 x1.length c1 (fun _ => True) (fun _ => False) (by rfl) (by rfl) (RowS.R HV.out.2.1) (Kd.C_below HX.out.1 (HV.out.2.2.2.1.drew)) ?_ (fun _ h => h.elim) (fun _ _ => trivial) (Below.refl _ _) HSZ.out (by have := HX.out.2.2.2; simp only at this; omega) ?_
      · intro y cs hK;obtain rfl := k41_open hK
        exact k41_mkM _ _ _ y
      intro v5 w5 hR5 hb5 hg5 hat5
      obtain ⟨A5, c5, rfl⟩ := Kd.R_slice hR5
      have hm5 := HV.out.1.map.upd (Upd.of_grown hg5 (S := fun q => w1.heap.size ≤ q) (fun q hq => (HV.out.2.2.2.2.2 q hq).1)) (by have := HMS.out; omega)
      have hlk5 := hm5.lookS (x := x0) (WalkArith.wf_i64 (by have := HX.out.2.1.1; have := HX.out.2.1.2; simp only at *; omega))
      rw [HV.out.2.2.1] at hlk5
      have hbne : ∀ q, (Value.slice Av (idsOf (ds.take k) x0).length cv).ownBlock = some q → q ≠ wr.heap.size := fun q hq => by have := (HV.out.2.2.2.2.2 q hq).2; omega
      refine hK.out _ _ ?_ (fun hHeld => ?_)
      · exact ⟨cellG hg5 (fun e => hbne _ e.symm rfl) hHeld.1, cellG hg5 (fun e => hbne _ e.symm rfl) hHeld.2.1, hlk5⟩
      clear hK K
      try simp only [List.getElem_toArray, List.getElem_cons_succ, List.getElem_cons_zero, Act.put, List.setIfInBounds_toArray, List.set_cons_zero, List.set_cons_succ]
      refine wpAnyH_done (by kernel_rfl) ?_ _;refine lastPost_wp ?_;clear hHeld hvw b0 b1 hm5 hlk5 hbne
      have hP := MG.put HV.out.1 HMS.out ⟨x0, x1⟩ HX.out.2.1.1 HX.out.2.1.2 (RowS.of_R hR5) (by rw [HV.out.2.2.1]; exact hg5) (by rw [HV.out.2.2.1]; exact hat5)
      obtain ⟨w6, hrun, hM6, hU6⟩ := hP
      have HN := Lib.hid (And.intro hM6 hU6)
      simp only at hrun
      clear hR5 hb5 hg5 hat5 hM6 hU6
      generalize idsOf (ds.take k) x0 ++ x1 = Z at *
      go_wp2_with fail
      go_roundw
      case rel => exact ⟨k + 1, _, by go_num, by omega, Lib.hid ⟨by rw [HX.out.2.2.1]; exact HN.out.1, HG.out.2.then_new ((Upd.of_below (HV.out.2.2.2.1.drew) _).trans HN.out.2)⟩⟩
      case measure => simp [intOf]; omega
    · obtain rfl : k = ds.length := by omega
      have hG := HG.out.1
      rw [List.take_length] at hG
      obtain ⟨wk, hwk⟩ : ∃ wk, wr.alloc (.cells #[.map (some w.heap.size)] 95) = wk := ⟨_, rfl⟩
      have hBk : Below wr.heap.size wr wk := hwk ▸ (Below.refl _ _).alloc (Nat.le_refl _) _
      have hTk : Blk wk wr.heap.size 95 #[.map (some w.heap.size)] := hwk ▸ Blk.new wr 95 _
      have hkey : ∀ n x, f n = some x → 0 ≤ n ∧ n ≤ 1000 := fun n x hx => by
        have := hG.has n
        rw [hx] at this
        unfold hasOf at this
        obtain ⟨d, hd, he⟩ := List.any_eq_true.1 this.symm
        have h1 := HSH.out d hd
        have : d.f0 = n := by simpa using he
        omega
      have HKY := Lib.hid (keysIS_any (some w.heap.size) wr)
      have hso := sortedIS_any (hG.map.below hBk) hkey hTk.lt (hTk.cell 0)
      rw [keysF_D hG] at hso
      have HSO := Lib.hid hso
      have HG2 := Lib.hid (And.intro hG (And.intro hBk (And.intro hkey (And.intro hTk.lt HG.out.2))))
      have hwb : Below w.heap.size w wr := HH.out.1.trans ((HO1.out.2.mono (by have := HH.out.2.1; omega)).trans (HG.out.2.below (B := w.heap.size) (by have := HO1.out.2.size; have := HH.out.2.1; omega) (fun q hq e => by omega)))
      have HWB := Lib.hid hwb
      clear hG hBk hTk hkey hso HG hwb
      go_wp2_with fail
      refine HKY.out.mono ?_
      rintro e wq ⟨rfl, rfl⟩
      rw [hwk]
      go_wp2_with fail
      refine HSO.out.mono ?_
      rintro e w8 ⟨v8, rfl, ho8, hb8⟩
      have HO8 := Lib.hid (And.intro ho8 (HG2.out.2.1.trans (hb8.mono (Nat.le_of_lt HG2.out.2.2.2.1))))
      obtain ⟨A8, c8, rfl, hR8⟩ := own_reads ho8
      clear ho8 hb8 hwk
      generalize hK : keysD ds = K at *
      have HK := Lib.hid (And.intro hK hR8)
      clear hK hR8
      go_wp2
      go_loopw [2, 31] (fun so si wt => ∃ (j : Nat) (A' : Option Addr) (c' : Nat), so = .slice A' j c' ∧ si = .int .i64 (j : Int) ∧ j ≤ K.length ∧ RowKit.Hid (Kd.S k26 26 wt w8.heap.size (fun _ => True) (.slice A' j c') ((K.take j).map fun x => (⟨x, setS (idsOf ds x)⟩ : S26)) ∧ Below w8.heap.size w8 wt)) (fun _ si _ => K.length - (intOf si).toNat)
      case atStart => exact ⟨0, none, 0, rfl, rfl, by omega, Lib.hid ⟨by simpa using Kd.S_nil k26 26 w8 w8.heap.size (fun _ => True), Below.refl _ _⟩⟩
      case round =>
        obtain ⟨j, A', c', rfl, rfl, hj, HS⟩ := hrel
        by_cases hlt : j < K.length
        · obtain ⟨ad8, rfl, hcell⟩ := HK.out.2.2.2 (by omega)
          have hck := pw_cell_below HS.out.2 (hcell j hlt)
          have hMt := HG2.out.1.below (HO8.out.2.mono (Nat.le_refl _))
          have hMt := hMt.below (HS.out.2)
          have htk : K.take (j + 1) = K.take j ++ [K[j]] := List.take_succ_eq_append_getElem hlt
          have hmem : K[j] ∈ keysD ds := by rw [HK.out.1]; exact List.getElem_mem hlt
          have hx01 : 0 ≤ K[j] ∧ K[j] ≤ 1000 := by
            unfold keysD at hmem
            obtain ⟨n, hn, he⟩ := List.mem_map.1 hmem
            have := List.mem_range.1 (List.mem_filter.1 hn).1
            omega
          rw [show K.getD j 0 = K[j] by rw [List.getD_eq_getElem?_getD, List.getElem?_eq_getElem hlt]; rfl] at hck
          generalize K[j] = x at *
          have hlk := hMt.map.lookS (x := x) (WalkArith.wf_i64 (by omega))
          have hv := hMt.at_ x
          obtain ⟨Av, cv, hve⟩ := own_slice hv
          rw [hve] at hv hlk
          obtain ⟨_, _, e3, _, hCv⟩ := Kd.R_reads (RowS.R hv)
          injection e3 with e3 _ e4
          subst e3 e4
          have hil := idsOf_take_le ds ds.length x
          rw [List.take_length] at hil
          have HMK := Lib.hid (make_any x Av cv (idsOf ds x) wr hCv (by have := HI.out; omega))
          have hlv : ∀ q, (Value.slice A' j c').ownBlock = some q → q < wr.heap.size := Kd.S_lt HS.out.1
          have HX2 := Lib.hid (And.intro htk (And.intro hx01 hlv))
          have HWT := Lib.hid (show Below w.heap.size w wr from HWB.out.trans ((HO8.out.2.mono HWB.out.size).trans (HS.out.2.mono (Nat.le_trans HWB.out.size HO8.out.2.size))))
          have HKC := Lib.hid (cardF_le f)
          have hKl : K.length ≤ 1001 := by
            rw [← HK.out.1]; unfold keysD
            rw [List.length_map]
            exact Nat.le_trans (List.length_filter_le _ _) (by simp)
          have HKL := Lib.hid hKl
          clear hcell hMt htk hmem hx01 hv hve hCv hil hlv hKl
          generalize hid : idsOf ds x = ids at *
          have HID := Lib.hid hid
          clear hid
          go_wp2_with fail
          refine HMK.out.mono ?_
          rintro e wm ⟨w2, v2, rfl, rfl, ho2, hb2⟩
          have HO2 := Lib.hid (And.intro ho2 hb2)
          obtain ⟨A5, c5, rfl⟩ := own_slice ho2
          clear ho2 hb2
          go_wp2_with (first | ((with_reducible refine gate_builtin (b := .append) (xs := #[.tmp 35, .tmp 40]) rfl ?_); at_builtin; refine stop_append rfl ?_))
          refine Lib.hid ?_;refine Kd.S_append k26 (w0 := w8) w8.heap.size rfl (.tmp 35) (.tmp 40) 22 26 (.agg #[.int .i64 0, .slice none 0 0]) 32 rfl Tryz.underlying22 infoD rfl (by decide) (by decide) (.slice A' j c') ((K.take j).map fun x => (⟨x, setS (idsOf ds x)⟩ : S26)) ⟨x, setS ids⟩ [.int .i64 x, .slice A5 (setS ids).length c5] (fun _ => True) (fun q => wr.heap.size ≤ q) rfl rfl ?_ ?_ (fun _ _ => trivial) ?_ (HS.out.2.trans (HO2.out.2.mono HS.out.2.size)) (Nat.le_trans HS.out.2.size HO2.out.2.size) ?_ ?_
          · exact k26_mkM _ _ _ _ (Kd.R_lower (Kd.R_mono (Kd.R_bound (RowS.R HO2.out.1)) (fun q hq => hq.2.1)) HS.out.2.size)
          · intro q hq
            exact ⟨trivial, fun e => by have := HX2.out.2.2 q e.symm; omega⟩
          · exact Kd.S_below (Kd.S_mono (Kd.S_bound HS.out.1) (fun q hq => ⟨trivial, by have := hq.2.2.1; omega⟩)) HO2.out.2
          · have := HKL.out
            simp
            omega
          intro v4 w4 hS4 hB4 _ _
          rw [← HID.out, show ((K.take j).map fun x => (⟨x, setS (idsOf ds x)⟩ : S26)) ++ [⟨x, setS (idsOf ds x)⟩] = (K.take (j + 1)).map fun x => (⟨x, setS (idsOf ds x)⟩ : S26) by rw [HX2.out.1]; simp] at hS4
          have HN := Lib.hid (And.intro hS4 hB4)
          obtain ⟨A4, c4, e4⟩ := Kd.S_slice hS4
          have hln : ((K.take (j + 1)).map fun x => (⟨x, setS (idsOf ds x)⟩ : S26)).length = j + 1 := by simp; omega
          rw [hln] at e4
          subst e4;clear hS4 hB4 hln;have hKl := HKL.out
          go_wp2_with fail
          go_roundw
          case rel => exact ⟨j + 1, A4, c4, rfl, by go_num, by omega, HN⟩
          case measure => simp [intOf]; omega
        · obtain rfl : j = K.length := by omega
          go_wp2
          go_ret
          refine ⟨_, rfl, ?_, HWB.out.trans ((HO8.out.2.mono HWB.out.size).trans (HS.out.2.mono (Nat.le_trans HWB.out.size HO8.out.2.size)))⟩
          have := Kd.S_lower HS.out.1 (Nat.le_trans HWB.out.size HO8.out.2.size)
          rw [List.take_length] at this
          unfold mergeD
          rw [HK.out.1]
          exact this
end Go.Proofs.YtaedlmeaconflaaGreat.P
end
section
set_option linter.unusedVariables false
set_option linter.unusedSimpArgs false
namespace Go.Proofs.YtaedlmeaconflaaGreat.P
open Go.RowKit Go.Sort Go.Shelf Go.Proofs.YtaedlmeaconflaaGreatW.PrintWords Go.Proofs.YtaedlmeaconflaaGreatW.PrintLast Go.Proofs.YtaedlmeaconflaaGreatW.PrintMore
theorem cmpS_lt (x y : S41) : cmpS x y < 0 ↔ x.f0 < y.f0 ∨ x.f0 = y.f0 ∧ x.f1 < y.f1 := by
  have := ltOf_cmpS x y
  simpa [ltOf] using this
theorem cmpS_tot (x y : S41) : cmpS x y < 0 ∨ x = y ∨ cmpS y x < 0 := by
  rw [cmpS_lt, cmpS_lt, S_ext]; omega
theorem cmpS_irr (x : S41) : ¬ cmpS x x < 0 := by rw [cmpS_lt]; omega
theorem cmpS_tr {x y z : S41} (h : cmpS x y < 0) (k : cmpS y z < 0) : cmpS x z < 0 := by rw [cmpS_lt] at *; omega
theorem cmpS_as {x y : S41} (h : cmpS x y < 0) : ¬ cmpS y x < 0 := by rw [cmpS_lt] at *; omega
def Asc (l : List S41) : Prop := l.Pairwise fun x y => cmpS x y < 0
instance (l : List S41) : Decidable (Asc l) := inferInstanceAs (Decidable (l.Pairwise fun x y => cmpS x y < 0))
theorem rise_ext {α : Type} {R : α → α → Prop} (hirr : ∀ x, ¬ R x x) (has : ∀ {x y}, R x y → ¬ R y x) : ∀ {a b : List α}, a.Pairwise R → b.Pairwise R → (∀ x, x ∈ a ↔ x ∈ b) → a = b
  | [], [], _, _, _ => rfl
  | [], y :: b, _, _, h => absurd ((h y).2 (List.mem_cons_self ..)) (by simp)
  | x :: a, [], _, _, h => absurd ((h x).1 (List.mem_cons_self ..)) (by simp)
  | x :: a, y :: b, ha, hb, h => by
    have ha' := List.pairwise_cons.1 ha
    have hb' := List.pairwise_cons.1 hb
    have e : x = y := by
      rcases List.mem_cons.1 ((h x).1 (List.mem_cons_self ..)) with e | hx
      · exact e
      · rcases List.mem_cons.1 ((h y).2 (List.mem_cons_self ..)) with e | hy
        · exact e.symm
        · exact absurd (hb'.1 x hx) (has (ha'.1 y hy))
    subst e
    rw [rise_ext hirr has ha'.2 hb'.2 (fun z => ?_)]
    have hz := h z
    rw [List.mem_cons, List.mem_cons] at hz
    constructor
    · intro hm
      rcases hz.1 (.inr hm) with e | k
      · rw [e] at hm; exact absurd (ha'.1 x hm) (hirr x)
      · exact k
    · intro hm
      rcases hz.2 (.inr hm) with e | k
      · rw [e] at hm; exact absurd (hb'.1 x hm) (hirr x)
      · exact k
theorem asc_ext {a b : List S41} (ha : Asc a) (hb : Asc b) (h : ∀ x, x ∈ a ↔ x ∈ b) : a = b := rise_ext (R := fun x y => cmpS x y < 0) cmpS_irr cmpS_as ha hb h
theorem sortS_mem (xs : List S41) (x : S41) : x ∈ sortS xs ↔ x ∈ xs := (List.mergeSort_perm xs _).mem_iff
theorem sortS_le (xs : List S41) : (sortS xs).Pairwise fun x y => x = y ∨ cmpS x y < 0 := by
  have h := List.pairwise_mergeSort (le := fun x y => !(ltOf cmpS) y x) (by
    intro a b c h1 h2
    simp only [Bool.not_eq_true'] at *
    rw [ltOf_cmpS_f] at *; omega) (by
    intro a b;simp only [Bool.or_eq_true, Bool.not_eq_true']
    rw [ltOf_cmpS_f, ltOf_cmpS_f]; omega) xs
  refine h.imp fun {a b} hab => ?_
  simp only [Bool.not_eq_true'] at hab
  rw [ltOf_cmpS_f] at hab
  rcases cmpS_tot a b with k | k | k
  · exact .inr k
  · exact .inl k
  · rw [cmpS_lt] at k; exact absurd k hab
theorem cmpc_of {xs : List S41} (hp : xs.Pairwise fun x y => x = y ∨ cmpS x y < 0) : ∀ n, n ≤ xs.length → Asc (cmpc xs n) ∧ ∀ x, x ∈ cmpc xs n ↔ x ∈ xs.take n
  | 0, _ => ⟨List.Pairwise.nil, fun x => by simp [cmpc]⟩
  | n + 1, hn => by
    have hlt : n < xs.length := hn
    obtain ⟨h1, h2⟩ := cmpc_of hp n (Nat.le_of_lt hlt)
    have hg := List.pairwise_iff_getElem.1 hp
    rw [cmpc]
    have ht : ∀ x, x ∈ xs.take (n + 1) ↔ x ∈ xs.take n ∨ x = xs[n] := fun x => by
      rw [List.take_succ_eq_append_getElem hlt, List.mem_append, List.mem_singleton]
    by_cases hc : n = 0 ∨ xs[n]? ≠ xs[n - 1]?
    · rw [if_pos hc, List.getElem?_eq_getElem hlt]
      simp only [Option.toList_some]
      refine ⟨List.pairwise_append.2 ⟨h1, List.pairwise_singleton _ _, fun y hy z hz => ?_⟩, fun x => by rw [List.mem_append, h2, ht, List.mem_singleton]⟩
      rw [List.mem_singleton.1 hz]
      obtain ⟨i, hi, rfl⟩ := List.mem_take_iff_getElem.1 ((h2 y).1 hy)
      have hin : i < n := by omega
      rcases hc with hc | hc
      · omega
      · have hne : xs[n] ≠ xs[n - 1]'(by omega) := fun e => hc (by rw [List.getElem?_eq_getElem hlt, List.getElem?_eq_getElem (show n - 1 < xs.length by omega), e])
        have hl : cmpS (xs[n - 1]'(by omega)) xs[n] < 0 := by
          rcases hg (n - 1) n (by omega) hlt (by omega) with e | k
          · exact absurd e.symm hne
          · exact k
        rcases Nat.lt_or_ge i (n - 1) with h | h
        · rcases hg i (n - 1) (by omega) (by omega) h with e | k
          · rw [e]; exact hl
          · exact cmpS_tr k hl
        · obtain rfl : i = n - 1 := by omega
          exact hl
    · rw [if_neg hc, List.append_nil]
      refine ⟨h1, fun x => ?_⟩
      rw [h2, ht]
      constructor
      · exact .inl
      · rintro (h | rfl)
        · exact h
        · have h0 : n ≠ 0 := fun e => hc (.inl e)
          have he : xs[n]? = xs[n - 1]? := by
            rcases Classical.em (xs[n]? = xs[n - 1]?) with h | h
            · exact h
            · exact absurd (.inr h) hc
          rw [List.getElem?_eq_getElem hlt, List.getElem?_eq_getElem (show n - 1 < xs.length by omega)] at he
          injection he with he
          rw [he]
          exact List.mem_take_iff_getElem.2 ⟨n - 1, by omega, rfl⟩
theorem setS_asc (xs : List S41) : Asc (setS xs) := (cmpc_of (sortS_le xs) _ (Nat.le_refl _)).1
theorem setS_mem (xs : List S41) (x : S41) : x ∈ setS xs ↔ x ∈ xs := by
  have := (cmpc_of (sortS_le xs) _ (Nat.le_refl _)).2 x
  rw [List.take_length, sortS_mem] at this
  exact this
theorem setS_self {xs : List S41} (h : Asc xs) : setS xs = xs := asc_ext (setS_asc xs) h (setS_mem xs)
theorem Asc.filter {xs : List S41} (h : Asc xs) (p : S41 → Bool) : Asc (xs.filter p) := List.Pairwise.filter _ h
structure DpOk (d : List S26) : Prop where
  shards : d.Pairwise fun x y => x.f0 < y.f0
  low : ∀ x ∈ d, 0 ≤ x.f0 ∧ x.f0 < 8
  asc : ∀ x ∈ d, Asc x.f1
theorem D_eq {a b : S26} (h0 : a.f0 = b.f0) (h1 : a.f1 = b.f1) : a = b := D_ext.2 ⟨h0, h1⟩
theorem hasOf_iff (ds : List S26) (x : Int) : hasOf ds x = true ↔ ∃ d ∈ ds, d.f0 = x := by unfold hasOf; simp
theorem mem_keysD (ds : List S26) (hb : ∀ d ∈ ds, 0 ≤ d.f0 ∧ d.f0 ≤ 1000) (x : Int) : x ∈ keysD ds ↔ ∃ d ∈ ds, d.f0 = x := by
  rw [← hasOf_iff]
  unfold keysD
  simp only [List.mem_map, List.mem_filter, List.mem_range];constructor
  · rintro ⟨n, ⟨_, h⟩, rfl⟩; exact h
  · intro h
    obtain ⟨d, hd, rfl⟩ := (hasOf_iff _ _).1 h
    have := hb d hd
    exact ⟨d.f0.toNat, ⟨by omega, by rw [show ((d.f0.toNat : Nat) : Int) = d.f0 by omega]; exact h⟩, by omega⟩
theorem keysD_rise (ds : List S26) : (keysD ds).Pairwise fun x y => x < y := by
  unfold keysD
  rw [List.pairwise_map]
  exact (List.pairwise_lt_range (n := 1001)).filter _ |>.imp fun {a b} h => by omega
theorem mergeD_mem (ds : List S26) (hb : ∀ d ∈ ds, 0 ≤ d.f0 ∧ d.f0 ≤ 1000) (e : S26) : e ∈ mergeD ds ↔ (∃ d ∈ ds, d.f0 = e.f0) ∧ e.f1 = setS (idsOf ds e.f0) := by
  unfold mergeD
  simp only [List.mem_map, mem_keysD ds hb];constructor
  · rintro ⟨x, h, rfl⟩; exact ⟨h, rfl⟩
  · rintro ⟨h, h1⟩; exact ⟨e.f0, h, D_eq rfl h1.symm⟩
theorem mergeD_rise (ds : List S26) : (mergeD ds).Pairwise fun x y => x.f0 < y.f0 := by
  unfold mergeD
  rw [List.pairwise_map]
  exact keysD_rise ds
theorem rise_extD {a b : List S26} (ha : a.Pairwise fun x y => x.f0 < y.f0) (hb : b.Pairwise fun x y => x.f0 < y.f0) (h : ∀ x, x ∈ a ↔ x ∈ b) : a = b := rise_ext (R := fun x y : S26 => x.f0 < y.f0) (fun x => by omega) (fun {x y} h => by omega) ha hb h
end Go.Proofs.YtaedlmeaconflaaGreat.P
end
section
set_option linter.unusedVariables false
set_option linter.unusedSimpArgs false
namespace Go.Proofs.YtaedlmeaconflaaGreat.P
def Ev {α : Type} (F : Nat → Option α) (r : α) : Prop := ∃ K, ∀ k, K ≤ k → F k = some r
section
variable {α β : Type}
theorem Ev.of (F : Nat → Option α) {r : α} (h : ∀ k, F k = some r) : Ev F r := ⟨0, fun k _ => h k⟩
theorem Ev.some (r : α) : Ev (fun _ => Option.some r) r := ⟨0, fun _ _ => rfl⟩
theorem Ev.succ {F : Nat → Option α} {r : α} (h : Ev (fun k => F (k + 1)) r) : Ev F r := by
  obtain ⟨K, h⟩ := h
  refine ⟨K + 1, fun k hk => ?_⟩
  obtain ⟨j, rfl⟩ : ∃ j, k = j + 1 := ⟨k - 1, by omega⟩
  exact h j (by omega)
theorem Ev.bind {F : Nat → Option α} {G : Nat → α → Option β} {r : α} {s : β} (h : Ev F r) (g : Ev (fun k => G k r) s) : Ev (fun k => (F k).bind (G k)) s := by
  obtain ⟨K, h⟩ := h
  obtain ⟨L, g⟩ := g
  refine ⟨max K L, fun k hk => ?_⟩
  show (F k).bind (G k) = _
  rw [h k (by omega)]
  exact g k (by omega)
theorem Ev.bind1 {x : Option α} {G : Nat → α → Option β} {r : α} {s : β} (h : x = Option.some r) (g : Ev (fun k => G k r) s) : Ev (fun k => x.bind (G k)) s := by
  subst h; exact g
theorem Ev.cond {c : Prop} [Decidable c] {F G : Nat → Option α} {r : α} (h1 : c → Ev F r) (h2 : ¬ c → Ev G r) : Ev (fun k => if c then F k else G k) r := by
  by_cases h : c
  · simp only [if_pos h]; exact h1 h
  · simp only [if_neg h]; exact h2 h
theorem Ev.yes {c : Prop} [Decidable c] {F G : Nat → Option α} {r : α} (h : c) (h1 : Ev F r) : Ev (fun k => if c then F k else G k) r := Ev.cond (fun _ => h1) (fun n => absurd h n)
theorem Ev.no {c : Prop} [Decidable c] {F G : Nat → Option α} {r : α} (h : ¬ c) (h1 : Ev G r) : Ev (fun k => if c then F k else G k) r := Ev.cond (fun y => absurd y h) (fun _ => h1)
theorem Ev.get {F : Nat → Option α} {r : α} (h : Ev F r) : ∃ k, F k = Option.some r := by obtain ⟨K, h⟩ := h; exact ⟨K, h K (Nat.le_refl _)⟩
theorem Ev.eq {F : Nat → Option α} {r s : α} (h : Ev F r) (e : r = s) : Ev F s := e ▸ h
end
theorem w64_succ {n : Nat} (h : n < 9223372036854775807) : Go.RowKit.wrap64 ((n : Int) + 1) = ((n + 1 : Nat) : Int) := by unfold Go.RowKit.wrap64; omega
theorem w64_of {x : Int} (h0 : -9223372036854775808 ≤ x) (h1 : x < 9223372036854775808) : Go.RowKit.wrap64 x = x := by unfold Go.RowKit.wrap64; omega
end Go.Proofs.YtaedlmeaconflaaGreat.P
end
section
set_option linter.unusedVariables false
set_option linter.unusedSimpArgs false
namespace Go.Proofs.YtaedlmeaconflaaGreat.P
open Go.RowKit Go.Proofs.YtaedlmeaconflaaGreatW.PrintWords Go.Proofs.YtaedlmeaconflaaGreatW.PrintLast Go.Proofs.YtaedlmeaconflaaGreatW.PrintMore
attribute [local go_sem] max2_int min2_int max_two min_two max_three min_three max_four min_four   -- for this text's walks alone
set_option linter.unusedVariables false
set_option linter.unusedSimpArgs false
def folkmootref01_Less.f (a0_0 : Int) (a0_1 : Int) (a1_0 : Int) (a1_1 : Int) : Option (Bool) := if a0_0 < a1_0 then (some true) else (if a0_0 = a1_0 then (some (decide (a0_1 < a1_1))) else (some false))
set_option maxHeartbeats 8000000 in
set_option maxRecDepth 100000 in
theorem folkmootref01_Less.calls (a0_0 : Int) (a0_1 : Int) (a1_0 : Int) (a1_1 : Int) (r : Bool) (w : World) (h : folkmootref01_Less.f a0_0 a0_1 a1_0 a1_1 = some r) :
  Calls Tryz.prog 57 #[.agg #[.int .i64 a0_0, .int .i64 a0_1], .agg #[.int .i64 a1_0, .int .i64 a1_1]] w fun e w' => e = .returned (.bool r) ∧ Below w.heap.size w w' := by
 have hu41 := Tryz.underlying41
 have HB := Aside0.mk (Below.refl w.heap.size w)
 have H : (if a0_0 < a1_0 then (some true) else (if a0_0 = a1_0 then (some (decide (a0_1 < a1_1))) else (some false))) = some r := h
 clear h
 by_cases c3 : a0_0 < a1_0
 ·rw [if_pos c3] at H
  have c3b0 : decide (a0_0 < a1_0) = true := decide_eq_true c3
  clear c3;obtain rfl := Option.some.inj H
  go_enter Tryz.func57, Tryz.ntmps57
  go_wp2_with (first | ((with_reducible refine gate_dst (N := 2) rfl ?_); refine box_event ?hg (N := 2) ?hd (cs := #[.int .i64 a0_0, .int .i64 a0_1]) (t := 41) ?hr ?_; (case hd => rfl); (case hg => rfl); (case hr => first | (go_simp; done) | (go_simp; rfl)); intro gb125 hg w4 hbox hb; have n0_ := Aside0.mk (below_step (by repeat (first | (with_reducible first | exact HB.out | apply below_alloc | apply pw_below_drewN | apply below_drew1) | exact HB.out)) hb); have n1_ := Aside0.mk (hbox); have n2_ := Aside0.mk ((by rw [hg]; exact (below_size (by repeat (first | (with_reducible first | exact HB.out | apply below_alloc | apply pw_below_drewN | apply below_drew1) | exact HB.out))) : w.heap.size ≤ gb125)); have n3_ := Aside0.mk ((by rw [hg]; exact (below_size (by repeat (first | (with_reducible first | exact HB.out | apply below_alloc | apply pw_below_drewN | apply below_drew1) | exact HB.out))) : w.heap.size ≤ gb125)); clear HB; have HB := n0_; have BK125 := n1_; have GW125 := n2_; have GE125 := n3_; clear n0_ n1_ n2_ n3_; clear hb hbox hg) | ((with_reducible refine gate_dst (N := 3) rfl ?_); refine box_event ?hg (N := 3) ?hd (cs := #[.int .i64 a1_0, .int .i64 a1_1]) (t := 41) ?hr ?_; (case hd => rfl); (case hg => rfl); (case hr => first | (go_simp; done) | (go_simp; rfl)); intro gb126 hg w5 hbox hb; have n0_ := Aside0.mk (blk_below (g := gb125) (o := .cells #[.int .i64 a0_0, .int .i64 a0_1] 41 (0, 0)) (by (with_reducible repeat (first | refine blk_drewN ?_ _ | refine blk_drew ?_ | refine blk_alloc ?_ _)); exact BK125.out) hb); have n1_ := Aside0.mk (below_step (by repeat (first | (with_reducible first | exact HB.out | apply below_alloc | apply pw_below_drewN | apply below_drew1 | refine below_set ?_ GE125.out) | exact HB.out)) hb); have n2_ := Aside0.mk (hbox); have n3_ := Aside0.mk ((by rw [hg]; exact (below_size (by repeat (first | (with_reducible first | exact HB.out | apply below_alloc | apply pw_below_drewN | apply below_drew1 | refine below_set ?_ GE125.out) | exact HB.out))) : w.heap.size ≤ gb126)); have n4_ := Aside0.mk ((by rw [hg]; exact (below_size (by repeat (first | (with_reducible first | exact HB.out | apply below_alloc | apply pw_below_drewN | apply below_drew1 | refine below_set ?_ GE125.out) | exact HB.out))) : w.heap.size ≤ gb126)); have n5_ := Aside0.mk ((by rw [hg]; exact Nat.ne_of_lt (blk_lt (g := gb125) (o := .cells #[.int .i64 a0_0, .int .i64 a0_1] 41 (0, 0)) (by (with_reducible repeat (first | refine blk_drewN ?_ _ | refine blk_drew ?_ | refine blk_alloc ?_ _)); exact BK125.out)) : gb125 ≠ gb126)); have n6_ := Aside0.mk ((by rw [hg]; exact Nat.ne_of_gt (blk_lt (g := gb125) (o := .cells #[.int .i64 a0_0, .int .i64 a0_1] 41 (0, 0)) (by (with_reducible repeat (first | refine blk_drewN ?_ _ | refine blk_drew ?_ | refine blk_alloc ?_ _)); exact BK125.out)) : gb126 ≠ gb125)); clear BK125; clear HB; have BK125 := n0_; have HB := n1_; have BK126 := n2_; have GW126 := n3_; have GE126 := n4_; have NB125_126 := n5_; have NB126_125 := n6_; clear n0_ n1_ n2_ n3_ n4_ n5_ n6_; clear hb hbox hg; have hnb6 := NB125_126.out; have hnc6 := NB126_125.out; have hcz7_0 : w5.cell? ⟨gb125, 0, none⟩ = some (.int .i64 a0_0) := (blk_cell BK125.out 0).trans rfl; have hcz7_1 : w5.cell? ⟨gb125, 1, none⟩ = some (.int .i64 a0_1) := (blk_cell BK125.out 1).trans rfl; have hfz7_0 := blk_frozen BK125.out 0; have hfz7_1 := blk_frozen BK125.out 1; have hcz8_0 : w5.cell? ⟨gb126, 0, none⟩ = some (.int .i64 a1_0) := (blk_cell BK126.out 0).trans rfl; have hcz8_1 : w5.cell? ⟨gb126, 1, none⟩ = some (.int .i64 a1_1) := (blk_cell BK126.out 1).trans rfl; have hfz8_0 := blk_frozen BK126.out 0; have hfz8_1 := blk_frozen BK126.out 1))
  go_ret
  exact ⟨by first | rfl | (simp [errW_none, errW_some] <;> rfl) | (simp [*, errW_none, errW_some] <;> rfl), by repeat (first | (with_reducible first | exact HB.out | apply below_alloc | apply pw_below_drewN | apply below_drew1 | refine below_set ?_ GE125.out | refine below_set ?_ GE126.out) | exact HB.out)⟩
 ·rw [if_neg c3] at H
  have c3b0 : decide (a0_0 < a1_0) = false := decide_eq_false c3
  clear c3
  by_cases c9 : a0_0 = a1_0
  ·rw [if_pos c9] at H
   have c9b0 : (a0_0 == a1_0) = true := beq_iff_eq.mpr c9
   have c9b1 : (a0_0 != a1_0) = false := bne_eq_false_iff_eq.mpr c9
   clear c9;obtain rfl := Option.some.inj H
   go_enter Tryz.func57, Tryz.ntmps57
   go_wp2_with (first | ((with_reducible refine gate_dst (N := 2) rfl ?_); refine box_event ?hg (N := 2) ?hd (cs := #[.int .i64 a0_0, .int .i64 a0_1]) (t := 41) ?hr ?_; (case hd => rfl); (case hg => rfl); (case hr => first | (go_simp; done) | (go_simp; rfl)); intro gb125 hg w10 hbox hb; have n0_ := Aside0.mk (below_step (by repeat (first | (with_reducible first | exact HB.out | apply below_alloc | apply pw_below_drewN | apply below_drew1) | exact HB.out)) hb); have n1_ := Aside0.mk (hbox); have n2_ := Aside0.mk ((by rw [hg]; exact (below_size (by repeat (first | (with_reducible first | exact HB.out | apply below_alloc | apply pw_below_drewN | apply below_drew1) | exact HB.out))) : w.heap.size ≤ gb125)); have n3_ := Aside0.mk ((by rw [hg]; exact (below_size (by repeat (first | (with_reducible first | exact HB.out | apply below_alloc | apply pw_below_drewN | apply below_drew1) | exact HB.out))) : w.heap.size ≤ gb125)); clear HB; have HB := n0_; have BK125 := n1_; have GW125 := n2_; have GE125 := n3_; clear n0_ n1_ n2_ n3_; clear hb hbox hg) | ((with_reducible refine gate_dst (N := 3) rfl ?_); refine box_event ?hg (N := 3) ?hd (cs := #[.int .i64 a1_0, .int .i64 a1_1]) (t := 41) ?hr ?_; (case hd => rfl); (case hg => rfl); (case hr => first | (go_simp; done) | (go_simp; rfl)); intro gb126 hg w11 hbox hb; have n0_ := Aside0.mk (blk_below (g := gb125) (o := .cells #[.int .i64 a0_0, .int .i64 a0_1] 41 (0, 0)) (by (with_reducible repeat (first | refine blk_drewN ?_ _ | refine blk_drew ?_ | refine blk_alloc ?_ _)); exact BK125.out) hb); have n1_ := Aside0.mk (below_step (by repeat (first | (with_reducible first | exact HB.out | apply below_alloc | apply pw_below_drewN | apply below_drew1 | refine below_set ?_ GE125.out) | exact HB.out)) hb); have n2_ := Aside0.mk (hbox); have n3_ := Aside0.mk ((by rw [hg]; exact (below_size (by repeat (first | (with_reducible first | exact HB.out | apply below_alloc | apply pw_below_drewN | apply below_drew1 | refine below_set ?_ GE125.out) | exact HB.out))) : w.heap.size ≤ gb126)); have n4_ := Aside0.mk ((by rw [hg]; exact (below_size (by repeat (first | (with_reducible first | exact HB.out | apply below_alloc | apply pw_below_drewN | apply below_drew1 | refine below_set ?_ GE125.out) | exact HB.out))) : w.heap.size ≤ gb126)); have n5_ := Aside0.mk ((by rw [hg]; exact Nat.ne_of_lt (blk_lt (g := gb125) (o := .cells #[.int .i64 a0_0, .int .i64 a0_1] 41 (0, 0)) (by (with_reducible repeat (first | refine blk_drewN ?_ _ | refine blk_drew ?_ | refine blk_alloc ?_ _)); exact BK125.out)) : gb125 ≠ gb126)); have n6_ := Aside0.mk ((by rw [hg]; exact Nat.ne_of_gt (blk_lt (g := gb125) (o := .cells #[.int .i64 a0_0, .int .i64 a0_1] 41 (0, 0)) (by (with_reducible repeat (first | refine blk_drewN ?_ _ | refine blk_drew ?_ | refine blk_alloc ?_ _)); exact BK125.out)) : gb126 ≠ gb125)); clear BK125; clear HB; have BK125 := n0_; have HB := n1_; have BK126 := n2_; have GW126 := n3_; have GE126 := n4_; have NB125_126 := n5_; have NB126_125 := n6_; clear n0_ n1_ n2_ n3_ n4_ n5_ n6_; clear hb hbox hg; have hnb12 := NB125_126.out; have hnc12 := NB126_125.out; have hcz13_0 : w11.cell? ⟨gb125, 0, none⟩ = some (.int .i64 a0_0) := (blk_cell BK125.out 0).trans rfl; have hcz13_1 : w11.cell? ⟨gb125, 1, none⟩ = some (.int .i64 a0_1) := (blk_cell BK125.out 1).trans rfl; have hfz13_0 := blk_frozen BK125.out 0; have hfz13_1 := blk_frozen BK125.out 1; have hcz14_0 : w11.cell? ⟨gb126, 0, none⟩ = some (.int .i64 a1_0) := (blk_cell BK126.out 0).trans rfl; have hcz14_1 : w11.cell? ⟨gb126, 1, none⟩ = some (.int .i64 a1_1) := (blk_cell BK126.out 1).trans rfl; have hfz14_0 := blk_frozen BK126.out 0; have hfz14_1 := blk_frozen BK126.out 1))
   go_ret
   exact ⟨by first | rfl | (simp [errW_none, errW_some] <;> rfl) | (simp [*, errW_none, errW_some] <;> rfl), by repeat (first | (with_reducible first | exact HB.out | apply below_alloc | apply pw_below_drewN | apply below_drew1 | refine below_set ?_ GE125.out | refine below_set ?_ GE126.out) | exact HB.out)⟩
  ·rw [if_neg c9] at H
   have c9b0 : (a0_0 == a1_0) = false := beq_eq_false_iff_ne.mpr c9
   have c9b1 : (a0_0 != a1_0) = true := bne_iff_ne.mpr c9
   obtain rfl := Option.some.inj H
   go_enter Tryz.func57, Tryz.ntmps57
   go_wp2_with (first | ((with_reducible refine gate_dst (N := 2) rfl ?_); refine box_event ?hg (N := 2) ?hd (cs := #[.int .i64 a0_0, .int .i64 a0_1]) (t := 41) ?hr ?_; (case hd => rfl); (case hg => rfl); (case hr => first | (go_simp; done) | (go_simp; rfl)); intro gb125 hg w15 hbox hb; have n0_ := Aside0.mk (below_step (by repeat (first | (with_reducible first | exact HB.out | apply below_alloc | apply pw_below_drewN | apply below_drew1) | exact HB.out)) hb); have n1_ := Aside0.mk (hbox); have n2_ := Aside0.mk ((by rw [hg]; exact (below_size (by repeat (first | (with_reducible first | exact HB.out | apply below_alloc | apply pw_below_drewN | apply below_drew1) | exact HB.out))) : w.heap.size ≤ gb125)); have n3_ := Aside0.mk ((by rw [hg]; exact (below_size (by repeat (first | (with_reducible first | exact HB.out | apply below_alloc | apply pw_below_drewN | apply below_drew1) | exact HB.out))) : w.heap.size ≤ gb125)); clear HB; have HB := n0_; have BK125 := n1_; have GW125 := n2_; have GE125 := n3_; clear n0_ n1_ n2_ n3_; clear hb hbox hg) | ((with_reducible refine gate_dst (N := 3) rfl ?_); refine box_event ?hg (N := 3) ?hd (cs := #[.int .i64 a1_0, .int .i64 a1_1]) (t := 41) ?hr ?_; (case hd => rfl); (case hg => rfl); (case hr => first | (go_simp; done) | (go_simp; rfl)); intro gb126 hg w16 hbox hb; have n0_ := Aside0.mk (blk_below (g := gb125) (o := .cells #[.int .i64 a0_0, .int .i64 a0_1] 41 (0, 0)) (by (with_reducible repeat (first | refine blk_drewN ?_ _ | refine blk_drew ?_ | refine blk_alloc ?_ _)); exact BK125.out) hb); have n1_ := Aside0.mk (below_step (by repeat (first | (with_reducible first | exact HB.out | apply below_alloc | apply pw_below_drewN | apply below_drew1 | refine below_set ?_ GE125.out) | exact HB.out)) hb); have n2_ := Aside0.mk (hbox); have n3_ := Aside0.mk ((by rw [hg]; exact (below_size (by repeat (first | (with_reducible first | exact HB.out | apply below_alloc | apply pw_below_drewN | apply below_drew1 | refine below_set ?_ GE125.out) | exact HB.out))) : w.heap.size ≤ gb126)); have n4_ := Aside0.mk ((by rw [hg]; exact (below_size (by repeat (first | (with_reducible first | exact HB.out | apply below_alloc | apply pw_below_drewN | apply below_drew1 | refine below_set ?_ GE125.out) | exact HB.out))) : w.heap.size ≤ gb126)); have n5_ := Aside0.mk ((by rw [hg]; exact Nat.ne_of_lt (blk_lt (g := gb125) (o := .cells #[.int .i64 a0_0, .int .i64 a0_1] 41 (0, 0)) (by (with_reducible repeat (first | refine blk_drewN ?_ _ | refine blk_drew ?_ | refine blk_alloc ?_ _)); exact BK125.out)) : gb125 ≠ gb126)); have n6_ := Aside0.mk ((by rw [hg]; exact Nat.ne_of_gt (blk_lt (g := gb125) (o := .cells #[.int .i64 a0_0, .int .i64 a0_1] 41 (0, 0)) (by (with_reducible repeat (first | refine blk_drewN ?_ _ | refine blk_drew ?_ | refine blk_alloc ?_ _)); exact BK125.out)) : gb126 ≠ gb125)); clear BK125; clear HB; have BK125 := n0_; have HB := n1_; have BK126 := n2_; have GW126 := n3_; have GE126 := n4_; have NB125_126 := n5_; have NB126_125 := n6_; clear n0_ n1_ n2_ n3_ n4_ n5_ n6_; clear hb hbox hg; have hnb17 := NB125_126.out; have hnc17 := NB126_125.out; have hcz18_0 : w16.cell? ⟨gb125, 0, none⟩ = some (.int .i64 a0_0) := (blk_cell BK125.out 0).trans rfl; have hcz18_1 : w16.cell? ⟨gb125, 1, none⟩ = some (.int .i64 a0_1) := (blk_cell BK125.out 1).trans rfl; have hfz18_0 := blk_frozen BK125.out 0; have hfz18_1 := blk_frozen BK125.out 1; have hcz19_0 : w16.cell? ⟨gb126, 0, none⟩ = some (.int .i64 a1_0) := (blk_cell BK126.out 0).trans rfl; have hcz19_1 : w16.cell? ⟨gb126, 1, none⟩ = some (.int .i64 a1_1) := (blk_cell BK126.out 1).trans rfl; have hfz19_0 := blk_frozen BK126.out 0; have hfz19_1 := blk_frozen BK126.out 1))
   go_ret
   exact ⟨by first | rfl | (simp [errW_none, errW_some] <;> rfl) | (simp [*, errW_none, errW_some] <;> rfl), by repeat (first | (with_reducible first | exact HB.out | apply below_alloc | apply pw_below_drewN | apply below_drew1 | refine below_set ?_ GE125.out | refine below_set ?_ GE126.out) | exact HB.out)⟩
def folkmootref01_List.l0 : Nat → List (S41) → Int → Option (Bool)
 | 0, _, _ => none
 | k + 1, x0, x3 => if x3 < (x0.length : Int) then (if 0 ≤ (wrap64 (x3 - 1)) then (if (wrap64 (x3 - 1)) < (x0.length : Int) then (if 0 ≤ x3 then ((folkmootref01_Less.f ((rd_T41 x0 (wrap64 (x3 - 1))).f0) ((rd_T41 x0 (wrap64 (x3 - 1))).f1) ((rd_T41 x0 x3).f0) ((rd_T41 x0 x3).f1)).bind fun t129 => (if t129 = true then (folkmootref01_List.l0 k x0 (wrap64 (x3 + 1))) else (some false))) else (none)) else (none)) else (none)) else (some true)
def folkmootref01_List.f (k : Nat) (l0 : List (S41)) : Option (Bool) := folkmootref01_List.l0 k l0 1
def folkmootref01_List.T4 : Bool × List (List Nat × List Nat) := (true, [([], []), ([], []), ([1], [1]), ([0, 2], [0, 2]), ([3], [3]), ([], []), ([], []), ([5, 6], [5, 6]), ([7], [7]), ([4, 8], [4, 8]), ([9], [9])])
def folkmootref01_List.B4 : List Nat := [0, 0, 2, 7, 15, 0, 0, 96, 224, 511, 1023]
theorem folkmootref01_List.tab4 : rtab .any (opsOf Tryz.f46 4) = folkmootref01_List.T4 := by kernel_rfl
theorem folkmootref01_List.bits4 : waitsOk folkmootref01_List.T4.2 folkmootref01_List.B4 = true := by kernel_rfl
set_option maxHeartbeats 8000000 in
set_option maxRecDepth 100000 in
theorem folkmootref01_List.calls (k : Nat) (A0 : Option Addr) (c0 : Nat) (l0 : List (S41)) (r : Bool) (w : World) (hr0 : Kd.C k41 w A0 l0.length l0) (hc0 : l0.length ≤ c0) (h : folkmootref01_List.f k l0 = some r) :
  Calls Tryz.prog 46 #[.slice A0 l0.length c0] w fun e w' => e = .returned (.bool r) ∧ Below w.heap.size w w' := by
 have hu41 := Tryz.underlying41
 have HR0 := Aside0.mk hr0
 have HC0 := Aside0.mk hc0
 clear hr0 hc0
 have HB := Aside0.mk (Below.refl w.heap.size w)
 have H : (folkmootref01_List.l0 k l0 1) = some r := h
 clear h
 have H' := Aside0.mk H
 clear H
 go_enter Tryz.func46, Tryz.ntmps46
 go_wp2
 go_loopg [3] k (fun kq v3 w' => ∃ (x3_1 : Int), v3 = .int .i64 x3_1 ∧ Aside0 (folkmootref01_List.l0 kq l0 x3_1 = some r) ∧ Aside0 (kq ≤ k) ∧ Aside0 (Below w.heap.size w w'))
 case atStart => exact ⟨(1), (by first | rfl | (simp; done) | (simp [*]; done)), H', ⟨Nat.le_refl _⟩, ⟨by repeat (first | (with_reducible first | exact HB.out | apply below_alloc | apply pw_below_drewN | apply below_drew1) | exact HB.out)⟩⟩
 case round =>
  clear H'
  obtain ⟨x3_1, rfl, HA, HK1, HB⟩ := hrel
  cases gk with
  | zero => exact absurd HA.out (by simp [folkmootref01_List.l0])
  | succ k1 =>
   have H := HA.out;clear HA
   simp only [folkmootref01_List.l0] at H
   by_cases c2 : x3_1 < (l0.length : Int)
   ·rw [if_pos c2] at H
    have c2b0 : decide (x3_1 < (l0.length : Int)) = true := decide_eq_true c2
    clear c2
    obtain ⟨ji3, hji3⟩ : ∃ j_ : Int, (wrap64 (x3_1 - 1)) = j_ := ⟨_, rfl⟩
    replace H : (if 0 ≤ (ji3) then (if (ji3) < (l0.length : Int) then (if 0 ≤ x3_1 then ((folkmootref01_Less.f ((rd_T41 l0 (ji3)).f0) ((rd_T41 l0 (ji3)).f1) ((rd_T41 l0 x3_1).f0) ((rd_T41 l0 x3_1).f1)).bind fun t129 => (if t129 = true then (folkmootref01_List.l0 k1 l0 (wrap64 (x3_1 + 1))) else (some false))) else (none)) else (none)) else (none)) = some r := by first | (rw [hji3] at H; exact H) | (simp only [hji3] at H ⊢; exact H)
    have hji3w : (IntKind.i64.wrap (x3_1 - 1)) = ji3 := (i64_w _).trans hji3
    by_cases c4 : 0 ≤ (ji3)
    ·rw [if_pos c4] at H
     have c4b0 : decide (0 ≤ (ji3)) = true := decide_eq_true c4
     clear c4
     by_cases c5 : (ji3) < (l0.length : Int)
     ·rw [if_pos c5] at H
      have c5b0 : decide ((ji3) < (l0.length : Int)) = true := decide_eq_true c5
      clear c5
      by_cases c6 : 0 ≤ x3_1
      ·rw [if_pos c6] at H
       have c6b0 : decide (0 ≤ x3_1) = true := decide_eq_true c6
       clear c6
       replace H := Option.bind_eq_some_iff.mp H
       obtain ⟨t129, A70, H⟩ := H
       replace H : (if t129 = true then (folkmootref01_List.l0 k1 l0 (wrap64 (x3_1 + 1))) else (some false)) = some r := H
       have A7 := Aside0.mk A70
       clear A70
       by_cases c8 : t129 = true
       ·subst c8
        have H1 : (folkmootref01_List.l0 k1 l0 (wrap64 (x3_1 + 1))) = some r := by rw [if_pos rfl] at H; exact H
        clear H;have H := H1;clear H1
        have H' := Aside0.mk H
        clear H
        try go_wp2
        have n0_ := Aside0.mk (below_drew1 HB.out)
        clear HB;have HB := n0_;clear n0_
        have p127 : 0 ≤ ((ji3) : Int) := of_decide_eq_true (by first | (with_reducible assumption) | assumption)
        have q127 : (ji3) < (l0.length : Int) := of_decide_eq_true (by first | (with_reducible assumption) | assumption)
        obtain ⟨ad127, e127, hx127_0, hx127_1⟩ := at_T41 HR0.out (ji3) p127 q127
        have hw127_1 := hx127_1;have hw127_0 := hx127_0
        cases e127
        replace hx127_0 := (HB.out.cell (World.block_lt_of_cell? w _ hx127_0)).trans hx127_0
        replace hx127_1 := (HB.out.cell (World.block_lt_of_cell? w _ hx127_1)).trans hx127_1
        replace p127 := eq_true p127
        replace q127 := eq_true q127
        have p128 : 0 ≤ (x3_1 : Int) := of_decide_eq_true (by first | (with_reducible assumption) | assumption)
        have q128 : x3_1 < (l0.length : Int) := of_decide_eq_true (by first | (with_reducible assumption) | assumption)
        obtain ⟨ad128, e128, hx128_0, hx128_1⟩ := at_T41 HR0.out x3_1 p128 q128
        have hw128_1 := hx128_1;have hw128_0 := hx128_0
        obtain rfl : ad127 = ad128 := (by injection e128)
        replace hx128_0 := (HB.out.cell (World.block_lt_of_cell? w _ hx128_0)).trans hx128_0
        replace hx128_1 := (HB.out.cell (World.block_lt_of_cell? w _ hx128_1)).trans hx128_1
        replace p128 := eq_true p128
        replace q128 := eq_true q128
        refine start_ (n := 11) (S := fun w' => w'.cell? (ad127.add (((ji3)).toNat * 2)) = some (.int .i64 ((rd_T41 l0 (ji3)).f0)) ∧ w'.cell? ⟨(ad127.add (((ji3)).toNat * 2)).block, (ad127.add (((ji3)).toNat * 2)).off + 1, none⟩ = some (.int .i64 ((rd_T41 l0 (ji3)).f1)) ∧ w'.cell? (ad127.add ((x3_1).toNat * 2)) = some (.int .i64 ((rd_T41 l0 x3_1).f0)) ∧ w'.cell? ⟨(ad127.add ((x3_1).toNat * 2)).block, (ad127.add ((x3_1).toNat * 2)).off + 1, none⟩ = some (.int .i64 ((rd_T41 l0 x3_1).f1))) (ds := []) #[false,false,false,false,false,false,false,false,false,false,false] (by kernel_rfl) rfl rfl ⟨((HB.out.cell (World.block_lt_of_cell? w _ hw127_0)).trans hw127_0), ((HB.out.cell (World.block_lt_of_cell? w _ hw127_1)).trans hw127_1), ((HB.out.cell (World.block_lt_of_cell? w _ hw128_0)).trans hw128_0), ((HB.out.cell (World.block_lt_of_cell? w _ hw128_1)).trans hw128_1)⟩ (fun hHeld => ?_); refine with_tabW folkmootref01_List.tab4 folkmootref01_List.bits4 (fun HT_ HW_ => ?_)
        generalize wr.drew = w9 at HB hx127_0 hx127_1 hx128_0 hx128_1 hHeld ⊢
        refine pure_ (i := 0) (N := some 10) (v := ?_) (a' := ?_) #[true,false,false,false,false,false,false,false,false,false,false] rfl rfl (any_of HT_.out (by kernel_rfl)) (fun _ _ _ h => h) (Or.inl ⟨by rfl, ?_⟩) ?_ ?_;rotate_left
        ·intro w';go_simp;with_reducible rfl
        rotate_left
        ·simp only [Act.put, List.setIfInBounds_toArray, List.set_cons_zero, List.set_cons_succ, i64_w, i32_w];rfl
        refine pure_ (i := 1) (N := some 11) (v := ?_) (a' := ?_) #[true,true,false,false,false,false,false,false,false,false,false] rfl rfl (any_of HT_.out (by kernel_rfl)) (fun _ _ _ h => h) (Or.inl ⟨by rfl, ?_⟩) ?_ ?_;rotate_left
        ·intro w';go_simp;with_reducible rfl
        rotate_left
        ·simp only [Act.put, List.setIfInBounds_toArray, List.set_cons_zero, List.set_cons_succ, i64_w, i32_w];rfl
        refine pure_ (i := 2) (N := some 12) (v := ?_) (a' := ?_) #[true,true,true,false,false,false,false,false,false,false,false] rfl rfl (any_of HT_.out (by kernel_rfl)) (fun _ _ _ h => h) (Or.inl ⟨by rfl, ?_⟩) ?_ ?_;rotate_left
        ·intro w';go_simp;with_reducible rfl
        rotate_left
        ·simp only [Act.put, List.setIfInBounds_toArray, List.set_cons_zero, List.set_cons_succ, i64_w, i32_w];rfl
        refine pure_ (i := 3) (N := some 13) (v := ?_) (a' := ?_) #[true,true,true,true,false,false,false,false,false,false,false] rfl rfl (any_of HT_.out (by kernel_rfl)) (fun _ _ _ h => h) (Or.inl ⟨by rfl, ?_⟩) ?_ ?_;rotate_left
        ·intro w';go_simp;with_reducible rfl
        rotate_left
        ·simp only [Act.put, List.setIfInBounds_toArray, List.set_cons_zero, List.set_cons_succ, i64_w, i32_w];rfl
        refine pure_ (i := 5) (N := some 15) (v := ?_) (a' := ?_) #[true,true,true,true,false,true,false,false,false,false,false] rfl rfl (any_of HT_.out (by kernel_rfl)) (fun _ _ _ h => h) (Or.inl ⟨by rfl, ?_⟩) ?_ ?_;rotate_left
        ·intro w';go_simp;with_reducible rfl
        rotate_left
        ·simp only [Act.put, List.setIfInBounds_toArray, List.set_cons_zero, List.set_cons_succ, i64_w, i32_w];rfl
        refine pure_ (i := 6) (N := some 16) (v := ?_) (a' := ?_) #[true,true,true,true,false,true,true,false,false,false,false] rfl rfl (any_of HT_.out (by kernel_rfl)) (fun _ _ _ h => h) (Or.inl ⟨by rfl, ?_⟩) ?_ ?_;rotate_left
        ·intro w';go_simp;with_reducible rfl
        rotate_left
        ·simp only [Act.put, List.setIfInBounds_toArray, List.set_cons_zero, List.set_cons_succ, i64_w, i32_w];rfl
        refine pure_ (i := 7) (N := some 17) (v := ?_) (a' := ?_) #[true,true,true,true,false,true,true,true,false,false,false] rfl rfl (any_of HT_.out (by kernel_rfl)) (fun _ _ _ h => h) (Or.inl ⟨by rfl, ?_⟩) ?_ ?_;rotate_left
        ·intro w';go_simp;with_reducible rfl
        rotate_left
        ·simp only [Act.put, List.setIfInBounds_toArray, List.set_cons_zero, List.set_cons_succ, i64_w, i32_w];rfl
        refine take_ (i := 4) (N := some 14) (v := ?_) (a' := ?_) #[true,true,true,true,true,true,true,true,false,false,false] rfl rfl (take_ofW HT_.out HW_.out (by kernel_rfl)) (fun _ _ _ h => h) (Or.inl ⟨by rfl, ?_⟩) hHeld ?_ ?_;rotate_left
        ·rintro w' ⟨s0, s1, s2, s3⟩
         go_simp;with_reducible rfl
        rotate_left
        ·simp only [Act.put, List.setIfInBounds_toArray, List.set_cons_zero, List.set_cons_succ, i64_w, i32_w];rfl
        refine take_ (i := 8) (N := some 18) (v := ?_) (a' := ?_) #[true,true,true,true,true,true,true,true,true,false,false] rfl rfl (take_ofW HT_.out HW_.out (by kernel_rfl)) (fun _ _ _ h => h) (Or.inl ⟨by rfl, ?_⟩) hHeld ?_ ?_;rotate_left
        ·rintro w' ⟨s0, s1, s2, s3⟩
         go_simp;with_reducible rfl
        rotate_left
        ·simp only [Act.put, List.setIfInBounds_toArray, List.set_cons_zero, List.set_cons_succ, i64_w, i32_w];rfl
        refine one_ (i := 9) (N := some 19) #[true,true,true,true,true,true,true,true,true,true,false] rfl rfl (one_of HT_.out (by kernel_rfl)) (by decide) (fun K hK => ?_);refine goes_ Tryz.func57 (by kernel_rfl) rfl #[.agg #[.int .i64 ((rd_T41 l0 (ji3)).f0), .int .i64 ((rd_T41 l0 (ji3)).f1)], .agg #[.int .i64 ((rd_T41 l0 x3_1).f0), .int .i64 ((rd_T41 l0 x3_1).f1)]] (by rfl) rfl rfl (by (try simp only [List.map_toArray, List.map_cons, List.map_nil]); first | done | (simp only [hji3]; rfl) | rfl | (simp only [List.length_drop, List.length_take]; rfl)) ?_
        with_reducible refine (folkmootref01_Less.calls ((rd_T41 l0 (ji3)).f0) ((rd_T41 l0 (ji3)).f1) ((rd_T41 l0 x3_1).f0) ((rd_T41 l0 x3_1).f1) true _ A7.out).mono ?_
        rintro e w10 ⟨rfl, hb⟩
        refine ⟨_, rfl, ?_⟩
        have n0_ := Aside0.mk (below_step (by repeat (first | (with_reducible first | exact HB.out | apply below_alloc | apply pw_below_drewN | apply below_drew1) | exact HB.out)) hb)
        clear HB;have HB := n0_;clear n0_;(try clear hb);(try clear hb2);(try clear hk);(try clear hi);refine hK.out _ _ ⟨((HB.out.cell (World.block_lt_of_cell? w _ hw127_0)).trans hw127_0), ((HB.out.cell (World.block_lt_of_cell? w _ hw127_1)).trans hw127_1), ((HB.out.cell (World.block_lt_of_cell? w _ hw128_0)).trans hw128_0), ((HB.out.cell (World.block_lt_of_cell? w _ hw128_1)).trans hw128_1)⟩ (fun hHeld => ?_);clear hK K;refine norm_ (a' := ?_) ?_ ?_;rotate_left
        ·show Act.put _ (some 19) _ = _
         simp only [Act.put, List.setIfInBounds_toArray, List.set_cons_zero, List.set_cons_succ, i64_w, i32_w];rfl
        refine pure_ (i := 10) (N := some 20) (v := ?_) (a' := ?_) #[true,true,true,true,true,true,true,true,true,true,true] rfl rfl (any_of HT_.out (by kernel_rfl)) (fun _ _ _ h => h) (Or.inl ⟨by rfl, ?_⟩) ?_ ?_;rotate_left
        ·intro w';go_simp;with_reducible rfl
        rotate_left
        ·simp only [Act.put, List.setIfInBounds_toArray, List.set_cons_zero, List.set_cons_succ, i64_w, i32_w];rfl
        refine done_ (done_of HT_.out (by kernel_rfl)) ?_
        try go_wp2
        go_roundg k1
        case measure => have := HK1.out; omega
        case rel => exact ⟨(wrap64 (x3_1 + 1)), (by first | rfl | (simp; done) | (simp [*]; done)), H', ⟨by have := HK1.out; omega⟩, ⟨by repeat (first | (with_reducible first | exact HB.out | apply below_alloc | apply pw_below_drewN | apply below_drew1) | exact HB.out)⟩⟩
       ·replace c8 := Bool.eq_false_iff.mpr c8
        subst c8
        have H1 : (some false) = some r := by rw [if_neg (show ¬ (false = true) by decide)] at H; exact H
        clear H;have H := H1;clear H1;obtain rfl := Option.some.inj H
        try go_wp2
        have n0_ := Aside0.mk (below_drew1 HB.out)
        clear HB;have HB := n0_;clear n0_
        have p127 : 0 ≤ ((ji3) : Int) := of_decide_eq_true (by first | (with_reducible assumption) | assumption)
        have q127 : (ji3) < (l0.length : Int) := of_decide_eq_true (by first | (with_reducible assumption) | assumption)
        obtain ⟨ad127, e127, hx127_0, hx127_1⟩ := at_T41 HR0.out (ji3) p127 q127
        have hw127_1 := hx127_1;have hw127_0 := hx127_0
        cases e127
        replace hx127_0 := (HB.out.cell (World.block_lt_of_cell? w _ hx127_0)).trans hx127_0
        replace hx127_1 := (HB.out.cell (World.block_lt_of_cell? w _ hx127_1)).trans hx127_1
        replace p127 := eq_true p127
        replace q127 := eq_true q127
        have p128 : 0 ≤ (x3_1 : Int) := of_decide_eq_true (by first | (with_reducible assumption) | assumption)
        have q128 : x3_1 < (l0.length : Int) := of_decide_eq_true (by first | (with_reducible assumption) | assumption)
        obtain ⟨ad128, e128, hx128_0, hx128_1⟩ := at_T41 HR0.out x3_1 p128 q128
        have hw128_1 := hx128_1;have hw128_0 := hx128_0
        obtain rfl : ad127 = ad128 := (by injection e128)
        replace hx128_0 := (HB.out.cell (World.block_lt_of_cell? w _ hx128_0)).trans hx128_0
        replace hx128_1 := (HB.out.cell (World.block_lt_of_cell? w _ hx128_1)).trans hx128_1
        replace p128 := eq_true p128
        replace q128 := eq_true q128
        refine start_ (n := 11) (S := fun w' => w'.cell? (ad127.add (((ji3)).toNat * 2)) = some (.int .i64 ((rd_T41 l0 (ji3)).f0)) ∧ w'.cell? ⟨(ad127.add (((ji3)).toNat * 2)).block, (ad127.add (((ji3)).toNat * 2)).off + 1, none⟩ = some (.int .i64 ((rd_T41 l0 (ji3)).f1)) ∧ w'.cell? (ad127.add ((x3_1).toNat * 2)) = some (.int .i64 ((rd_T41 l0 x3_1).f0)) ∧ w'.cell? ⟨(ad127.add ((x3_1).toNat * 2)).block, (ad127.add ((x3_1).toNat * 2)).off + 1, none⟩ = some (.int .i64 ((rd_T41 l0 x3_1).f1))) (ds := []) #[false,false,false,false,false,false,false,false,false,false,false] (by kernel_rfl) rfl rfl ⟨((HB.out.cell (World.block_lt_of_cell? w _ hw127_0)).trans hw127_0), ((HB.out.cell (World.block_lt_of_cell? w _ hw127_1)).trans hw127_1), ((HB.out.cell (World.block_lt_of_cell? w _ hw128_0)).trans hw128_0), ((HB.out.cell (World.block_lt_of_cell? w _ hw128_1)).trans hw128_1)⟩ (fun hHeld => ?_); refine with_tabW folkmootref01_List.tab4 folkmootref01_List.bits4 (fun HT_ HW_ => ?_)
        generalize wr.drew = w11 at HB hx127_0 hx127_1 hx128_0 hx128_1 hHeld ⊢
        refine pure_ (i := 0) (N := some 10) (v := ?_) (a' := ?_) #[true,false,false,false,false,false,false,false,false,false,false] rfl rfl (any_of HT_.out (by kernel_rfl)) (fun _ _ _ h => h) (Or.inl ⟨by rfl, ?_⟩) ?_ ?_;rotate_left
        ·intro w';go_simp;with_reducible rfl
        rotate_left
        ·simp only [Act.put, List.setIfInBounds_toArray, List.set_cons_zero, List.set_cons_succ, i64_w, i32_w];rfl
        refine pure_ (i := 1) (N := some 11) (v := ?_) (a' := ?_) #[true,true,false,false,false,false,false,false,false,false,false] rfl rfl (any_of HT_.out (by kernel_rfl)) (fun _ _ _ h => h) (Or.inl ⟨by rfl, ?_⟩) ?_ ?_;rotate_left
        ·intro w';go_simp;with_reducible rfl
        rotate_left
        ·simp only [Act.put, List.setIfInBounds_toArray, List.set_cons_zero, List.set_cons_succ, i64_w, i32_w];rfl
        refine pure_ (i := 2) (N := some 12) (v := ?_) (a' := ?_) #[true,true,true,false,false,false,false,false,false,false,false] rfl rfl (any_of HT_.out (by kernel_rfl)) (fun _ _ _ h => h) (Or.inl ⟨by rfl, ?_⟩) ?_ ?_;rotate_left
        ·intro w';go_simp;with_reducible rfl
        rotate_left
        ·simp only [Act.put, List.setIfInBounds_toArray, List.set_cons_zero, List.set_cons_succ, i64_w, i32_w];rfl
        refine pure_ (i := 3) (N := some 13) (v := ?_) (a' := ?_) #[true,true,true,true,false,false,false,false,false,false,false] rfl rfl (any_of HT_.out (by kernel_rfl)) (fun _ _ _ h => h) (Or.inl ⟨by rfl, ?_⟩) ?_ ?_;rotate_left
        ·intro w';go_simp;with_reducible rfl
        rotate_left
        ·simp only [Act.put, List.setIfInBounds_toArray, List.set_cons_zero, List.set_cons_succ, i64_w, i32_w];rfl
        refine pure_ (i := 5) (N := some 15) (v := ?_) (a' := ?_) #[true,true,true,true,false,true,false,false,false,false,false] rfl rfl (any_of HT_.out (by kernel_rfl)) (fun _ _ _ h => h) (Or.inl ⟨by rfl, ?_⟩) ?_ ?_;rotate_left
        ·intro w';go_simp;with_reducible rfl
        rotate_left
        ·simp only [Act.put, List.setIfInBounds_toArray, List.set_cons_zero, List.set_cons_succ, i64_w, i32_w];rfl
        refine pure_ (i := 6) (N := some 16) (v := ?_) (a' := ?_) #[true,true,true,true,false,true,true,false,false,false,false] rfl rfl (any_of HT_.out (by kernel_rfl)) (fun _ _ _ h => h) (Or.inl ⟨by rfl, ?_⟩) ?_ ?_;rotate_left
        ·intro w';go_simp;with_reducible rfl
        rotate_left
        ·simp only [Act.put, List.setIfInBounds_toArray, List.set_cons_zero, List.set_cons_succ, i64_w, i32_w];rfl
        refine pure_ (i := 7) (N := some 17) (v := ?_) (a' := ?_) #[true,true,true,true,false,true,true,true,false,false,false] rfl rfl (any_of HT_.out (by kernel_rfl)) (fun _ _ _ h => h) (Or.inl ⟨by rfl, ?_⟩) ?_ ?_;rotate_left
        ·intro w';go_simp;with_reducible rfl
        rotate_left
        ·simp only [Act.put, List.setIfInBounds_toArray, List.set_cons_zero, List.set_cons_succ, i64_w, i32_w];rfl
        refine take_ (i := 4) (N := some 14) (v := ?_) (a' := ?_) #[true,true,true,true,true,true,true,true,false,false,false] rfl rfl (take_ofW HT_.out HW_.out (by kernel_rfl)) (fun _ _ _ h => h) (Or.inl ⟨by rfl, ?_⟩) hHeld ?_ ?_;rotate_left
        ·rintro w' ⟨s0, s1, s2, s3⟩
         go_simp;with_reducible rfl
        rotate_left
        ·simp only [Act.put, List.setIfInBounds_toArray, List.set_cons_zero, List.set_cons_succ, i64_w, i32_w];rfl
        refine take_ (i := 8) (N := some 18) (v := ?_) (a' := ?_) #[true,true,true,true,true,true,true,true,true,false,false] rfl rfl (take_ofW HT_.out HW_.out (by kernel_rfl)) (fun _ _ _ h => h) (Or.inl ⟨by rfl, ?_⟩) hHeld ?_ ?_;rotate_left
        ·rintro w' ⟨s0, s1, s2, s3⟩
         go_simp;with_reducible rfl
        rotate_left
        ·simp only [Act.put, List.setIfInBounds_toArray, List.set_cons_zero, List.set_cons_succ, i64_w, i32_w];rfl
        refine one_ (i := 9) (N := some 19) #[true,true,true,true,true,true,true,true,true,true,false] rfl rfl (one_of HT_.out (by kernel_rfl)) (by decide) (fun K hK => ?_);refine goes_ Tryz.func57 (by kernel_rfl) rfl #[.agg #[.int .i64 ((rd_T41 l0 (ji3)).f0), .int .i64 ((rd_T41 l0 (ji3)).f1)], .agg #[.int .i64 ((rd_T41 l0 x3_1).f0), .int .i64 ((rd_T41 l0 x3_1).f1)]] (by rfl) rfl rfl (by (try simp only [List.map_toArray, List.map_cons, List.map_nil]); first | done | (simp only [hji3]; rfl) | rfl | (simp only [List.length_drop, List.length_take]; rfl)) ?_
        with_reducible refine (folkmootref01_Less.calls ((rd_T41 l0 (ji3)).f0) ((rd_T41 l0 (ji3)).f1) ((rd_T41 l0 x3_1).f0) ((rd_T41 l0 x3_1).f1) false _ A7.out).mono ?_
        rintro e w12 ⟨rfl, hb⟩
        refine ⟨_, rfl, ?_⟩
        have n0_ := Aside0.mk (below_step (by repeat (first | (with_reducible first | exact HB.out | apply below_alloc | apply pw_below_drewN | apply below_drew1) | exact HB.out)) hb)
        clear HB;have HB := n0_;clear n0_;(try clear hb);(try clear hb2);(try clear hk);(try clear hi);refine hK.out _ _ ⟨((HB.out.cell (World.block_lt_of_cell? w _ hw127_0)).trans hw127_0), ((HB.out.cell (World.block_lt_of_cell? w _ hw127_1)).trans hw127_1), ((HB.out.cell (World.block_lt_of_cell? w _ hw128_0)).trans hw128_0), ((HB.out.cell (World.block_lt_of_cell? w _ hw128_1)).trans hw128_1)⟩ (fun hHeld => ?_);clear hK K;refine norm_ (a' := ?_) ?_ ?_;rotate_left
        ·show Act.put _ (some 19) _ = _
         simp only [Act.put, List.setIfInBounds_toArray, List.set_cons_zero, List.set_cons_succ, i64_w, i32_w];rfl
        refine pure_ (i := 10) (N := some 20) (v := ?_) (a' := ?_) #[true,true,true,true,true,true,true,true,true,true,true] rfl rfl (any_of HT_.out (by kernel_rfl)) (fun _ _ _ h => h) (Or.inl ⟨by rfl, ?_⟩) ?_ ?_;rotate_left
        ·intro w';go_simp;with_reducible rfl
        rotate_left
        ·simp only [Act.put, List.setIfInBounds_toArray, List.set_cons_zero, List.set_cons_succ, i64_w, i32_w];rfl
        refine done_ (done_of HT_.out (by kernel_rfl)) ?_
        try go_wp2
        go_ret
        exact ⟨by first | rfl | (simp [errW_none, errW_some] <;> rfl) | (simp only [← hji3]; first | rfl | (simp [errW_none, errW_some] <;> rfl)) | (simp [*, errW_none, errW_some] <;> rfl), by repeat (first | (with_reducible first | exact HB.out | apply below_alloc | apply pw_below_drewN | apply below_drew1) | exact HB.out)⟩
      ·rw [if_neg c6] at H
       exact absurd H (by simp)
     ·rw [if_neg c5] at H
      exact absurd H (by simp)
    ·rw [if_neg c4] at H
     exact absurd H (by simp)
   ·rw [if_neg c2] at H
    have c2b0 : decide (x3_1 < (l0.length : Int)) = false := decide_eq_false c2
    clear c2;obtain rfl := Option.some.inj H
    go_wp2
    go_ret
    exact ⟨by first | rfl | (simp [errW_none, errW_some] <;> rfl) | (simp [*, errW_none, errW_some] <;> rfl), by repeat (first | (with_reducible first | exact HB.out | apply below_alloc | apply pw_below_drewN | apply below_drew1) | exact HB.out)⟩
def folkmootref01_Is.f (a0_0 : Int) (a0_1 : Int) : Option (Bool) := if a0_0 ≥ 1 then (if a0_0 ≤ 1099511627776 then (if a0_1 ≥ 1 then (some (decide (a0_1 ≤ 7))) else (some false)) else (some false)) else (some false)
set_option maxHeartbeats 8000000 in
set_option maxRecDepth 100000 in
theorem folkmootref01_Is.calls (a0_0 : Int) (a0_1 : Int) (r : Bool) (w : World) (h : folkmootref01_Is.f a0_0 a0_1 = some r) :
  Calls Tryz.prog 47 #[.agg #[.int .i64 a0_0, .int .i64 a0_1]] w fun e w' => e = .returned (.bool r) ∧ Below w.heap.size w w' := by
 have hu41 := Tryz.underlying41
 have HB := Aside0.mk (Below.refl w.heap.size w)
 have H : (if a0_0 ≥ 1 then (if a0_0 ≤ 1099511627776 then (if a0_1 ≥ 1 then (some (decide (a0_1 ≤ 7))) else (some false)) else (some false)) else (some false)) = some r := h
 clear h
 by_cases c2 : a0_0 ≥ 1
 ·rw [if_pos c2] at H
  have c2b0 : decide (1 ≤ a0_0) = true := decide_eq_true c2
  clear c2
  by_cases c3 : a0_0 ≤ 1099511627776
  ·rw [if_pos c3] at H
   have c3b0 : decide (a0_0 ≤ 1099511627776) = true := decide_eq_true c3
   clear c3
   by_cases c4 : a0_1 ≥ 1
   ·rw [if_pos c4] at H
    have c4b0 : decide (1 ≤ a0_1) = true := decide_eq_true c4
    clear c4;obtain rfl := Option.some.inj H
    go_enter Tryz.func47, Tryz.ntmps47
    go_wp2_with (first | ((with_reducible refine gate_dst (N := 1) rfl ?_); refine box_event ?hg (N := 1) ?hd (cs := #[.int .i64 a0_0, .int .i64 a0_1]) (t := 41) ?hr ?_; (case hd => rfl); (case hg => rfl); (case hr => first | (go_simp; done) | (go_simp; rfl)); intro gb130 hg w5 hbox hb; have n0_ := Aside0.mk (below_step (by repeat (first | (with_reducible first | exact HB.out | apply below_alloc | apply pw_below_drewN | apply below_drew1) | exact HB.out)) hb); have n1_ := Aside0.mk (hbox); have n2_ := Aside0.mk ((by rw [hg]; exact (below_size (by repeat (first | (with_reducible first | exact HB.out | apply below_alloc | apply pw_below_drewN | apply below_drew1) | exact HB.out))) : w.heap.size ≤ gb130)); have n3_ := Aside0.mk ((by rw [hg]; exact (below_size (by repeat (first | (with_reducible first | exact HB.out | apply below_alloc | apply pw_below_drewN | apply below_drew1) | exact HB.out))) : w.heap.size ≤ gb130)); clear HB; have HB := n0_; have BK130 := n1_; have GW130 := n2_; have GE130 := n3_; clear n0_ n1_ n2_ n3_; clear hb hbox hg; have hcz6_0 : w5.cell? ⟨gb130, 0, none⟩ = some (.int .i64 a0_0) := (blk_cell BK130.out 0).trans rfl; have hcz6_1 : w5.cell? ⟨gb130, 1, none⟩ = some (.int .i64 a0_1) := (blk_cell BK130.out 1).trans rfl; have hfz6_0 := blk_frozen BK130.out 0; have hfz6_1 := blk_frozen BK130.out 1))
    go_ret
    exact ⟨by first | rfl | (simp [errW_none, errW_some] <;> rfl) | (simp [*, errW_none, errW_some] <;> rfl), by repeat (first | (with_reducible first | exact HB.out | apply below_alloc | apply pw_below_drewN | apply below_drew1 | refine below_set ?_ GE130.out) | exact HB.out)⟩
   ·rw [if_neg c4] at H
    have c4b0 : decide (1 ≤ a0_1) = false := decide_eq_false c4
    clear c4;obtain rfl := Option.some.inj H
    go_enter Tryz.func47, Tryz.ntmps47
    go_wp2_with (first | ((with_reducible refine gate_dst (N := 1) rfl ?_); refine box_event ?hg (N := 1) ?hd (cs := #[.int .i64 a0_0, .int .i64 a0_1]) (t := 41) ?hr ?_; (case hd => rfl); (case hg => rfl); (case hr => first | (go_simp; done) | (go_simp; rfl)); intro gb130 hg w7 hbox hb; have n0_ := Aside0.mk (below_step (by repeat (first | (with_reducible first | exact HB.out | apply below_alloc | apply pw_below_drewN | apply below_drew1) | exact HB.out)) hb); have n1_ := Aside0.mk (hbox); have n2_ := Aside0.mk ((by rw [hg]; exact (below_size (by repeat (first | (with_reducible first | exact HB.out | apply below_alloc | apply pw_below_drewN | apply below_drew1) | exact HB.out))) : w.heap.size ≤ gb130)); have n3_ := Aside0.mk ((by rw [hg]; exact (below_size (by repeat (first | (with_reducible first | exact HB.out | apply below_alloc | apply pw_below_drewN | apply below_drew1) | exact HB.out))) : w.heap.size ≤ gb130)); clear HB; have HB := n0_; have BK130 := n1_; have GW130 := n2_; have GE130 := n3_; clear n0_ n1_ n2_ n3_; clear hb hbox hg; have hcz8_0 : w7.cell? ⟨gb130, 0, none⟩ = some (.int .i64 a0_0) := (blk_cell BK130.out 0).trans rfl; have hcz8_1 : w7.cell? ⟨gb130, 1, none⟩ = some (.int .i64 a0_1) := (blk_cell BK130.out 1).trans rfl; have hfz8_0 := blk_frozen BK130.out 0; have hfz8_1 := blk_frozen BK130.out 1))
    go_ret
    exact ⟨by first | rfl | (simp [errW_none, errW_some] <;> rfl) | (simp [*, errW_none, errW_some] <;> rfl), by repeat (first | (with_reducible first | exact HB.out | apply below_alloc | apply pw_below_drewN | apply below_drew1 | refine below_set ?_ GE130.out) | exact HB.out)⟩
  ·rw [if_neg c3] at H
   have c3b0 : decide (a0_0 ≤ 1099511627776) = false := decide_eq_false c3
   clear c3;obtain rfl := Option.some.inj H
   go_enter Tryz.func47, Tryz.ntmps47
   go_wp2_with (first | ((with_reducible refine gate_dst (N := 1) rfl ?_); refine box_event ?hg (N := 1) ?hd (cs := #[.int .i64 a0_0, .int .i64 a0_1]) (t := 41) ?hr ?_; (case hd => rfl); (case hg => rfl); (case hr => first | (go_simp; done) | (go_simp; rfl)); intro gb130 hg w9 hbox hb; have n0_ := Aside0.mk (below_step (by repeat (first | (with_reducible first | exact HB.out | apply below_alloc | apply pw_below_drewN | apply below_drew1) | exact HB.out)) hb); have n1_ := Aside0.mk (hbox); have n2_ := Aside0.mk ((by rw [hg]; exact (below_size (by repeat (first | (with_reducible first | exact HB.out | apply below_alloc | apply pw_below_drewN | apply below_drew1) | exact HB.out))) : w.heap.size ≤ gb130)); have n3_ := Aside0.mk ((by rw [hg]; exact (below_size (by repeat (first | (with_reducible first | exact HB.out | apply below_alloc | apply pw_below_drewN | apply below_drew1) | exact HB.out))) : w.heap.size ≤ gb130)); clear HB; have HB := n0_; have BK130 := n1_; have GW130 := n2_; have GE130 := n3_; clear n0_ n1_ n2_ n3_; clear hb hbox hg; have hcz10_0 : w9.cell? ⟨gb130, 0, none⟩ = some (.int .i64 a0_0) := (blk_cell BK130.out 0).trans rfl; have hcz10_1 : w9.cell? ⟨gb130, 1, none⟩ = some (.int .i64 a0_1) := (blk_cell BK130.out 1).trans rfl; have hfz10_0 := blk_frozen BK130.out 0; have hfz10_1 := blk_frozen BK130.out 1))
   go_ret
   exact ⟨by first | rfl | (simp [errW_none, errW_some] <;> rfl) | (simp [*, errW_none, errW_some] <;> rfl), by repeat (first | (with_reducible first | exact HB.out | apply below_alloc | apply pw_below_drewN | apply below_drew1 | refine below_set ?_ GE130.out) | exact HB.out)⟩
 ·rw [if_neg c2] at H
  have c2b0 : decide (1 ≤ a0_0) = false := decide_eq_false c2
  clear c2;obtain rfl := Option.some.inj H
  go_enter Tryz.func47, Tryz.ntmps47
  go_wp2_with (first | ((with_reducible refine gate_dst (N := 1) rfl ?_); refine box_event ?hg (N := 1) ?hd (cs := #[.int .i64 a0_0, .int .i64 a0_1]) (t := 41) ?hr ?_; (case hd => rfl); (case hg => rfl); (case hr => first | (go_simp; done) | (go_simp; rfl)); intro gb130 hg w11 hbox hb; have n0_ := Aside0.mk (below_step (by repeat (first | (with_reducible first | exact HB.out | apply below_alloc | apply pw_below_drewN | apply below_drew1) | exact HB.out)) hb); have n1_ := Aside0.mk (hbox); have n2_ := Aside0.mk ((by rw [hg]; exact (below_size (by repeat (first | (with_reducible first | exact HB.out | apply below_alloc | apply pw_below_drewN | apply below_drew1) | exact HB.out))) : w.heap.size ≤ gb130)); have n3_ := Aside0.mk ((by rw [hg]; exact (below_size (by repeat (first | (with_reducible first | exact HB.out | apply below_alloc | apply pw_below_drewN | apply below_drew1) | exact HB.out))) : w.heap.size ≤ gb130)); clear HB; have HB := n0_; have BK130 := n1_; have GW130 := n2_; have GE130 := n3_; clear n0_ n1_ n2_ n3_; clear hb hbox hg; have hcz12_0 : w11.cell? ⟨gb130, 0, none⟩ = some (.int .i64 a0_0) := (blk_cell BK130.out 0).trans rfl; have hcz12_1 : w11.cell? ⟨gb130, 1, none⟩ = some (.int .i64 a0_1) := (blk_cell BK130.out 1).trans rfl; have hfz12_0 := blk_frozen BK130.out 0; have hfz12_1 := blk_frozen BK130.out 1))
  go_ret
  exact ⟨by first | rfl | (simp [errW_none, errW_some] <;> rfl) | (simp [*, errW_none, errW_some] <;> rfl), by repeat (first | (with_reducible first | exact HB.out | apply below_alloc | apply pw_below_drewN | apply below_drew1 | refine below_set ?_ GE130.out) | exact HB.out)⟩
end Go.Proofs.YtaedlmeaconflaaGreat.P
end
section
set_option linter.unusedVariables false
set_option linter.unusedSimpArgs false
namespace Go.Proofs.YtaedlmeaconflaaGreat.P
open Go.RowKit Go.Proofs.YtaedlmeaconflaaGreatW.PrintWords Go.Proofs.YtaedlmeaconflaaGreatW.PrintLast Go.Proofs.YtaedlmeaconflaaGreatW.PrintMore
attribute [local go_sem] max2_int min2_int max_two min_two max_three min_three max_four min_four   -- for this text's walks alone
set_option linter.unusedVariables false
set_option linter.unusedSimpArgs false
def deps_All.l0 : Nat → List (S41) → List (S26) → Int → Int → Option ((List (S41)))
 | 0, _, _, _, _ => none
 | k + 1, x3, x6, x7, x8 => if x8 < x7 then (if 0 ≤ x8 then (if x8 < (x6.length : Int) then (if x3.length + ((rd_T26 x6 x8).f1).length < 8796093022208 then (deps_All.l0 k (x3 ++ ((rd_T26 x6 x8).f1)) x6 x7 (wrap64 (x8 + 1))) else (none)) else (none)) else (none)) else ((stamp_Sort.f x3).bind fun t193 => (some t193))
def deps_All.f (k : Nat) (l0 : List (S26)) : Option ((List (S41))) := deps_All.l0 k ([] : List (S41)) l0 (l0.length : Int) 0
set_option maxHeartbeats 8000000 in
set_option maxRecDepth 100000 in
theorem deps_All.calls (k : Nat) (A0 : Option Addr) (c0 : Nat) (l0 : List (S26)) (r : List (S41)) (w : World) (hr0 : Kd.C k26 w A0 l0.length l0) (hc0 : l0.length ≤ c0) (h : deps_All.f k l0 = some r) :
  Calls Tryz.prog 20 #[.slice A0 l0.length c0] w fun e w' => ∃ v0_ : Value, e = .returned (v0_) ∧ Kd.R k41 41 w' w.heap.size (fun _ => True) v0_ r ∧ Below w.heap.size w w' := by
 have hu26 := Tryz.underlying26
 have HR0 := Aside0.mk hr0
 have HC0 := Aside0.mk hc0
 clear hr0 hc0
 have HB := Aside0.mk (Below.refl w.heap.size w)
 have H : (deps_All.l0 k ([] : List (S41)) l0 (l0.length : Int) 0) = some r := h
 clear h
 have H' := Aside0.mk H
 clear H
 go_enter Tryz.func20, Tryz.ntmps20
 go_wp2
 go_loopg [3, 8] k (fun kq v3 v8 w' => ∃ (x3_1 : List (S41)) (x8_1 : Int), v8 = .int .i64 x8_1 ∧ Aside0 (deps_All.l0 kq x3_1 l0 (l0.length : Int) x8_1 = some r) ∧ Aside0 (kq ≤ k) ∧ Aside0 (Kd.R k41 41 w' w.heap.size (fun _ => True) v3 x3_1) ∧ Aside0 (Below w.heap.size w w'))
 case atStart => exact ⟨(([] : List (S41))), (0), (by first | rfl | (simp; done) | (simp [*]; done)), H', ⟨Nat.le_refl _⟩, ⟨by first | exact Kd.R_nil _ _ _ _ _ | exact Kd.N_nil _ _ _ _ _ | exact Kd.V_nil _ _ _ _ _ | exact Kd.Q_nil _ _ _ _ _ | exact Kd.S_nil _ _ _ _ _⟩, ⟨by repeat (first | (with_reducible first | exact HB.out | apply below_alloc | apply pw_below_drewN | apply below_drew1) | exact HB.out)⟩⟩
 case round =>
  clear H'
  obtain ⟨x3_1, x8_1, rfl, HA, HK1, HO_3, HB⟩ := hrel
  cases gk with
  | zero => exact absurd HA.out (by simp [deps_All.l0])
  | succ k1 =>
   have H := HA.out;clear HA
   simp only [deps_All.l0] at H
   by_cases c2 : x8_1 < (l0.length : Int)
   ·rw [if_pos c2] at H
    have c2b0 : decide (x8_1 < (l0.length : Int)) = true := decide_eq_true c2
    clear c2
    by_cases c3 : 0 ≤ x8_1
    ·rw [if_pos c3] at H
     have c3b0 : decide (0 ≤ x8_1) = true := decide_eq_true c3
     clear c3
     by_cases c4 : x8_1 < (l0.length : Int)
     ·rw [if_pos c4] at H
      have c4b0 : decide (x8_1 < (l0.length : Int)) = true := decide_eq_true c4
      clear c4
      by_cases c5 : x3_1.length + ((rd_T26 l0 x8_1).f1).length < 8796093022208
      ·rw [if_pos c5] at H
       have LMc5 := Aside0.mk c5
       clear c5
       obtain ⟨y190, hy190⟩ : ∃ y_ : List (S41), y_ = (x3_1 ++ ((rd_T26 l0 x8_1).f1)) := ⟨_, rfl⟩
       replace H : (deps_All.l0 k1 y190 l0 (l0.length : Int) (wrap64 (x8_1 + 1))) = some r := by first | (rw [hy190]; with_reducible exact H) | (have H2_ := (Option.bind_some _ _).symm.trans H; rw [hy190]; with_reducible exact H2_) | (have H2_ := (Option.bind_some _ _).symm.trans H; with_reducible exact H2_) | with_reducible exact H | (rw [hy190]; exact H) | exact H
       have Ny190 := Aside0.mk hy190
       clear hy190
       have H' := Aside0.mk H
       clear H
       have p188 : 0 ≤ (x8_1 : Int) := of_decide_eq_true (by first | (with_reducible assumption) | assumption)
       have q188 : x8_1 < (l0.length : Int) := of_decide_eq_true (by first | (with_reducible assumption) | assumption)
       obtain ⟨ad188, A188_1, c188_1, e188, hx188_0, hx188_1, hl188_1, hi188_1⟩ := at_T26 HR0.out x8_1 p188 q188
       cases e188
       replace hx188_0 := (HB.out.cell (World.block_lt_of_cell? w _ hx188_0)).trans hx188_0
       replace hx188_1 := (HB.out.cell (World.block_lt_of_cell? w _ hx188_1)).trans hx188_1
       have HR188_1 := Aside0.mk hi188_1
       have HC188_1 := Aside0.mk hl188_1
       clear hi188_1 hl188_1
       replace p188 := eq_true p188
       replace q188 := eq_true q188
       go_wp2_with (first | ((with_reducible refine gate_dst (N := 5) rfl ?_); refine box_event ?hg (N := 5) ?hd (cs := #[.int .i64 0, .slice none 0 0]) (t := 26) ?hr ?_; (case hd => rfl); (case hg => rfl); (case hr => first | (go_simp; done) | (go_simp; rfl)); intro gb189 hg w6 hbox hb; have n0_ := Aside0.mk (Kd.R_below (by (with_reducible repeat (first | apply Kd.R_alloc | apply Kd.R_drewN | apply Kd.R_drew)); exact HO_3.out) hb); have n1_ := Aside0.mk (below_step (by repeat (first | (with_reducible first | exact HB.out | apply below_alloc | apply pw_below_drewN | apply below_drew1) | exact HB.out)) hb); have n2_ := Aside0.mk (hbox); have n3_ := Aside0.mk ((by rw [hg]; exact (below_size (by repeat (first | (with_reducible first | exact HB.out | apply below_alloc | apply pw_below_drewN | apply below_drew1) | exact HB.out))) : w.heap.size ≤ gb189)); have n4_ := Aside0.mk ((by rw [hg]; exact (below_size (by repeat (first | (with_reducible first | exact HB.out | apply below_alloc | apply pw_below_drewN | apply below_drew1) | exact HB.out))) : w.heap.size ≤ gb189)); clear HO_3; clear HB; have HO_3 := n0_; have HB := n1_; have BK189 := n2_; have GW189 := n3_; have GE189 := n4_; clear n0_ n1_ n2_ n3_ n4_; clear hb hbox hg; have hcz7_0 : w6.cell? ⟨gb189, 0, none⟩ = some (.int .i64 0) := (blk_cell BK189.out 0).trans rfl; have hcz7_1 : w6.cell? ⟨gb189, 1, none⟩ = some (.slice none 0 0) := (blk_cell BK189.out 1).trans rfl; have hfz7_0 := blk_frozen BK189.out 0; have hfz7_1 := blk_frozen BK189.out 1) | ((with_reducible refine gate_builtin (b := .append) (xs := #[.tmp 12, .tmp 14]) rfl ?_); at_builtin; refine Kd.R_append_rows k41 (w0 := w) w.heap.size rfl (.tmp 12) (.tmp 14) 24 41 (.agg #[(.int .i64 0), (.int .i64 0)]) 16 rfl Tryz.underlying24 info41 rfl (by decide) (by omega) u3 x3_1 ((rd_T26 l0 x8_1).f1) _ _ _ (fun _ => True) (fun _ => False) rfl rfl ?aO ?aR (fun _ _ h => h) (fun _ h => h.elim) ?aF ?aB ?aS ?aL ?_; (case aR => exact Kd.C_below HR188_1.out (by repeat (first | (with_reducible first | exact HB.out | apply below_alloc | apply pw_below_drewN | apply below_drew1 | refine below_set ?_ GE189.out) | exact HB.out))); (case aB => exact (by repeat (first | (with_reducible first | exact HB.out | apply below_alloc | apply pw_below_drewN | apply below_drew1 | refine below_set ?_ GE189.out) | exact HB.out))); (case aF => exact (fun _ _ => trivial)); (case aO => exact (by (with_reducible repeat (first | apply Kd.R_alloc | apply Kd.R_drewN | apply Kd.R_drew)); exact Kd.R_mono (Kd.R_far (p := ⟨gb189, 1, none⟩) (Kd.R_far (p := ⟨gb189, 0, none⟩) (Kd.R_types HO_3.out BK189.out (by decide)) (fun _ hk => hk.2) (.int .i64 ((rd_T26 l0 x8_1).f0))) (fun _ hk => hk.2) (.slice A188_1 ((rd_T26 l0 x8_1).f1).length c188_1)) (fun _ hk => trivial))); (case aS => exact (below_size (by repeat (first | (with_reducible first | exact HB.out | apply below_alloc | apply pw_below_drewN | apply below_drew1 | refine below_set ?_ GE189.out) | exact HB.out)))); (case aL => have := LMc5.out; omega); intro v191 w8 ho hb hg hat; rw [← Ny190.out] at ho; have n0_ := Aside0.mk (blk_grown (g := gb189) (o := .cells #[.int .i64 ((rd_T26 l0 x8_1).f0), .slice A188_1 ((rd_T26 l0 x8_1).f1).length c188_1] 26 (0, 0)) (by (with_reducible repeat (first | refine blk_drewN ?_ _ | refine blk_drew ?_ | refine blk_alloc ?_ _)); refine blk_put (cs := #[.int .i64 ((rd_T26 l0 x8_1).f0), .slice none 0 0]) ?_ 1 _ rfl; (with_reducible repeat (first | refine blk_drewN ?_ _ | refine blk_drew ?_ | refine blk_alloc ?_ _)); refine blk_put (cs := #[.int .i64 0, .slice none 0 0]) ?_ 0 _ rfl; (with_reducible repeat (first | refine blk_drewN ?_ _ | refine blk_drew ?_ | refine blk_alloc ?_ _)); exact BK189.out) hg (Kd.R_ne HO_3.out BK189.out (by decide))); have n1_ := Aside0.mk (hb); have n2_ := Aside0.mk (ho); clear BK189; clear HB; clear HO_3; have BK189 := n0_; have HB := n1_; have HO192 := n2_; clear n0_ n1_ n2_; clear ho hb hg hat))
       go_roundg k1
       case measure => have := HK1.out; omega
       case rel => exact ⟨(y190), (wrap64 (x8_1 + 1)), (by first | rfl | (simp; done) | (simp [*]; done)), H', ⟨by have := HK1.out; omega⟩, ⟨by (with_reducible repeat (first | apply Kd.R_alloc | apply Kd.R_drewN | apply Kd.R_drew)); exact HO192.out⟩, ⟨by repeat (first | (with_reducible first | exact HB.out | apply below_alloc | apply pw_below_drewN | apply below_drew1 | refine below_set ?_ GE189.out) | exact HB.out)⟩⟩
      ·rw [if_neg c5] at H
       exact absurd H (by simp)
     ·rw [if_neg c4] at H
      exact absurd H (by simp)
    ·rw [if_neg c3] at H
     exact absurd H (by simp)
   ·rw [if_neg c2] at H
    have c2b0 : decide (x8_1 < (l0.length : Int)) = false := decide_eq_false c2
    clear c2
    replace H := Option.bind_eq_some_iff.mp H
    obtain ⟨t193, A90, H⟩ := H
    replace H : (some t193) = some r := H
    have A9 := Aside0.mk A90
    clear A90;obtain rfl := Option.some.inj H
    obtain ⟨Ao10, co10, eo10⟩ := Kd.R_slice HO_3.out
    subst eo10
    go_wp2_with (first | ((with_reducible refine gate_callee (f := 56) rfl ?_); refine goesL_ (some 18) rfl rfl Tryz.func56 (by kernel_rfl) rfl #[.slice Ao10 x3_1.length co10] rfl (by (try simp only [List.map_toArray, List.map_cons, List.map_nil]); first | done | rfl | (simp only [List.length_drop, List.length_take]; rfl)) ?_; (with_reducible refine (stamp_Sort.calls _ _ x3_1 t193 _ ?side1 ?side2 A9.out).mono ?_); (case side1 => repeat (first | exact (Kd.R_reads' HO_3.out).2.2 | (with_reducible refine Kd.C_alloc ?_ _) | (with_reducible refine Kd.C_drewN ?_ _) | (with_reducible refine Kd.C_drew ?_))); (case side2 => exact (Kd.R_reads' HO_3.out).2.1); rintro e w11 ⟨v194, rfl, ho0, hb⟩; refine ⟨_, rfl, ?_⟩; have n0_ := Aside0.mk (Kd.R_elder' (by (with_reducible repeat (first | apply Kd.R_alloc | apply Kd.R_drewN | apply Kd.R_drew)); exact HO_3.out) (Kd.R_base ho0) hb); have n1_ := Aside0.mk (Kd.R_lower (Kd.R_new' ho0 (Kd.R_lt (by (with_reducible repeat (first | apply Kd.R_alloc | apply Kd.R_drewN | apply Kd.R_drew)); exact HO_3.out))) (below_size (by repeat (first | (with_reducible first | exact HB.out | apply below_alloc | apply pw_below_drewN | apply below_drew1) | exact HB.out)))); have n2_ := Aside0.mk (below_step (by repeat (first | (with_reducible first | exact HB.out | apply below_alloc | apply pw_below_drewN | apply below_drew1) | exact HB.out)) hb); clear HO_3; clear HB; have HO_3 := n0_; have HO195 := n1_; have HB := n2_; clear n0_ n1_ n2_; (try clear hb); (try clear hb2); (try clear hk); (try clear hi); (try clear ho0)))
    go_ret
    exact ⟨_, by first | rfl | (simp [errW_none, errW_some] <;> rfl) | (simp [*, errW_none, errW_some] <;> rfl), by (with_reducible repeat (first | apply Kd.R_alloc | apply Kd.R_drewN | apply Kd.R_drew)); exact Kd.R_mono HO195.out (fun _ hk => trivial), by repeat (first | (with_reducible first | exact HB.out | apply below_alloc | apply pw_below_drewN | apply below_drew1) | exact HB.out)⟩
end Go.Proofs.YtaedlmeaconflaaGreat.P
end
