/- Rows of whole numbers: slices.IndexFunc, slices.DeleteFunc with whatever function value, slices.Clone. -/
import Derived.Test.YtmljpidhhiineaaPx0
import Derived.Test.YtmljpidhhiineaaPB
namespace Go.Proofs.Ytmljpidhhiineaa.P
open Go.RowKit Go.Proofs.YtmljpidhhiineaaW.PrintWords Go.Proofs.YtmljpidhhiineaaW.PrintLast Go.Proofs.YtmljpidhhiineaaW.PrintMore
/-- where something is first so; -1. -/
def idxP {α : Type} (p : α → Bool) (xs : List α) : Int := match xs.findIdx? p with | some i => (i : Int) | none => -1
theorem idxP_hit {α : Type} {p : α → Bool} {xs : List α} {k : Nat} (hk : k < xs.length) (h : ∀ j (hj : j < xs.length), j < k → p xs[j] = false) (ht : p xs[k] = true) : idxP p xs = k := by
  unfold idxP
  have : xs.findIdx? p = some k := by
    rw [List.findIdx?_eq_some_iff_getElem]
    exact ⟨hk, ht, fun j hj => by simpa using h j (by omega) hj⟩
  rw [this]
theorem idxP_none {α : Type} {p : α → Bool} {xs : List α} (h : ∀ j (hj : j < xs.length), p xs[j] = false) : idxP p xs = -1 := by
  unfold idxP
  have : xs.findIdx? p = none := by
    rw [List.findIdx?_eq_none_iff]
    intro x hx
    obtain ⟨j, hj, rfl⟩ := List.getElem_of_mem hx
    exact h j hj
  rw [this]
theorem rd_nat (xs : List Int) {k : Nat} (hk : k < xs.length) : rd xs (k : Int) = xs[k] := by simp [rd, List.getD_eq_getElem?_getD, List.getElem?_eq_getElem hk]
set_option maxHeartbeats 1000000 in
theorem idxF_any (g : Nat) (fst lb : Array Value) (p : Int → Bool) (eg : ∀ args w, (callFunc g args).run Try.prog w = .ok (.enter g args) w) (A : Option Addr) (c : Nat) (xs : List Int) (w : World) (hr : Kd.C (Kd.int .i64) w A xs.length xs)
    (hp : ∀ (W : World) (x : Int), x ∈ xs → Below w.heap.size w W → Calls Try.prog g (fst ++ #[.int .i64 x] ++ lb) W fun e w' => e = .returned (.bool (p x)) ∧ Below W.heap.size W w') :
    Calls Try.prog 50 #[.slice A xs.length c, .func (.func g) fst lb] w fun e w' => e = .returned (.int .i64 (idxP p xs)) ∧ Below w.heap.size w w' := by
  have hm := hr.2.1
  have HR := Lib.hid hr; clear hr
  have HP := Lib.hid hp; clear hp
  go_enter Try.func50, Try.ntmps50
  go_wp2
  go_loopw [5, 8] (fun _ i wr => ∃ k : Nat, i = .int .i64 k ∧ k ≤ xs.length ∧ Below w.heap.size w wr ∧ RowKit.Hid (∀ j (hj : j < xs.length), j < k → p xs[j] = false)) (fun _ i _ => xs.length - (intOf i).toNat)
  case atStart => exact ⟨0, rfl, Nat.zero_le _, Below.refl _ _, Lib.hid (fun j _ h => absurd h (Nat.not_lt_zero _))⟩
  case round =>
    obtain ⟨k, rfl, hk, hB, HN⟩ := hrel
    by_cases hlt : k < xs.length
    · obtain ⟨ad, rfl, hcell⟩ := Kd.at_int HR.out (k : Int) (by omega) (by omega)
      have hcell2 := pw_cell_below hB hcell
      simp only [Int.toNat_natCast] at hcell2
      have hx := rd_nat xs hlt
      rw [hx] at hcell2
      have hc := HP.out wr xs[k] (List.getElem_mem hlt) hB
      clear hcell hx
      generalize hu : xs[k] = u at *
      have HU := Lib.hid hu; clear hu
      cases hq : p u with
      | true =>
        rw [hq] at hc
        have HQ := Lib.hid hq; clear hq
        go_wp2_with (go_at_fn g; refine hc.mono ?_; rintro e w' ⟨rfl, hb⟩)
        go_ret
        refine ⟨?_, hB.trans (hb.mono hB.size)⟩
        rw [idxP_hit hlt HN.out (by rw [HU.out]; exact HQ.out)]
        rfl
      | false =>
        rw [hq] at hc
        have HQ := Lib.hid hq; clear hq
        go_wp2_with (go_at_fn g; refine hc.mono ?_; rintro e w' ⟨rfl, hb⟩)
        go_roundw
        case rel => exact ⟨k + 1, by go_num, by omega, hB.trans (hb.mono hB.size), Lib.hid (fun j hj h => by
          by_cases e : j = k
          · subst e; rw [HU.out]; exact HQ.out
          · exact HN.out j hj (by omega))⟩
        case measure => simp [intOf]; omega
    · obtain rfl : k = xs.length := by omega
      go_wp2
      go_ret
      refine ⟨?_, hB⟩
      rw [idxP_none (fun j hj => HN.out j hj hj)]
      rfl

/-- how far DeleteFunc has come: the row ys, i kept, j seen. -/
structure DelInv {α : Type} (p : α → Bool) (xs ys : List α) (i j : Nat) : Prop where
  len : ys.length = xs.length
  lt : i < j
  le : j ≤ xs.length
  low : ys.take i = (xs.take j).filter (fun x => !p x)
  high : ys.drop j = xs.drop j
theorem DelInv.start {α : Type} {p : α → Bool} {xs : List α} {k : Nat} (hk : k < xs.length) (h : ∀ j (hj : j < xs.length), j < k → p xs[j] = false) (ht : p xs[k] = true) : DelInv p xs xs k (k + 1) where
  len := rfl
  lt := Nat.lt_succ_self _
  le := hk
  low := by
    rw [List.take_succ_eq_append_getElem hk, List.filter_append, List.filter_cons_of_neg (by simp [ht]), List.filter_nil, List.append_nil, List.filter_eq_self.2]
    intro x hx
    obtain ⟨j, hj, rfl⟩ := List.getElem_of_mem hx
    rw [List.length_take] at hj
    rw [List.getElem_take]
    simp [h j (by omega) (by omega)]
  high := rfl
theorem DelInv.get {α : Type} {p : α → Bool} {xs ys : List α} {i j : Nat} (h : DelInv p xs ys i j) (hj : j < xs.length) : ys[j]'(by rw [h.len]; exact hj) = xs[j] := by
  have h1 : (ys.drop j)[0]? = (xs.drop j)[0]? := by rw [h.high]
  rw [List.getElem?_drop, List.getElem?_drop, Nat.add_zero, List.getElem?_eq_getElem (by rw [h.len]; exact hj), List.getElem?_eq_getElem hj] at h1
  exact Option.some.inj h1
theorem DelInv.skip {α : Type} {p : α → Bool} {xs ys : List α} {i j : Nat} (h : DelInv p xs ys i j) (hj : j < xs.length) (hp : p xs[j] = true) : DelInv p xs ys i (j + 1) where
  len := h.len
  lt := Nat.lt_succ_of_lt h.lt
  le := hj
  low := by rw [h.low, List.take_succ_eq_append_getElem hj, List.filter_append, List.filter_cons_of_neg (by simp [hp]), List.filter_nil, List.append_nil]
  high := by rw [← List.drop_drop, h.high, List.drop_drop]
theorem DelInv.keep {α : Type} {p : α → Bool} {xs ys : List α} {i j : Nat} (h : DelInv p xs ys i j) (hj : j < xs.length) (hp : p xs[j] = false) : DelInv p xs (ys.set i xs[j]) (i + 1) (j + 1) where
  len := by rw [List.length_set]; exact h.len
  lt := Nat.succ_lt_succ h.lt
  le := hj
  low := by
    have hi : i < (ys.set i xs[j]).length := by rw [List.length_set, h.len]; have := h.lt; omega
    rw [List.take_succ_eq_append_getElem hi, List.getElem_set_self, List.take_set_of_le (Nat.le_refl _), h.low, List.take_succ_eq_append_getElem hj, List.filter_append, List.filter_cons_of_pos (by simp [hp]), List.filter_nil]
  high := by
    rw [List.drop_set_of_lt (by have := h.lt; omega), ← List.drop_drop, h.high, List.drop_drop]
theorem DelInv.done {α : Type} {p : α → Bool} {xs ys : List α} {i : Nat} (h : DelInv p xs ys i xs.length) : ys.take i = xs.filter (fun x => !p x) := by
  rw [h.low, List.take_length]
theorem DelInv.size {α : Type} {p : α → Bool} {xs ys : List α} {i : Nat} (h : DelInv p xs ys i xs.length) : (xs.filter (fun x => !p x)).length = i := by
  rw [← h.done, List.length_take, h.len]; have := h.lt; omega
theorem nums_getElem? (k : IntKind) (xs : List Int) (i : Nat) : (nums k xs)[i]? = xs[i]?.map (Value.int k) := by simp [nums]
set_option maxHeartbeats 2000000 in
theorem delF_any (g : Nat) (fst lb : Array Value) (p : Int → Bool) (eg : ∀ args w, (callFunc g args).run Try.prog w = .ok (.enter g args) w) (base blk cap : Nat) (xs : List Int) (w : World)
    (hown : w.ownsRow base 3 1 (.slice (some ⟨blk, 0, none⟩) xs.length cap) xs.length (nums .i64 xs))
    (hp : ∀ (W : World) (x : Int), x ∈ xs → Upd w W (· = blk) → Calls Try.prog g (fst ++ #[.int .i64 x] ++ lb) W fun e w' => e = .returned (.bool (p x)) ∧ Below W.heap.size W w') :
    Calls Try.prog 43 #[.slice (some ⟨blk, 0, none⟩) xs.length cap, .func (.func g) fst lb] w fun e w' =>
      e = .returned (.slice (some ⟨blk, 0, none⟩) (xs.filter fun x => !p x).length cap) ∧ w'.ownsRow base 3 1 (.slice (some ⟨blk, 0, none⟩) (xs.filter fun x => !p x).length cap) (xs.filter fun x => !p x).length (nums .i64 (xs.filter fun x => !p x)) ∧ Upd w w' (· = blk) := by
  have hcap : xs.length ≤ cap ∧ cap ≤ 9223372036854775807 := by
    rcases hown.2 with ⟨h, _⟩ | ⟨g', cap', cur, h, _, _, h1, h2, _⟩
    · cases h
    · injection h with _ _ h
      subst h
      exact ⟨h1, by simpa [maxLen] using h2⟩
  obtain ⟨hcap1, hcap2⟩ := hcap
  obtain ⟨A, c, he, hR⟩ := own_reads hown
  have hidx := idxF_any g fst lb p eg (some ⟨blk, 0, none⟩) cap xs w (Kd.C_of_reads (d := (0 : Int)) (h1 := fun _ => rfl) (by injection he with h1 _ _; rw [h1]; exact hR)) (fun W x hx hb => hp W x hx (Upd.of_below hb _))
  have HO := Lib.hid hown; clear hown
  have HP := Lib.hid hp; clear hp
  clear he hR
  by_cases hall : ∀ j (hj : j < xs.length), p xs[j] = false
  · rw [idxP_none hall] at hidx
    have hf : (xs.filter fun x => !p x) = xs := List.filter_eq_self.2 (fun x hx => by
      obtain ⟨j, hj, rfl⟩ := List.getElem_of_mem hx
      simp [hall j hj])
    rw [hf]
    clear hf hall
    go_enter Try.func43, Try.ntmps43
    go_wp2_with (go_at_call 50; refine hidx.mono ?_; rintro e w' ⟨rfl, hb⟩)
    go_ret
    exact ⟨rfl, pw_own_below HO.out hb, Upd.of_below hb _⟩
  · obtain ⟨k, hk, ht, hlow⟩ : ∃ k, ∃ hk : k < xs.length, p xs[k] = true ∧ ∀ j (hj : j < xs.length), j < k → p xs[j] = false := by
      cases hf : xs.findIdx? p with
      | none =>
        rw [List.findIdx?_eq_none_iff] at hf
        exact absurd (fun j hj => hf _ (List.getElem_mem hj)) hall
      | some k =>
        rw [List.findIdx?_eq_some_iff_getElem] at hf
        obtain ⟨hk, ht, h⟩ := hf
        exact ⟨k, hk, ht, fun j _ hj => by simpa using h j hj⟩
    rw [idxP_hit hk hlow ht] at hidx
    have HI := Lib.hid (DelInv.start hk hlow ht)
    clear hall hlow ht
    have hne : ((k : Int) == -1) = false := beq_eq_false_iff_ne.2 (by omega)
    go_enter Try.func43, Try.ntmps43
    go_wp2_with (go_at_call 50; refine hidx.mono ?_; rintro e w' ⟨rfl, hb⟩)
    go_loopw [5, 6, 7] (fun si sj _ wr => ∃ (i j : Nat) (ys : List Int), si = .int .i64 i ∧ sj = .int .i64 j ∧ i < j ∧ j ≤ xs.length ∧ RowKit.Hid (DelInv p xs ys i j) ∧ wr.ownsRow base 3 1 (.slice (some ⟨blk, 0, none⟩) xs.length cap) xs.length (nums .i64 ys) ∧ Upd w wr (· = blk)) (fun _ j _ _ => xs.length - (intOf j).toNat)
    case atStart => exact ⟨k, k + 1, xs, rfl, by go_num, by omega, by omega, HI, pw_own_below HO.out hb, Upd.of_below hb _⟩
    case round =>
      obtain ⟨i, j, ys, rfl, rfl, hij, hj, HD, hO, hU⟩ := hrel
      by_cases hlt : j < xs.length
      · have hget := HD.out.get hlt
        have hyl : j < ys.length := by rw [HD.out.len]; exact hlt
        have hcj := hO.cells (g := blk) rfl j (.int .i64 xs[j]) (by rw [nums_getElem?, List.getElem?_eq_getElem hyl, hget]; rfl)
        rw [add_plain] at hcj
        have hci := own_at hO (i : Int) (by omega) (by omega)
        simp only [Int.toNat_natCast] at hci
        obtain ⟨hci1, hci2⟩ := hci
        have hc := HP.out wr xs[j] (List.getElem_mem hlt) hU
        have hx : RowKit.Hid (∀ q, p xs[j] = q → DelInv p xs (if q then ys else ys.set i xs[j]) (if q then i else i + 1) (j + 1)) := Lib.hid (fun q hq => by
          cases q with
          | true => exact HD.out.skip hlt hq
          | false => exact HD.out.keep hlt hq)
        clear hget hyl
        generalize xs[j] = u at *
        obtain ⟨q, hq⟩ : ∃ q, p u = q := ⟨_, rfl⟩
        rw [hq] at hc
        have HQ := Lib.hid hq; clear hq
        generalize rd ys (i : Int) = old at hci1
        cases q with
        | true =>
          go_wp2_with (go_at_fn g; refine hc.mono ?_; rintro e w2 ⟨rfl, hb2⟩)
          go_roundw
          case rel => exact ⟨i, j + 1, ys, rfl, by go_num, by omega, by omega, Lib.hid (hx.out true HQ.out), pw_own_below hO hb2, hU.then_below hb2⟩
          case measure => simp [intOf]; omega
        | false =>
          have hst := fun w2 (h2 : Below wr.heap.size wr w2) => own_store (pw_own_below hO h2) (i : Int) u
          simp only [Int.toNat_natCast] at hst
          have HS := Lib.hid hst; clear hst
          have hblk : blk < wr.heap.size := own_lt hO blk rfl
          go_wp2_with (go_at_fn g; refine hc.mono ?_; rintro e w2 ⟨rfl, hb2⟩; have hci3 := (hb2.cell (p := ⟨blk, i, none⟩) hblk).trans hci1; have hci4 := (hb2.frozen (p := ⟨blk, i, none⟩) hblk).trans hci2)
          go_roundw
          case rel => exact ⟨i + 1, j + 1, ys.set i u, by go_num, by go_num, by omega, by omega, Lib.hid (hx.out false HQ.out), (HS.out _ hb2).1, (hU.then_below hb2).setCell (p := ⟨blk, i, none⟩) (.inl rfl) _⟩
          case measure => simp [intOf]; omega
      · obtain rfl : j = xs.length := by omega
        have hcl : ∀ ty, (Builtin.clear_ #[23] ty #[.slice (some ⟨blk, i, none⟩) (xs.length - i) (cap - i)]).run Try.prog wr = .ok (.tuple #[]) (wr.setCells blk i (List.replicate (xs.length - i) (.int .i64 0))) := fun ty =>
          Lib.run_clear_slice wr _ _ ty _ Try.underlying23 Try.zeroValue3 rfl rfl blk i _ _ (by omega) (fun t ht => by
            have h := (own_at hO ((i + t : Nat) : Int) (by omega) (by omega)).1
            rw [Int.toNat_natCast] at h
            rw [h]; rfl) (fun t ht => by
            have h := (own_at hO ((i + t : Nat) : Int) (by omega) (by omega)).2
            rwa [Int.toNat_natCast] at h)
        have hsz := HD.out.size
        go_wp2
        go_ret
        obtain ⟨zs, hz, ht⟩ := own_setCells (List.replicate (xs.length - i) (.int .i64 0)) i wr _ hO
        have h2 := own_take hz (m := i) (by omega)
        have e : zs.take (i * 1) = nums .i64 (xs.filter fun x => !p x) := by
          rw [Nat.mul_one, ht, ← HD.out.done]; simp [nums, List.map_take]
        rw [e] at h2
        rw [hsz]
        exact ⟨rfl, h2, hU.setCells (.inl rfl) _ _⟩
theorem delF_nil (g : Nat) (fst lb : Array Value) (eg : ∀ args w, (callFunc g args).run Try.prog w = .ok (.enter g args) w) (w : World) :
    Calls Try.prog 43 #[.slice none 0 0, .func (.func g) fst lb] w fun e w' => e = .returned (.slice none 0 0) ∧ Below w.heap.size w w' := by
  have hidx := idxF_any g fst lb (fun _ => false) eg none 0 [] w (Kd.C_nil _ _) (fun W x hx => by cases hx)
  have e : idxP (fun _ : Int => false) [] = -1 := rfl
  rw [e] at hidx
  simp only [List.length_nil] at hidx
  clear e
  go_enter Try.func43, Try.ntmps43
  go_wp2_with (go_at_call 50; refine hidx.mono ?_; rintro e w' ⟨rfl, hb⟩)
  go_ret
  exact ⟨rfl, hb⟩
/-- DeleteFunc of a row of the call's own, nil too. -/
theorem delF_own (g : Nat) (fst lb : Array Value) (p : Int → Bool) (eg : ∀ args w, (callFunc g args).run Try.prog w = .ok (.enter g args) w) (base : Nat) (v : Value) (xs : List Int) (w w0 : World)
    (hown : w.ownsRow base 3 1 v xs.length (nums .i64 xs)) (hb : Below base w0 w) (hbs : base ≤ w.heap.size)
    (hp : ∀ (W : World) (x : Int), x ∈ xs → Below base w0 W → Calls Try.prog g (fst ++ #[.int .i64 x] ++ lb) W fun e w' => e = .returned (.bool (p x)) ∧ Below W.heap.size W w') :
    Calls Try.prog 43 #[v, .func (.func g) fst lb] w fun e w' => ∃ v', e = .returned v' ∧ w'.ownsRow base 3 1 v' (xs.filter fun x => !p x).length (nums .i64 (xs.filter fun x => !p x)) ∧ Below base w0 w' := by
  have hg := hown
  rcases hg.2 with ⟨rfl, h0⟩ | ⟨blk, cap, cur, rfl, hbb, hgb, _⟩
  · obtain rfl : xs = [] := List.eq_nil_of_length_eq_zero h0
    exact (delF_nil g fst lb eg w).mono fun e w' ⟨he, h⟩ => ⟨_, he, own_nil _ _ _ _, hb.trans (h.mono hbs)⟩
  · have hU : ∀ W, Upd w W (· = blk) → Below base w0 W := fun W h => hb.trans (h.below hbs (fun k hk e => by omega))
    exact (delF_any g fst lb p eg base blk cap xs w hown (fun W x hx h => hp W x hx (hU W h))).mono fun e w' ⟨he, ho, h⟩ => ⟨_, he, ho, hU w' h⟩
end Go.Proofs.Ytmljpidhhiineaa.P
