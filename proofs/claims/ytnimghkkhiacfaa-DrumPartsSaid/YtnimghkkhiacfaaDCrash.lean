/- A drum: Crash. -/
import Derived.Test.YtnimghkkhiacfaaDCrashA
namespace Go.Proofs.Ytnimghkkhiacfaa.P
open Go.RowKit Go.Maps Go.Proofs.YtnimghkkhiacfaaW.PrintWords Go.Proofs.YtnimghkkhiacfaaW.PrintLast Go.Proofs.YtnimghkkhiacfaaW.PrintMore
attribute [local go_sem] max2_int min2_int max_two min_two
/-- the tail that counts for a file. -/
def tailOf (l : List S33) (n : Int) : S33 := if 0 ≤ idxT n l then rd_T33 l (idxT n l) else z33
def keepI (t : S33) (r : List Int) : Int := if (r.length : Int) < t.f1 then (r.length : Int) else t.f1
def keepN (t : S33) (r : List Int) : Nat := (if 0 < keepI t r then keepI t r else 0).toNat
def xor8 (a b : Int) : Int := bits .xor .u8 a b
def turnP (xs : List Int) (t : Int) : List Int := if xs = [] then [] else xs.set (xs.length - 1) (xor8 (xs.getD (xs.length - 1) 0) t)
def crashX (t : S33) (x : List Int × List Int) : List Int × List Int := (x.1 ++ turnP (x.2.take (keepN t x.2)) t.f2, [])
def crashF (l : List S33) (F : Files) : Files := fun n => (F n).map fun x => crashX (tailOf l n) x
def mixF (l : List S33) (F : Files) (lf : Lit → Bool) : Files := fun n => (F n).map fun x => if lf (kI n) then x else crashX (tailOf l n) x
theorem mixF_start {l : List S33} {F : Files} {lf : Lit → Bool} (h : ∀ n, (F n).isSome = true → lf (kI n) = true) : mixF l F lf = F := by
  funext n
  unfold mixF
  cases hF : F n with
  | none => rfl
  | some x => simp [h n (by rw [hF]; rfl)]
theorem mixF_end {l : List S33} {F : Files} {lf : Lit → Bool} (h : ∀ k, lf k = false) : mixF l F lf = crashF l F := by
  funext n
  unfold mixF crashF
  cases F n <;> simp [h]
theorem mixF_at {l : List S33} {F : Files} {lf : Lit → Bool} {x : Int} (h : lf (kI x) = true) : mixF l F lf x = F x := by
  unfold mixF
  cases F x <;> simp [h]
theorem mixF_step {l : List S33} {F : Files} {lf : Lit → Bool} {x : Int} {y : List Int × List Int} (hF : F x = some y) : upF (mixF l F lf) x (some (crashX (tailOf l x) y)) = mixF l F (fun z => lf z && !z.sameKey (kI x)) := by
  funext n
  by_cases e : n = x
  · subst e
    rw [upF_same]
    unfold mixF
    rw [hF]
    simp [WideAt.sameKey_self (kI_key n)]
  · rw [upF_other _ _ e]
    unfold mixF
    simp [sameKey_ne (fun h => e (kI_inj h))]
theorem idxT_lt {n : Int} {l : List S33} (h : 0 ≤ idxT n l) : idxT n l < l.length := by
  unfold idxT idxP at *
  split at h
  · rename_i i hi
    have := (List.findIdx?_eq_some_iff_getElem.1 hi).1
    omega
  · omega
set_option maxRecDepth 100000
theorem j_one {j : Nat} (h : (j : Int) + 1 ≤ 4194304) : wrap64 ((j : Int) + 1 - 1) = j := by rw [w64 (by omega) (by omega)]; omega
theorem j_two {j : Nat} (h : (j : Int) + 1 ≤ 4194304) : wrap64 (j : Int) = j := w64 (by omega) (by omega)
theorem j_three {j : Nat} (h : (j : Int) + 1 ≤ 4194304) : IntKind.i64.wrap (j : Int) = j := by rw [Go.IntWalk.i64_left]; exact j_two h
theorem pos_dec (j : Nat) : decide ((0 : Int) < (j : Int) + 1) = true := decide_eq_true (by omega)
theorem Row.at_ {w : World} {A : Option Addr} {c j : Nat} {r : List Int} (h : Row w (.slice A r.length c) r) (hj : j < r.length) : ∃ gr : Nat, A = some ⟨gr, 0, none⟩ ∧ w.cell? ⟨gr, j, none⟩ = some (.int .u8 (r.getD j 0)) ∧ w.frozen? ⟨gr, j, none⟩ = false := by
  have hr := own_reads' h
  obtain ⟨_, h⟩ := h
  rcases h with ⟨e, hn⟩ | ⟨g, cap, cur, e, _, hb, _, _⟩
  · omega
  · injection e with e
    obtain ⟨ad, h1, h2⟩ := hr.2.2 (by omega)
    rw [e] at h1
    injection h1 with h1
    subst h1
    have := h2 j hj
    rw [add_plain] at this
    exact ⟨g, e, this, Blk.frozen (cs := cur) (t := 5) hb j⟩
theorem own_unique {w : World} {P : Program} {k b n n' : Nat} {R : Value → Option (HD × List MemPlace)} {D D' : HD} (h : w.ownsMap P k R b n D) (h' : w.ownsMap P k R b n' D') : D = D' := by
  obtain ⟨es, clock, hb, _, _, rfl⟩ := h
  obtain ⟨es', clock', hb', _, _, rfl⟩ := h'
  rw [hb] at hb'
  cases hb'
  rfl
theorem ranges_upd {w w' : World} {S : Nat → Prop} {P : Program} {k b r n cnt : Nat} {R : Value → Option (HD × List MemPlace)} {D : HD} {left : Lit → Bool} (h : w.ranges P k R b r n D left cnt) (hu : Upd w w' S) (hb : ¬ S b) (hr : ¬ S r) : w'.ranges P k R b r n D left cnt := by
  have h1 := h.owns.lt
  have h2 := h.lt
  obtain ⟨es, clock, since, seen, c0, hb', F, hs, hD, hr', rest⟩ := h
  exact ⟨es, clock, since, seen, c0, (hu.block b h1 hb).trans hb', F, hs, hD, (hu.block r h2 hr).trans hr', rest⟩
theorem upd_then {a b c : World} {S T : Nat → Prop} (h : Upd a b S) (h' : Upd b c T) (hs : ∀ k, T k → S k ∨ a.heap.size ≤ k) : Upd a c S :=
  ((h.mono fun _ _ hk => Or.inl hk).trans (h'.mono fun k _ hk => hs k hk) : Upd a c (fun k => S k ∨ a.heap.size ≤ k)).mono fun k hlt hk => by
    rcases hk with hk | hk
    · exact hk
    · omega
theorem below_setCell_new {B : Nat} {a b : World} (h : Below B a b) {k : Nat} (hk : B ≤ k) (u : Value) : Below B a (b.setCell ⟨k, 0, none⟩ u) :=
  ⟨h.os, h.tape, h.output, by simpa [World.setCell] using h.size, fun i hi => (Below.heap_setCell _ _ _ _ (by intro e; simp at e; omega)).trans (h.block i hi)⟩
section
variable {w w' : World} {o : Nat → Int} {g mb : Nat} {F : Files} {room : Nat} {left ops : Int} {dead : Bool}
/-- an entry that comes is a file's. -/
theorem crash_entry {l : List S33} {lf : Lit → Bool} {x : Int} {v : Value} {n : Nat} {D : HD} (hd : DrumIs w o g mb (mixF l F lf) room left dead ops) (hown : w.ownsMap Try.prog 3 heldR mb n D) (_hl : lf (.int .i64 x) = true) (hat : ∀ zd : HD, D.atKey (.int .i64 x) zd = .held v) :
    ∃ y, mixF l F lf x = some y ∧ ∃ fb : Int → Nat, v = .pointer (some ⟨fb x, 0, none⟩) ∧ MI w mb (ptrs (mixF l F lf) fb) ∧ ∀ n x, mixF l F lf n = some x → FileAt w o n (fb n) x.1 x.2 := by
  obtain ⟨fb, hm, hfs⟩ := hd.ex
  have hm' := hm
  obtain ⟨D1, hown1, hD1⟩ := hm
  obtain rfl := own_unique hown hown1
  have h1 := (hD1.2 x).2
  cases hF : mixF l F lf x with
  | none =>
    have hp : ptrs (mixF l F lf) fb x = none := by simp [ptrs, hF]
    rw [hp] at h1
    have a := (h1 (.bool true)).symm.trans (hat _)
    have b := (h1 (.bool false)).symm.trans (hat _)
    rw [← b] at a
    simp at a
  | some y =>
    have hp : ptrs (mixF l F lf) fb x = some (.pointer (some ⟨fb x, 0, none⟩)) := by simp [ptrs, hF]
    rw [hp] at h1
    have a := (h1 (.bool true)).symm.trans (hat _)
    simp only [Option.getD_some, DataW.held.injEq] at a
    exact ⟨y, rfl, fb, a.symm, hm', hfs⟩
def CrRel (W0 : World) (o : Nat → Int) (g mb rb n : Nat) (D : HD) (l : List S33) (F : Files) (room : Nat) (ops : Int) (wr : World) : Prop :=
  ∃ (lf : Lit → Bool) (cnt : Nat) (o1 : Nat → Int), wr.ranges Try.prog 3 heldR mb rb n D lf cnt ∧ DrumIs wr o1 g mb (mixF l F lf) room (-1) false ops ∧ (∀ k, k ≤ W0.heap.size → o1 k = o k) ∧ Upd W0 wr (mine o g mb)
theorem crash_eq {t : S33} {s r ks : List Int} {j : Nat} {xv : Int} (hk : keepN t r = j + 1) (hj : j + 1 ≤ r.length) (hx : bits BinOp.xor IntKind.u8 (r[j]?.getD 0) t.f2 = xv) (hks : (r.set j xv).take (j + 1) = ks) : crashX t (s, r) = (s ++ ks, []) := by
  unfold crashX
  rw [hk, ← hks, (turn_set r j xv hj).1]
  have hl : (r.take (j + 1)).length = j + 1 := by rw [List.length_take]; omega
  have hne : r.take (j + 1) ≠ [] := fun e => by rw [e] at hl; simp at hl
  simp only [turnP, hne, if_false, hl, Nat.add_sub_cancel]
  rw [show (r.take (j + 1)).getD j 0 = r[j]?.getD 0 by rw [List.getD_eq_getElem?_getD, List.getElem?_take_of_lt (Nat.lt_succ_self j)]]
  unfold xor8
  rw [hx]
theorem crash_eq0 {t : S33} {s r : List Int} (hk : keepN t r = 0) : crashX t (s, r) = (s ++ [], []) := by
  unfold crashX
  rw [hk]
  simp [turnP]
theorem round_done {W0 wr w6 wf : World} {o o1 : Nat → Int} {g mb n cnt cnt2 : Nat} {D : HD} {l : List S33} {F : Files} {lf : Lit → Bool} {room : Nat} {ops x : Int} {s r : List Int} (h0 : DrumIs W0 o g mb F room (-1) false ops)
    (hrg : wr.ranges Try.prog 3 heldR mb W0.heap.size n D lf cnt) (ho1 : ∀ k, k ≤ W0.heap.size → o1 k = o k) (hrg6 : w6.ranges Try.prog 3 heldR mb W0.heap.size n D (fun z => lf z && !z.sameKey (kI x)) cnt2) (hlt : cnt2 < cnt) (hw6 : Upd W0 w6 (mine o g mb))
    (hd6 : DrumIs w6 o1 g mb (mixF l F lf) room (-1) false ops) (hF : F x = some (s, r)) (hx : 1 ≤ x) (hdone : Did w6 wf o1 g mb (upF (mixF l F lf) x (some (crashX (tailOf l x) (s, r)))) room (-1) false ops ∧ Upd w6 wf (fun k => k = g ∨ o1 k = x)) :
    CrRel W0 o g mb W0.heap.size n D l F room ops wf ∧ wf.rangeLeft mb W0.heap.size < wr.rangeLeft mb W0.heap.size := by
  obtain ⟨⟨o2, hd2, ho2, hu2⟩, hu3⟩ := hdone
  have hrf := ranges_upd hrg6 hu3 (fun e => by
    rcases e with e | e
    · exact hd6.ne e.symm
    · have := hd6.zm; omega) (fun e => by
    rcases e with e | e
    · have := h0.glt; omega
    · rw [ho1 _ (Nat.le_refl _)] at e
      have := h0.lt W0.heap.size (by omega)
      omega)
  have hlt6 := hrg6.lt
  refine ⟨⟨_, cnt2, o2, hrf, ?_, fun k hk => (ho2 k (by omega)).trans (ho1 k hk), upd_then hw6 hu2 fun k hk => ?_⟩, ?_⟩
  · rw [← mixF_step hF]; exact hd2
  · by_cases hk0 : k ≤ W0.heap.size
    · left
      rcases hk with e | e | e
      · exact .inl e
      · exact .inr (.inl e)
      · exact .inr (.inr (by rw [← ho1 k hk0]; exact e))
    · right; omega
  · rw [hrf.left_eq, hrg.left_eq]; exact hlt
set_option maxHeartbeats 4000000 in
set_option maxRecDepth 100000 in
theorem drCrash_any (h : DrumIs w o g mb F room left dead ops) {A : Option Addr} {c : Nat} {l : List S33} (hC : ∀ W, Upd w W (mine o g mb) → Kd.C k33 W A l.length l) :
    Calls Try.prog 13 #[dptr g, .slice A l.length c] w fun e w' => e = .returned (.tuple #[]) ∧ Did w w' o g mb (crashF l F) room (-1) false ops := by
  have hB := h.blk
  have hz3 := hB.frozen 3
  have hc3 : w.cell? ⟨g, 3, none⟩ = some (.bool dead) := hB.cell 3
  have hB1 := hB.set_ 3 (.bool false)
  have hz2 := hB1.frozen 2
  have hc2 : (w.setCell ⟨g, 3, none⟩ (.bool false)).cell? ⟨g, 2, none⟩ = some (.int .i64 left) := hB1.cell 2
  obtain ⟨W0, hW0⟩ : ∃ W0, (w.setCell ⟨g, 3, none⟩ (.bool false)).setCell ⟨g, 2, none⟩ (.int .i64 (-1)) = W0 := ⟨_, rfl⟩
  have hu0 : Upd w W0 (· = g) := hW0 ▸ ((Upd.refl w (· = g)).setCell (p := ⟨g, 3, none⟩) (.inl rfl) (.bool false)).setCell (p := ⟨g, 2, none⟩) (.inl rfl) (.int .i64 (-1))
  have hB0 : Blk W0 g 64 #[.map (some mb), .int .i64 (room - sumF F), .int .i64 (-1), .bool false, .int .i64 ops] := hW0 ▸ hB1.set_ 2 (.int .i64 (-1))
  have h0 := h.turn hu0 hB0
  have hc0 : W0.cell? ⟨g, 0, none⟩ = some (.map (some mb)) := hB0.cell 0
  obtain ⟨fb, hm, hfs⟩ := h0.ex
  obtain ⟨D, hown, hD⟩ := hm
  have hCW := fun W (hu : Upd W0 W (mine o g mb)) => hC W ((hu0.mono fun _ _ h => .inl h).trans hu)
  have HC := Lib.hid hCW; have H0 := Lib.hid h0; have HU0 := Lib.hid hu0; have HD := Lib.hid hD
  clear hC hCW h hB hB1 hu0 hB0 h0 hfs hD
  go_enter Try.func13, Try.ntmps13
  go_wp2_with (first
    | (at_range; refine wpList_range_own _ rfl (.tmp 21) 62 rfl 3 67 int_law Try.underlying62 _ mb _ D rfl hown ?_; intro w1 hrg1 hg1 hs1)
    | go_in)
  go_frame
  have hu1 : Upd W0 w1 (fun _ => False) := Upd.of_grown hg1 (fun k hk => by cases hk)
  go_loopw [24] (fun _ wr => CrRel W0 o g mb W0.heap.size (Maps.size D) D l F room ops wr) (fun _ wr => wr.rangeLeft mb W0.heap.size)
  case atStart =>
    refine ⟨_, _, o, hrg1, ?_, fun _ _ => rfl, hu1.mono fun _ _ h => h.elim⟩
    rw [mixF_start fun n hn => ?_]
    · exact H0.out.upd hu1 (fun _ _ h => h)
    · rw [(HD.out.2 n).1]
      unfold ptrs
      cases hF : F n with
      | none => rw [hF] at hn; cases hn
      | some x => rfl
  case round =>
    clear hrg1 hg1 hu1 hown hs1
    obtain ⟨lf, cnt, o1, hrg, hd, ho1, hu⟩ := hrel
    go_wp2_with (first
      | (at_next; refine wpList_next_ranges _ rfl (.tmp 22) rfl 3 int_law heldR (Value.int .i64) (fun v : Value => v) (fun key kl hk => by obtain ⟨x, rfl, _⟩ := Maps.keyOf_int_inv Try.underlying3 hk; exact ⟨x, rfl⟩) (fun v y _ => ⟨v, rfl⟩) mb W0.heap.size _ D _ _ rfl hrg ?_ ?_)
      | go_in)
    · intro _ hl0
      go_wp2
      go_end0
      rw [mixF_end hl0] at hd
      exact ⟨rfl, o1, hd, fun k hk => ho1 k (by have := HU0.out.size; omega), (HU0.out.mono fun _ _ h => .inl h).trans hu⟩
    · intro x v kl yd yp w2 cnt2 hkey hlx hRv hat hrg2 hlt2 hg2 hs2 hen
      obtain ⟨x', ex, rfl, hwx⟩ := Maps.keyOf_int_inv Try.underlying3 hkey
      cases ex
      unfold heldR at hRv
      injection hRv with hRv
      injection hRv with hRv _
      subst hRv
      obtain ⟨y, hF1, hv⟩ := crash_entry hd hrg.owns hlx hat
      have hF := hF1
      rw [mixF_at hlx] at hF
      obtain ⟨fbx, hvx⟩ := hv
      obtain ⟨s, r⟩ := y
      obtain ⟨rfl, hfile⟩ := hvx
      have hrb : ¬ mine o1 g mb W0.heap.size := by
        rintro (e | e | e)
        · have := H0.out.glt; omega
        · have := H0.out.mlt; omega
        · rw [ho1 _ (Nat.le_refl _)] at e; have := H0.out.lt _ e; omega
      have hu2 : Upd wr w2 (· = W0.heap.size) := Upd.of_grown hg2 (fun k hk => by injection hk with hk; exact hk.symm)
      have hd2 := hd.upd hu2 (fun k hk e => hrb (e ▸ hk))
      have hw2 : Upd W0 w2 (mine o g mb) := upd_then hu hu2 (fun k e => .inr (Nat.le_of_eq e.symm))
      have hbn := hd2.fresh (Nat.le_refl w2.heap.size)
      obtain ⟨w4, hw4⟩ : ∃ w4, (w2.alloc (.cells #[.int .i64 x] 3)).alloc (.cells #[.int .i64 0, .int .i64 0, .int .u8 0] 33) = w4 := ⟨_, rfl⟩
      have hb24 : Below w2.heap.size w2 w4 := hw4 ▸ ((Below.refl _ w2).alloc (Nat.le_refl _) _).alloc (by simp) _
      have hN4 : Blk w4 w2.heap.size 3 #[.int .i64 x] := hw4 ▸ (Blk.new w2 3 #[.int .i64 x]).alloc _
      have hT4 : Blk w4 (w2.heap.size + 1) 33 #[.int .i64 0, .int .i64 0, .int .u8 0] := by
        have := Blk.new (w2.alloc (.cells #[.int .i64 x] 3)) 33 #[.int .i64 0, .int .i64 0, .int .u8 0]
        rw [hw4] at this
        simpa using this
      have hidx := tailIdx_any A c l x w2.heap.size w4 (HC.out w4 (upd_then hw2 (Upd.of_below hb24 (fun _ => False)) (fun _ h => h.elim))) (hN4.cell 0)
      have HIDX := Lib.hid hidx
      have hz4 : w4.heap.size = w2.heap.size + 2 := by rw [← hw4]; simp
      clear hidx hs2 hkey hat
      go_upto_region 7 with fail
      refine HIDX.out.mono ?_
      rintro e w5 ⟨rfl, hb5⟩
      go_upto_region 7 with fail
      have hb25 : Below w2.heap.size w2 w5 := hb24.trans (hb5.mono hb24.size)
      have hd5 := hd2.below hb25
      have hT5 := hT4.below hb5 hT4.lt
      have hw5 : Upd W0 w5 (mine o g mb) := upd_then hw2 (Upd.of_below hb25 (fun _ => False)) (fun _ h => h.elim)
      have hf5 := hfile.2 x (s, r) hF1
      have hf5 := (hf5.upd hu2 (fun k hk e => hrb (.inr (.inr (by subst e; have := (hd.key x _ hF1).1; omega))))).upd (Upd.of_below hb25 (fun _ => False)) (fun _ _ h => h)
      have HB25 := Lib.hid hb25
      have hfile0 := hfile
      clear hb24 hN4 hT4 hw4 hfile hb5
      by_cases hi : 0 ≤ idxT x l
      · have hix : idxT x l < l.length := idxT_lt hi
        obtain ⟨ad, rfl, hx0, hx1, hx2⟩ := at_T33 (HC.out w5 hw5) (idxT x l) hi hix
        have htl : rd_T33 l (idxT x l) = tailOf l x := (if_pos hi).symm
        rw [htl] at hx0 hx1 hx2
        clear htl
        generalize htl : tailOf l x = t at *
        have HTL := Lib.hid htl; clear htl
        obtain ⟨q, hq⟩ : ∃ q : Nat, idxT x l = q := ⟨(idxT x l).toNat, by omega⟩
        rw [hq] at hx0 hx1 hx2 hi hix ⊢
        simp only [Int.toNat_natCast] at hx0 hx1 hx2
        clear hq
        have hz0 := hT5.frozen 0; have hz1 := hT5.frozen 1; have hz2' := hT5.frozen 2
        have hc50 : w5.cell? ⟨w2.heap.size + 1, 0, none⟩ = some (.int .i64 0) := hT5.cell 0
        have hc51 : w5.cell? ⟨w2.heap.size + 1, 1, none⟩ = some (.int .i64 0) := hT5.cell 1
        have hc52 : w5.cell? ⟨w2.heap.size + 1, 2, none⟩ = some (.int .u8 0) := hT5.cell 2
        obtain ⟨w6, hw6⟩ : ∃ w6, ((w5.setCell ⟨w2.heap.size + 1, 0, none⟩ (.int .i64 t.f0)).setCell ⟨w2.heap.size + 1, 1, none⟩ (.int .i64 t.f1)).setCell ⟨w2.heap.size + 1, 2, none⟩ (.int .u8 t.f2) = w6 := ⟨_, rfl⟩
        have hu56 : Upd w5 w6 (· = w2.heap.size + 1) := hw6 ▸ (((Upd.refl w5 (· = w2.heap.size + 1)).setCell (p := ⟨w2.heap.size + 1, 0, none⟩) (.inl rfl) (.int .i64 t.f0)).setCell (p := ⟨w2.heap.size + 1, 1, none⟩) (.inl rfl) (.int .i64 t.f1)).setCell (p := ⟨w2.heap.size + 1, 2, none⟩) (.inl rfl) (.int .u8 t.f2)
        have hT6 : Blk w6 (w2.heap.size + 1) 33 #[.int .i64 t.f0, .int .i64 t.f1, .int .u8 t.f2] := hw6 ▸ (((hT5.set_ 0 (.int .i64 t.f0)).set_ 1 (.int .i64 t.f1)).set_ 2 (.int .u8 t.f2))
        have HT6 := Lib.hid hT6; have HU56 := Lib.hid hu56
        clear hT6 hu56 hT5
        go_upto_region 9 with fail
        clear hw6 hz0 hz1 hz2' hc50 hc51 hc52 hx0 hx1 hx2
        have hd6 := hd5.upd HU56.out (fun k hk e => hd2.fresh (b := w2.heap.size + 1) (by omega) (e ▸ hk))
        have hf6 : FileAt w6 o1 x (fbx x) s r := hf5.upd HU56.out (fun k hk e => hd2.fresh (b := w2.heap.size + 1) (by omega) (.inr (.inr (by have := (hd.key x _ hF1).1; rw [← e, hk]; omega))))
        have hw6 : Upd W0 w6 (mine o g mb) := upd_then hw5 HU56.out (fun k e => .inr (by have := hw2.size; omega))
        have HRG6 := Lib.hid (ranges_upd (ranges_upd hrg2 (Upd.of_below HB25.out (fun _ => False)) (fun h => h) (fun h => h)) HU56.out (fun e => by have := hd.mlt; have := hu2.size; omega) (fun e => by have := hrg.lt; have := hu2.size; omega))
        have HM6 := Lib.hid (And.intro (((hfile0.1.upd hu2 (fun e => hrb (.inr (.inl e.symm)))).upd (Upd.of_below HB25.out (fun _ => False)) (fun h => h)).upd HU56.out (fun e => by have := hd.mlt; have := hu2.size; omega)) (fun n y hy => ((hfile0.2 n y hy).upd hu2 (fun k hk e => hrb (.inr (.inr (by subst e; have := (hd.key n _ hy).1; omega))))).upd (Upd.of_below HB25.out (fun _ => False)) (fun _ _ h => h) |>.upd HU56.out (fun k hk e => hd2.fresh (b := w2.heap.size + 1) (by omega) (.inr (.inr (by have := (hd.key n _ hy).1; rw [← e, hk]; omega))))))
        clear hd5 hf5 hw5
        obtain ⟨hofn, vs, vr, hBf, hRs, hRr, hos, hor, hsr⟩ := hf6
        obtain ⟨Ar, cr, rfl, hrd⟩ := hRr.reads
        obtain ⟨As, cs, rfl, _⟩ := hRs.reads
        have hcr := hRr.C.1
        have hc1 : w6.cell? ⟨fbx x, 1, none⟩ = some (.slice Ar r.length cr) := hBf.cell 1
        have hct : w6.cell? ⟨w2.heap.size + 1, 1, none⟩ = some (.int .i64 t.f1) := HT6.out.cell 1
        have hszr := szF_le (mixF l F lf) (n := x) (by have := (hd.key x _ hF1).1; omega) (hd.key x _ hF1).2
        rw [hF1] at hszr
        simp only [szF] at hszr
        have HR4 : RowKit.Hid (s.length + r.length ≤ 4194304) := Lib.hid (by have := hd.fit; have := hd.big; omega)
        clear hszr
        obtain ⟨m, hm1⟩ : ∃ m, (if (r.length : Int) < t.f1 then (r.length : Int) else t.f1) = m := ⟨_, rfl⟩
        obtain ⟨k, hm2⟩ : ∃ k : Nat, (if 0 < m then m else 0) = (k : Int) := ⟨(if 0 < m then m else 0).toNat, by split <;> omega⟩
        have hkl : k ≤ r.length := by
          have h1 : m ≤ r.length := by rw [← hm1]; split <;> omega
          split at hm2 <;> omega
        have hkc : (k : Int) ≤ cr := by omega
        have HK : RowKit.Hid (keepN t r = k) := Lib.hid (by
          unfold keepN keepI
          rw [hm1, hm2]
          simp)
        have HX := Lib.hid (And.intro hofn (And.intro hBf (And.intro hRs (And.intro hRr (And.intro hos (And.intro hor (And.intro hsr hrd)))))))
        clear hofn hBf hRs hRr hos hor hsr hrd
        by_cases hk0 : k = 0
        · subst hk0
          clear hkl
          refine wp_region_held (S := (fun W => W.cell? ⟨fbx x, 1, none⟩ = some (.slice Ar r.length cr) ∧ W.cell? ⟨w2.heap.size + 1, 1, none⟩ = some (.int .i64 t.f1))) (by kernel_rfl) ?_
          simp only [List.size_toArray, List.length_cons, List.length_nil, Nat.zero_add, Nat.reduceAdd]
          have hHeld : ((fun W => W.cell? ⟨fbx x, 1, none⟩ = some (.slice Ar r.length cr) ∧ W.cell? ⟨w2.heap.size + 1, 1, none⟩ = some (.int .i64 t.f1))) w6.drew := ⟨hc1, hct⟩
          refine wpAnyH_take (i := 0) (v := ?_) rfl (by kernel_rfl) (by kernel_rfl) (by kernel_rfl) (fun _ _ _ h => h) (Or.inl ⟨by rfl, ?_⟩) (by assumption) ?_
          rotate_left
          · (intro w hSw; (try dsimp only at hSw); go_split_ands; go_simp; try with_reducible rfl)
          try simp only [List.getElem_toArray, List.getElem_cons_succ, List.getElem_cons_zero, Act.put, List.setIfInBounds_toArray, List.set_cons_zero, List.set_cons_succ]
          refine wpAnyH_take (i := 1) (v := ?_) rfl (by kernel_rfl) (by kernel_rfl) (by kernel_rfl) (fun _ _ _ h => h) (Or.inl ⟨by rfl, ?_⟩) (by assumption) ?_
          rotate_left
          · (intro w hSw; (try dsimp only at hSw); go_split_ands; go_simp; try with_reducible rfl)
          try simp only [List.getElem_toArray, List.getElem_cons_succ, List.getElem_cons_zero, Act.put, List.setIfInBounds_toArray, List.set_cons_zero, List.set_cons_succ]
          refine wpAnyH_take (i := 2) (v := ?_) rfl (by kernel_rfl) (by kernel_rfl) (by kernel_rfl) (fun _ _ _ h => h) (Or.inl ⟨by rfl, ?_⟩) (by assumption) ?_
          rotate_left
          · (intro w hSw; (try dsimp only at hSw); go_split_ands; go_simp; try with_reducible rfl)
          try simp only [List.getElem_toArray, List.getElem_cons_succ, List.getElem_cons_zero, Act.put, List.setIfInBounds_toArray, List.set_cons_zero, List.set_cons_succ]
          refine wpAnyH_take (i := 3) (v := ?_) rfl (by kernel_rfl) (by kernel_rfl) (by kernel_rfl) (fun _ _ _ h => h) (Or.inl ⟨by rfl, ?_⟩) (by assumption) ?_
          rotate_left
          · (intro w hSw; (try dsimp only at hSw); go_split_ands; go_simp; try with_reducible rfl)
          try simp only [List.getElem_toArray, List.getElem_cons_succ, List.getElem_cons_zero, Act.put, List.setIfInBounds_toArray, List.set_cons_zero, List.set_cons_succ]
          refine wpAnyH_take (i := 4) (v := ?_) rfl (by kernel_rfl) (by kernel_rfl) (by kernel_rfl) (fun _ _ _ h => h) (Or.inl ⟨by rfl, ?_⟩) (by assumption) ?_
          rotate_left
          · (intro w hSw; (try dsimp only at hSw); go_split_ands; go_simp; try with_reducible rfl)
          try simp only [List.getElem_toArray, List.getElem_cons_succ, List.getElem_cons_zero, Act.put, List.setIfInBounds_toArray, List.set_cons_zero, List.set_cons_succ]
          refine wpAnyH_take (i := 5) (v := ?_) rfl (by kernel_rfl) (by kernel_rfl) (by kernel_rfl) (fun _ _ _ h => h) (Or.inl ⟨by rfl, ?_⟩) (by assumption) ?_
          rotate_left
          · (intro w hSw; (try dsimp only at hSw); go_split_ands; go_simp; try with_reducible rfl)
          try simp only [List.getElem_toArray, List.getElem_cons_succ, List.getElem_cons_zero, Act.put, List.setIfInBounds_toArray, List.set_cons_zero, List.set_cons_succ]
          refine wpAnyH_take (i := 6) (v := ?_) rfl (by kernel_rfl) (by kernel_rfl) (by kernel_rfl) (fun _ _ _ h => h) (Or.inl ⟨by rfl, ?_⟩) (by assumption) ?_
          rotate_left
          · (intro w hSw; (try dsimp only at hSw); go_split_ands; go_simp; try with_reducible rfl)
          try simp only [List.getElem_toArray, List.getElem_cons_succ, List.getElem_cons_zero, Act.put, List.setIfInBounds_toArray, List.set_cons_zero, List.set_cons_succ]
          refine wpAnyH_take (i := 7) (v := ?_) rfl (by kernel_rfl) (by kernel_rfl) (by kernel_rfl) (fun _ _ _ h => h) (Or.inl ⟨by rfl, ?_⟩) (by assumption) ?_
          rotate_left
          · (intro w hSw; (try dsimp only at hSw); go_split_ands; go_simp; try with_reducible rfl)
          try simp only [List.getElem_toArray, List.getElem_cons_succ, List.getElem_cons_zero, Act.put, List.setIfInBounds_toArray, List.set_cons_zero, List.set_cons_succ]
          refine wpAnyH_take (i := 8) (v := ?_) rfl (by kernel_rfl) (by kernel_rfl) (by kernel_rfl) (fun _ _ _ h => h) (Or.inl ⟨by rfl, ?_⟩) (by assumption) ?_
          rotate_left
          · (intro w hSw; (try dsimp only at hSw); go_split_ands; go_simp; try with_reducible rfl)
          try simp only [List.getElem_toArray, List.getElem_cons_succ, List.getElem_cons_zero, Act.put, List.setIfInBounds_toArray, List.set_cons_zero, List.set_cons_succ]
          refine wpAnyH_take (i := 9) (v := ?_) rfl (by kernel_rfl) (by kernel_rfl) (by kernel_rfl) (fun _ _ _ h => h) (Or.inl ⟨by rfl, ?_⟩) (by assumption) ?_
          rotate_left
          · (intro w hSw; (try dsimp only at hSw); go_split_ands; go_simp; try with_reducible rfl)
          try simp only [List.getElem_toArray, List.getElem_cons_succ, List.getElem_cons_zero, Act.put, List.setIfInBounds_toArray, List.set_cons_zero, List.set_cons_succ]
          refine wpAnyH_take (i := 10) (v := ?_) rfl (by kernel_rfl) (by kernel_rfl) (by kernel_rfl) (fun _ _ _ h => h) (Or.inl ⟨by rfl, ?_⟩) (by assumption) ?_
          rotate_left
          · (intro w hSw; (try dsimp only at hSw); go_split_ands; go_simp; try with_reducible rfl)
          try simp only [List.getElem_toArray, List.getElem_cons_succ, List.getElem_cons_zero, Act.put, List.setIfInBounds_toArray, List.set_cons_zero, List.set_cons_succ]
          refine wpAnyH_take (i := 11) (v := ?_) rfl (by kernel_rfl) (by kernel_rfl) (by kernel_rfl) (fun _ _ _ h => h) (Or.inl ⟨by rfl, ?_⟩) (by assumption) ?_
          rotate_left
          · (intro w hSw; (try dsimp only at hSw); go_split_ands; go_simp; try with_reducible rfl)
          try simp only [List.getElem_toArray, List.getElem_cons_succ, List.getElem_cons_zero, Act.put, List.setIfInBounds_toArray, List.set_cons_zero, List.set_cons_succ]
          refine wpAnyH_take (i := 12) (v := ?_) rfl (by kernel_rfl) (by kernel_rfl) (by kernel_rfl) (fun _ _ _ h => h) (Or.inl ⟨by rfl, ?_⟩) (by assumption) ?_
          rotate_left
          · (intro w hSw; (try dsimp only at hSw); go_split_ands; go_simp; try with_reducible rfl)
          try simp only [List.getElem_toArray, List.getElem_cons_succ, List.getElem_cons_zero, Act.put, List.setIfInBounds_toArray, List.set_cons_zero, List.set_cons_succ]
          refine wpAnyH_take (i := 13) (v := ?_) rfl (by kernel_rfl) (by kernel_rfl) (by kernel_rfl) (fun _ _ _ h => h) (Or.inl ⟨by rfl, ?_⟩) (by assumption) ?_
          rotate_left
          · (intro w hSw; (try dsimp only at hSw); go_split_ands; go_simp; try with_reducible rfl)
          try simp only [List.getElem_toArray, List.getElem_cons_succ, List.getElem_cons_zero, Act.put, List.setIfInBounds_toArray, List.set_cons_zero, List.set_cons_succ]
          refine wpAnyH_take (i := 14) (v := ?_) rfl (by kernel_rfl) (by kernel_rfl) (by kernel_rfl) (fun _ _ _ h => h) (Or.inl ⟨by rfl, ?_⟩) (by assumption) ?_
          rotate_left
          · (intro w hSw; (try dsimp only at hSw); go_split_ands; go_simp; try with_reducible rfl)
          try simp only [List.getElem_toArray, List.getElem_cons_succ, List.getElem_cons_zero, Act.put, List.setIfInBounds_toArray, List.set_cons_zero, List.set_cons_succ]
          refine wpAnyH_done (by kernel_rfl) ?_ _
          clear hHeld hm1 hm2 hkc
          go_upto_region 13 with fail
          have hbg6 := hd6.blk
          have hcg1 : w6.cell? ⟨g, 1, none⟩ = some (.int .i64 (room - sumF (mixF l F lf))) := hbg6.cell 1
          have hfzg := hbg6.frozen 1
          have HBG6 := Lib.hid hbg6
          have e7 : RowKit.Hid (IntKind.i64.wrap (r.length : Int) = (r.length : Int) ∧ IntKind.i64.wrap ((room : Int) - sumF (mixF l F lf) + (r.length : Int)) = (room : Int) - sumF (mixF l F lf) + (r.length : Int)) := Lib.hid (by
            have h4 := HR4.out; have hf := hd.fit; have hb := hd.big
            rw [Go.IntWalk.i64_left, Go.IntWalk.i64_left]
            exact ⟨w64 (by omega) (by omega), w64 (by omega) (by omega)⟩)
          obtain ⟨hE7, hE8⟩ := e7.out
          generalize hfr : ((room : Int) - sumF (mixF l F lf)) = fr at *
          have HFR := Lib.hid hfr; clear hfr
          clear hbg6
          refine wp_region_last1_held (S := (fun W => W.cell? ⟨g, 1, none⟩ = some (.int .i64 fr) ∧ W.cell? ⟨fbx x, 1, none⟩ = some (.slice Ar r.length cr))) (l := [_, _, _, _, _, _, _, _, _, _, _, _, _, _, _]) (o := _) (by kernel_rfl) (by kernel_rfl) ?_
          simp only [List.size_toArray, List.length_cons, List.length_nil, Nat.zero_add, Nat.reduceAdd]
          have hHeld : ((fun W => W.cell? ⟨g, 1, none⟩ = some (.int .i64 fr) ∧ W.cell? ⟨fbx x, 1, none⟩ = some (.slice Ar r.length cr))) w6.drew.drew := ⟨hcg1, hc1⟩
          refine wpAnyH_take (i := 0) (v := ?_) rfl (by kernel_rfl) (by kernel_rfl) (by kernel_rfl) (fun _ _ _ h => h) (Or.inl ⟨by rfl, ?_⟩) (by assumption) ?_
          rotate_left
          · (intro w hSw; (try dsimp only at hSw); go_split_ands; go_simp; try with_reducible rfl)
          try simp only [List.getElem_toArray, List.getElem_cons_succ, List.getElem_cons_zero, Act.put, List.setIfInBounds_toArray, List.set_cons_zero, List.set_cons_succ]
          refine wpAnyH_take (i := 1) (v := ?_) rfl (by kernel_rfl) (by kernel_rfl) (by kernel_rfl) (fun _ _ _ h => h) (Or.inl ⟨by rfl, ?_⟩) (by assumption) ?_
          rotate_left
          · (intro w hSw; (try dsimp only at hSw); go_split_ands; go_simp; try with_reducible rfl)
          try simp only [List.getElem_toArray, List.getElem_cons_succ, List.getElem_cons_zero, Act.put, List.setIfInBounds_toArray, List.set_cons_zero, List.set_cons_succ]
          refine wpAnyH_take (i := 2) (v := ?_) rfl (by kernel_rfl) (by kernel_rfl) (by kernel_rfl) (fun _ _ _ h => h) (Or.inl ⟨by rfl, ?_⟩) (by assumption) ?_
          rotate_left
          · (intro w hSw; (try dsimp only at hSw); go_split_ands; go_simp; try with_reducible rfl)
          try simp only [List.getElem_toArray, List.getElem_cons_succ, List.getElem_cons_zero, Act.put, List.setIfInBounds_toArray, List.set_cons_zero, List.set_cons_succ]
          refine wpAnyH_take (i := 3) (v := ?_) rfl (by kernel_rfl) (by kernel_rfl) (by kernel_rfl) (fun _ _ _ h => h) (Or.inl ⟨by rfl, ?_⟩) (by assumption) ?_
          rotate_left
          · (intro w hSw; (try dsimp only at hSw); go_split_ands; go_simp; try with_reducible rfl)
          try simp only [List.getElem_toArray, List.getElem_cons_succ, List.getElem_cons_zero, Act.put, List.setIfInBounds_toArray, List.set_cons_zero, List.set_cons_succ]
          refine wpAnyH_take (i := 4) (v := ?_) rfl (by kernel_rfl) (by kernel_rfl) (by kernel_rfl) (fun _ _ _ h => h) (Or.inl ⟨by rfl, ?_⟩) (by assumption) ?_
          rotate_left
          · (intro w hSw; (try dsimp only at hSw); go_split_ands; go_simp; try with_reducible rfl)
          try simp only [List.getElem_toArray, List.getElem_cons_succ, List.getElem_cons_zero, Act.put, List.setIfInBounds_toArray, List.set_cons_zero, List.set_cons_succ]
          refine wpAnyH_take (i := 5) (v := ?_) rfl (by kernel_rfl) (by kernel_rfl) (by kernel_rfl) (fun _ _ _ h => h) (Or.inl ⟨by rfl, ?_⟩) (by assumption) ?_
          rotate_left
          · (intro w hSw; (try dsimp only at hSw); go_split_ands; go_simp; try with_reducible rfl)
          try simp only [List.getElem_toArray, List.getElem_cons_succ, List.getElem_cons_zero, Act.put, List.setIfInBounds_toArray, List.set_cons_zero, List.set_cons_succ]
          refine wpAnyH_take (i := 6) (v := ?_) rfl (by kernel_rfl) (by kernel_rfl) (by kernel_rfl) (fun _ _ _ h => h) (Or.inl ⟨by rfl, ?_⟩) (by assumption) ?_
          rotate_left
          · (intro w hSw; (try dsimp only at hSw); go_split_ands; go_simp; try with_reducible rfl)
          try simp only [List.getElem_toArray, List.getElem_cons_succ, List.getElem_cons_zero, Act.put, List.setIfInBounds_toArray, List.set_cons_zero, List.set_cons_succ]
          refine wpAnyH_take (i := 7) (v := ?_) rfl (by kernel_rfl) (by kernel_rfl) (by kernel_rfl) (fun _ _ _ h => h) (Or.inl ⟨by rfl, ?_⟩) (by assumption) ?_
          rotate_left
          · (intro w hSw; (try dsimp only at hSw); go_split_ands; go_simp; try with_reducible rfl)
          try simp only [List.getElem_toArray, List.getElem_cons_succ, List.getElem_cons_zero, Act.put, List.setIfInBounds_toArray, List.set_cons_zero, List.set_cons_succ]
          refine wpAnyH_take (i := 8) (v := ?_) rfl (by kernel_rfl) (by kernel_rfl) (by kernel_rfl) (fun _ _ _ h => h) (Or.inl ⟨by rfl, ?_⟩) (by assumption) ?_
          rotate_left
          · (intro w hSw; (try dsimp only at hSw); go_split_ands; go_simp; try with_reducible rfl)
          try simp only [List.getElem_toArray, List.getElem_cons_succ, List.getElem_cons_zero, Act.put, List.setIfInBounds_toArray, List.set_cons_zero, List.set_cons_succ]
          refine wpAnyH_take (i := 9) (v := ?_) rfl (by kernel_rfl) (by kernel_rfl) (by kernel_rfl) (fun _ _ _ h => h) (Or.inl ⟨by rfl, ?_⟩) (by assumption) ?_
          rotate_left
          · (intro w hSw; (try dsimp only at hSw); go_split_ands; go_simp; try with_reducible rfl)
          try simp only [List.getElem_toArray, List.getElem_cons_succ, List.getElem_cons_zero, Act.put, List.setIfInBounds_toArray, List.set_cons_zero, List.set_cons_succ]
          refine wpAnyH_take (i := 10) (v := ?_) rfl (by kernel_rfl) (by kernel_rfl) (by kernel_rfl) (fun _ _ _ h => h) (Or.inl ⟨by rfl, ?_⟩) (by assumption) ?_
          rotate_left
          · (intro w hSw; (try dsimp only at hSw); go_split_ands; go_simp; try with_reducible rfl)
          try simp only [List.getElem_toArray, List.getElem_cons_succ, List.getElem_cons_zero, Act.put, List.setIfInBounds_toArray, List.set_cons_zero, List.set_cons_succ]
          refine wpAnyH_take (i := 11) (v := ?_) rfl (by kernel_rfl) (by kernel_rfl) (by kernel_rfl) (fun _ _ _ h => h) (Or.inl ⟨by rfl, ?_⟩) (by assumption) ?_
          rotate_left
          · (intro w hSw; (try dsimp only at hSw); go_split_ands; go_simp; try with_reducible rfl)
          try simp only [List.getElem_toArray, List.getElem_cons_succ, List.getElem_cons_zero, Act.put, List.setIfInBounds_toArray, List.set_cons_zero, List.set_cons_succ]
          refine wpAnyH_take (i := 12) (v := ?_) rfl (by kernel_rfl) (by kernel_rfl) (by kernel_rfl) (fun _ _ _ h => h) (Or.inl ⟨by rfl, ?_⟩) (by assumption) ?_
          rotate_left
          · (intro w hSw; (try dsimp only at hSw); go_split_ands; go_simp; try with_reducible rfl)
          try simp only [List.getElem_toArray, List.getElem_cons_succ, List.getElem_cons_zero, Act.put, List.setIfInBounds_toArray, List.set_cons_zero, List.set_cons_succ]
          refine wpAnyH_take (i := 13) (v := ?_) rfl (by kernel_rfl) (by kernel_rfl) (by kernel_rfl) (fun _ _ _ h => h) (Or.inl ⟨by rfl, ?_⟩) (by assumption) ?_
          rotate_left
          · (intro w hSw; (try dsimp only at hSw); go_split_ands; go_simp; try with_reducible rfl)
          try simp only [List.getElem_toArray, List.getElem_cons_succ, List.getElem_cons_zero, Act.put, List.setIfInBounds_toArray, List.set_cons_zero, List.set_cons_succ]
          refine wpAnyH_take (i := 14) (v := ?_) rfl (by kernel_rfl) (by kernel_rfl) (by kernel_rfl) (fun _ _ _ h => h) (Or.inl ⟨by rfl, ?_⟩) (by assumption) ?_
          rotate_left
          · (intro w hSw; (try dsimp only at hSw); go_split_ands; go_simp; try with_reducible rfl)
          try simp only [List.getElem_toArray, List.getElem_cons_succ, List.getElem_cons_zero, Act.put, List.setIfInBounds_toArray, List.set_cons_zero, List.set_cons_succ]
          refine wpAnyH_done (by kernel_rfl) ?_ _
          refine lastPost_wp ?_
          go_upto_region 14 with fail
          clear hcg1 hfzg hE7 hE8 e7 hHeld hc1
          have hu68' : Upd w6 ((w6.setCell ⟨g, 1, none⟩ (.int .i64 (fr + (r.length : Int)))).drew.drew) (· = g) := ((Upd.refl w6 (· = g)).setCell (p := ⟨g, 1, none⟩) (.inl rfl) _).drew.drew
          have hbg8 : Blk ((w6.setCell ⟨g, 1, none⟩ (.int .i64 (fr + (r.length : Int)))).drew.drew) g 64 #[.map (some mb), .int .i64 (fr + (r.length : Int)), .int .i64 (-1), .bool false, .int .i64 ops] := HBG6.out.set_ 1 (.int .i64 (fr + (r.length : Int)))
          generalize (w6.setCell ⟨g, 1, none⟩ (.int .i64 (fr + (r.length : Int)))).drew.drew = w8 at *
          obtain ⟨hofn, hBf, hRs, hRr, hos, hor, hsr, _⟩ := HX.out
          have hgo : ∀ k, o1 k = x → ¬ k = g := fun k hk e => by have h1 := hd6.zg; rw [← e, hk] at h1; have := (hd.key x _ hF1).1; omega
          have hu68 : Upd w6 w8 (fun k => k = g ∨ (Value.slice Ar r.length cr).ownBlock = some k) := hu68'.mono fun k _ hk => .inl hk
          have hRs8 : Row w8 (.slice As s.length cs) s := hRs.upd hu68' (fun k hk e => hgo k (hos k hk).1 e)
          have hbf8 := hBf.upd hu68' (fun e => hgo _ hofn e)
          have hcf0 : w8.cell? ⟨fbx x, 0, none⟩ = some (.slice As s.length cs) := hbf8.cell 0
          have hkr : ReadsInt w8 .u8 Ar 0 [] := ⟨rfl, by omega, fun h => absurd h (Nat.lt_irrefl 0)⟩
          have hbl : (s.length + 0) * 1 ≤ 140737488355328 := by have h4 := HR4.out; omega
          have HRS8 := Lib.hid hRs8; have HKR := Lib.hid hkr; have HBF8 := Lib.hid hbf8; have HU68 := Lib.hid hu68; have HBG8 := Lib.hid hbg8; have HBLL := Lib.hid hbl
          have HNE9 := Lib.hid (show some (fbx x) ≠ (Value.slice As s.length cs).ownBlock from fun e => (hos _ e.symm).2 rfl)
          have HOO := Lib.hid (And.intro hofn (And.intro hRs (And.intro hos hor)))
          clear hofn hRs hRr hos hor hsr hgo hu68 hRs8 hbf8 hkr hbl hbg8 hu68' hBf
          go_wp2_with (first | ((with_reducible refine gate_builtin (b := .append) (xs := #[.tmp 84, .tmp 85]) rfl ?_); at_builtin; refine stop_append rfl ?_))
          refine Lib.hid ?_
          refine print_append_row (w0 := w8) 0 rfl (.tmp 84) (.tmp 85) 22 5 .u8 1 rfl Try.underlying22 infoB (by decide) (.slice As s.length cs) s [] Ar 0 cr rfl rfl HRS8.out HKR.out (Below.refl _ _) (Nat.zero_le _) HBLL.out ?_
          intro v9 w9 hO9 hb9 hg9 hat9
          obtain ⟨A9, c9, rfl, _⟩ := own_reads hO9
          have hO9' : Row w9 (.slice A9 (s ++ []).length c9) (s ++ []) := hO9
          have hB9 := HBF8.out.grown hg9 HNE9.out
          have hz90 := hB9.frozen 0
          have hc90 : w9.cell? ⟨fbx x, 0, none⟩ = some (.slice As s.length cs) := hB9.cell 0
          generalize hv9 : Value.slice A9 (s ++ []).length c9 = v9 at *
          obtain ⟨n9, hn9⟩ : ∃ n9, (s ++ ([] : List Int)).length = n9 := ⟨_, rfl⟩
          rw [hn9] at hv9
          subst hv9
          clear hn9
          have hB10 := hB9.set_ 0 (.slice A9 n9 c9)
          have hz91 := hB10.frozen 1
          have hc91 : (w9.setCell ⟨fbx x, 0, none⟩ (.slice A9 n9 c9)).cell? ⟨fbx x, 1, none⟩ = some (.slice Ar r.length cr) := hB10.cell 1
          have HO9 := Lib.hid hO9'; have HG9 := Lib.hid hg9; have HAT9 := Lib.hid hat9; have HB10 := Lib.hid hB10
          clear hO9 hO9' hb9 hg9 hat9 hB9 hB10
          go_wp2
          generalize hwf : (w9.setCell ⟨fbx x, 0, none⟩ (.slice A9 n9 c9)).setCell ⟨fbx x, 1, none⟩ (.slice none 0 0) = wf at *
          have hBf9 := HB10.out.set_ 1 (.slice none 0 0)
          rw [hwf] at hBf9
          have hxx := hd6.key x _ hF1
          obtain ⟨hm6, hf6⟩ := HM6.out
          have hdone := crash_done (ks := []) hd6 hf6 hxx hF1 hm6 HX.out.2.1 HX.out.2.2.1 HOO.out.1 HOO.out.2.2.1 HOO.out.2.2.2 HU68.out (by rw [HFR.out]; simpa using HBG8.out) (Nat.zero_le _) HO9.out HG9.out HAT9.out hwf hBf9
          rw [← crash_eq0 (t := t) HK.out, ← HTL.out] at hdone
          exact round_done H0.out hrg ho1 HRG6.out hlt2 hw6 hd6 hF hxx.1 hdone
        · obtain ⟨j, rfl⟩ : ∃ j, k = j + 1 := ⟨k - 1, by omega⟩
          obtain ⟨gr, hAr, hcj, hzj⟩ := HX.out.2.2.2.1.at_ (j := j) (Nat.lt_of_lt_of_le (Nat.lt_succ_self j) hkl)
          subst hAr
          have d1 := pos_dec j
          have hct2 : w6.cell? ⟨w2.heap.size + 1, 2, none⟩ = some (.int .u8 t.f2) := HT6.out.cell 2
          have hj4 : (j : Int) + 1 ≤ 4194304 := by have := HR4.out; omega
          have hkc : (j : Int) + 1 ≤ cr := by omega
          have hk00 : (0 : Int) ≤ (j : Int) + 1 := by omega
          have HKL := Lib.hid hkl
          have hj1 := j_one hj4
          have hj2 := j_two hj4
          have hj3 := j_three hj4
          have hj5 : (j : Int) < (j : Int) + 1 := by omega
          clear hj4
          clear hk0 hkl
          refine wp_region_held (S := (fun W => W.cell? ⟨fbx x, 1, none⟩ = some (.slice (some ⟨gr, 0, none⟩) r.length cr) ∧ W.cell? ⟨w2.heap.size + 1, 1, none⟩ = some (.int .i64 t.f1))) (by kernel_rfl) ?_
          simp only [List.size_toArray, List.length_cons, List.length_nil, Nat.zero_add, Nat.reduceAdd]
          have hHeld : ((fun W => W.cell? ⟨fbx x, 1, none⟩ = some (.slice (some ⟨gr, 0, none⟩) r.length cr) ∧ W.cell? ⟨w2.heap.size + 1, 1, none⟩ = some (.int .i64 t.f1))) w6.drew := ⟨hc1, hct⟩
          refine wpAnyH_take (i := 0) (v := ?_) rfl (by kernel_rfl) (by kernel_rfl) (by kernel_rfl) (fun _ _ _ h => h) (Or.inl ⟨by rfl, ?_⟩) (by assumption) ?_
          rotate_left
          · (intro w hSw; (try dsimp only at hSw); go_split_ands; go_simp; try with_reducible rfl)
          try simp only [List.getElem_toArray, List.getElem_cons_succ, List.getElem_cons_zero, Act.put, List.setIfInBounds_toArray, List.set_cons_zero, List.set_cons_succ]
          refine wpAnyH_take (i := 1) (v := ?_) rfl (by kernel_rfl) (by kernel_rfl) (by kernel_rfl) (fun _ _ _ h => h) (Or.inl ⟨by rfl, ?_⟩) (by assumption) ?_
          rotate_left
          · (intro w hSw; (try dsimp only at hSw); go_split_ands; go_simp; try with_reducible rfl)
          try simp only [List.getElem_toArray, List.getElem_cons_succ, List.getElem_cons_zero, Act.put, List.setIfInBounds_toArray, List.set_cons_zero, List.set_cons_succ]
          refine wpAnyH_take (i := 2) (v := ?_) rfl (by kernel_rfl) (by kernel_rfl) (by kernel_rfl) (fun _ _ _ h => h) (Or.inl ⟨by rfl, ?_⟩) (by assumption) ?_
          rotate_left
          · (intro w hSw; (try dsimp only at hSw); go_split_ands; go_simp; try with_reducible rfl)
          try simp only [List.getElem_toArray, List.getElem_cons_succ, List.getElem_cons_zero, Act.put, List.setIfInBounds_toArray, List.set_cons_zero, List.set_cons_succ]
          refine wpAnyH_take (i := 3) (v := ?_) rfl (by kernel_rfl) (by kernel_rfl) (by kernel_rfl) (fun _ _ _ h => h) (Or.inl ⟨by rfl, ?_⟩) (by assumption) ?_
          rotate_left
          · (intro w hSw; (try dsimp only at hSw); go_split_ands; go_simp; try with_reducible rfl)
          try simp only [List.getElem_toArray, List.getElem_cons_succ, List.getElem_cons_zero, Act.put, List.setIfInBounds_toArray, List.set_cons_zero, List.set_cons_succ]
          refine wpAnyH_take (i := 4) (v := ?_) rfl (by kernel_rfl) (by kernel_rfl) (by kernel_rfl) (fun _ _ _ h => h) (Or.inl ⟨by rfl, ?_⟩) (by assumption) ?_
          rotate_left
          · (intro w hSw; (try dsimp only at hSw); go_split_ands; go_simp; try with_reducible rfl)
          try simp only [List.getElem_toArray, List.getElem_cons_succ, List.getElem_cons_zero, Act.put, List.setIfInBounds_toArray, List.set_cons_zero, List.set_cons_succ]
          refine wpAnyH_take (i := 5) (v := ?_) rfl (by kernel_rfl) (by kernel_rfl) (by kernel_rfl) (fun _ _ _ h => h) (Or.inl ⟨by rfl, ?_⟩) (by assumption) ?_
          rotate_left
          · (intro w hSw; (try dsimp only at hSw); go_split_ands; go_simp; try with_reducible rfl)
          try simp only [List.getElem_toArray, List.getElem_cons_succ, List.getElem_cons_zero, Act.put, List.setIfInBounds_toArray, List.set_cons_zero, List.set_cons_succ]
          refine wpAnyH_take (i := 6) (v := ?_) rfl (by kernel_rfl) (by kernel_rfl) (by kernel_rfl) (fun _ _ _ h => h) (Or.inl ⟨by rfl, ?_⟩) (by assumption) ?_
          rotate_left
          · (intro w hSw; (try dsimp only at hSw); go_split_ands; go_simp; try with_reducible rfl)
          try simp only [List.getElem_toArray, List.getElem_cons_succ, List.getElem_cons_zero, Act.put, List.setIfInBounds_toArray, List.set_cons_zero, List.set_cons_succ]
          refine wpAnyH_take (i := 7) (v := ?_) rfl (by kernel_rfl) (by kernel_rfl) (by kernel_rfl) (fun _ _ _ h => h) (Or.inl ⟨by rfl, ?_⟩) (by assumption) ?_
          rotate_left
          · (intro w hSw; (try dsimp only at hSw); go_split_ands; go_simp; try with_reducible rfl)
          try simp only [List.getElem_toArray, List.getElem_cons_succ, List.getElem_cons_zero, Act.put, List.setIfInBounds_toArray, List.set_cons_zero, List.set_cons_succ]
          refine wpAnyH_take (i := 8) (v := ?_) rfl (by kernel_rfl) (by kernel_rfl) (by kernel_rfl) (fun _ _ _ h => h) (Or.inl ⟨by rfl, ?_⟩) (by assumption) ?_
          rotate_left
          · (intro w hSw; (try dsimp only at hSw); go_split_ands; go_simp; try with_reducible rfl)
          try simp only [List.getElem_toArray, List.getElem_cons_succ, List.getElem_cons_zero, Act.put, List.setIfInBounds_toArray, List.set_cons_zero, List.set_cons_succ]
          refine wpAnyH_take (i := 9) (v := ?_) rfl (by kernel_rfl) (by kernel_rfl) (by kernel_rfl) (fun _ _ _ h => h) (Or.inl ⟨by rfl, ?_⟩) (by assumption) ?_
          rotate_left
          · (intro w hSw; (try dsimp only at hSw); go_split_ands; go_simp; try with_reducible rfl)
          try simp only [List.getElem_toArray, List.getElem_cons_succ, List.getElem_cons_zero, Act.put, List.setIfInBounds_toArray, List.set_cons_zero, List.set_cons_succ]
          refine wpAnyH_take (i := 10) (v := ?_) rfl (by kernel_rfl) (by kernel_rfl) (by kernel_rfl) (fun _ _ _ h => h) (Or.inl ⟨by rfl, ?_⟩) (by assumption) ?_
          rotate_left
          · (intro w hSw; (try dsimp only at hSw); go_split_ands; go_simp; try with_reducible rfl)
          try simp only [List.getElem_toArray, List.getElem_cons_succ, List.getElem_cons_zero, Act.put, List.setIfInBounds_toArray, List.set_cons_zero, List.set_cons_succ]
          refine wpAnyH_take (i := 11) (v := ?_) rfl (by kernel_rfl) (by kernel_rfl) (by kernel_rfl) (fun _ _ _ h => h) (Or.inl ⟨by rfl, ?_⟩) (by assumption) ?_
          rotate_left
          · (intro w hSw; (try dsimp only at hSw); go_split_ands; go_simp; try with_reducible rfl)
          try simp only [List.getElem_toArray, List.getElem_cons_succ, List.getElem_cons_zero, Act.put, List.setIfInBounds_toArray, List.set_cons_zero, List.set_cons_succ]
          refine wpAnyH_take (i := 12) (v := ?_) rfl (by kernel_rfl) (by kernel_rfl) (by kernel_rfl) (fun _ _ _ h => h) (Or.inl ⟨by rfl, ?_⟩) (by assumption) ?_
          rotate_left
          · (intro w hSw; (try dsimp only at hSw); go_split_ands; go_simp; try with_reducible rfl)
          try simp only [List.getElem_toArray, List.getElem_cons_succ, List.getElem_cons_zero, Act.put, List.setIfInBounds_toArray, List.set_cons_zero, List.set_cons_succ]
          refine wpAnyH_take (i := 13) (v := ?_) rfl (by kernel_rfl) (by kernel_rfl) (by kernel_rfl) (fun _ _ _ h => h) (Or.inl ⟨by rfl, ?_⟩) (by assumption) ?_
          rotate_left
          · (intro w hSw; (try dsimp only at hSw); go_split_ands; go_simp; try with_reducible rfl)
          try simp only [List.getElem_toArray, List.getElem_cons_succ, List.getElem_cons_zero, Act.put, List.setIfInBounds_toArray, List.set_cons_zero, List.set_cons_succ]
          refine wpAnyH_take (i := 14) (v := ?_) rfl (by kernel_rfl) (by kernel_rfl) (by kernel_rfl) (fun _ _ _ h => h) (Or.inl ⟨by rfl, ?_⟩) (by assumption) ?_
          rotate_left
          · (intro w hSw; (try dsimp only at hSw); go_split_ands; go_simp; try with_reducible rfl)
          try simp only [List.getElem_toArray, List.getElem_cons_succ, List.getElem_cons_zero, Act.put, List.setIfInBounds_toArray, List.set_cons_zero, List.set_cons_succ]
          refine wpAnyH_done (by kernel_rfl) ?_ _
          clear hHeld hm1 hm2 hkc
          go_upto_region 12 with fail
          refine wp_region_last1_held (S := (fun W => W.cell? ⟨gr, j, none⟩ = some (.int .u8 (r.getD j 0)) ∧ W.cell? ⟨w2.heap.size + 1, 2, none⟩ = some (.int .u8 t.f2))) (l := [_, _, _, _, _, _, _, _, _]) (o := _) (by kernel_rfl) (by kernel_rfl) ?_
          simp only [List.size_toArray, List.length_cons, List.length_nil, Nat.zero_add, Nat.reduceAdd]
          have hHeld : ((fun W => W.cell? ⟨gr, j, none⟩ = some (.int .u8 (r.getD j 0)) ∧ W.cell? ⟨w2.heap.size + 1, 2, none⟩ = some (.int .u8 t.f2))) w6.drew.drew := ⟨hcj, hct2⟩
          refine wpAnyH_take (i := 0) (v := ?_) rfl (by kernel_rfl) (by kernel_rfl) (by kernel_rfl) (fun _ _ _ h => h) (Or.inl ⟨by rfl, ?_⟩) (by assumption) ?_
          rotate_left
          · (intro w hSw; (try dsimp only at hSw); go_split_ands; go_simp; try with_reducible rfl)
          try simp only [List.getElem_toArray, List.getElem_cons_succ, List.getElem_cons_zero, Act.put, List.setIfInBounds_toArray, List.set_cons_zero, List.set_cons_succ]
          refine wpAnyH_take (i := 1) (v := ?_) rfl (by kernel_rfl) (by kernel_rfl) (by kernel_rfl) (fun _ _ _ h => h) (Or.inl ⟨by rfl, ?_⟩) (by assumption) ?_
          rotate_left
          · (intro w hSw; (try dsimp only at hSw); go_split_ands; go_simp; try with_reducible rfl)
          try simp only [List.getElem_toArray, List.getElem_cons_succ, List.getElem_cons_zero, Act.put, List.setIfInBounds_toArray, List.set_cons_zero, List.set_cons_succ]
          refine wpAnyH_take (i := 2) (v := ?_) rfl (by kernel_rfl) (by kernel_rfl) (by kernel_rfl) (fun _ _ _ h => h) (Or.inl ⟨by rfl, ?_⟩) (by assumption) ?_
          rotate_left
          · (intro w hSw; (try dsimp only at hSw); go_split_ands; go_simp; try with_reducible rfl)
          try simp only [List.getElem_toArray, List.getElem_cons_succ, List.getElem_cons_zero, Act.put, List.setIfInBounds_toArray, List.set_cons_zero, List.set_cons_succ]
          refine wpAnyH_take (i := 3) (v := ?_) rfl (by kernel_rfl) (by kernel_rfl) (by kernel_rfl) (fun _ _ _ h => h) (Or.inl ⟨by rfl, ?_⟩) (by assumption) ?_
          rotate_left
          · (intro w hSw; (try dsimp only at hSw); go_split_ands; go_simp; try with_reducible rfl)
          try simp only [List.getElem_toArray, List.getElem_cons_succ, List.getElem_cons_zero, Act.put, List.setIfInBounds_toArray, List.set_cons_zero, List.set_cons_succ]
          refine wpAnyH_take (i := 4) (v := ?_) rfl (by kernel_rfl) (by kernel_rfl) (by kernel_rfl) (fun _ _ _ h => h) (Or.inl ⟨by rfl, ?_⟩) (by assumption) ?_
          rotate_left
          · (intro w hSw; (try dsimp only at hSw); go_split_ands; go_simp; try with_reducible rfl)
          try simp only [List.getElem_toArray, List.getElem_cons_succ, List.getElem_cons_zero, Act.put, List.setIfInBounds_toArray, List.set_cons_zero, List.set_cons_succ]
          refine wpAnyH_take (i := 5) (v := ?_) rfl (by kernel_rfl) (by kernel_rfl) (by kernel_rfl) (fun _ _ _ h => h) (Or.inl ⟨by rfl, ?_⟩) (by assumption) ?_
          rotate_left
          · (intro w hSw; (try dsimp only at hSw); go_split_ands; go_simp; try with_reducible rfl)
          try simp only [List.getElem_toArray, List.getElem_cons_succ, List.getElem_cons_zero, Act.put, List.setIfInBounds_toArray, List.set_cons_zero, List.set_cons_succ]
          refine wpAnyH_take (i := 6) (v := ?_) rfl (by kernel_rfl) (by kernel_rfl) (by kernel_rfl) (fun _ _ _ h => h) (Or.inl ⟨by rfl, ?_⟩) (by assumption) ?_
          rotate_left
          · (intro w hSw; (try dsimp only at hSw); go_split_ands; go_simp; try with_reducible rfl)
          try simp only [List.getElem_toArray, List.getElem_cons_succ, List.getElem_cons_zero, Act.put, List.setIfInBounds_toArray, List.set_cons_zero, List.set_cons_succ]
          refine wpAnyH_take (i := 7) (v := ?_) rfl (by kernel_rfl) (by kernel_rfl) (by kernel_rfl) (fun _ _ _ h => h) (Or.inl ⟨by rfl, ?_⟩) (by assumption) ?_
          rotate_left
          · (intro w hSw; (try dsimp only at hSw); go_split_ands; go_simp; try with_reducible rfl)
          try simp only [List.getElem_toArray, List.getElem_cons_succ, List.getElem_cons_zero, Act.put, List.setIfInBounds_toArray, List.set_cons_zero, List.set_cons_succ]
          refine wpAnyH_take (i := 8) (v := ?_) rfl (by kernel_rfl) (by kernel_rfl) (by kernel_rfl) (fun _ _ _ h => h) (Or.inl ⟨by rfl, ?_⟩) (by assumption) ?_
          rotate_left
          · (intro w hSw; (try dsimp only at hSw); go_split_ands; go_simp; try with_reducible rfl)
          try simp only [List.getElem_toArray, List.getElem_cons_succ, List.getElem_cons_zero, Act.put, List.setIfInBounds_toArray, List.set_cons_zero, List.set_cons_succ]
          refine wpAnyH_done (by kernel_rfl) ?_ _
          refine lastPost_wp ?_
          clear hcj hct2 hc1
          go_upto_region 13 with fail
          clear hj1 hj2 hj3 hj5 hk00 hkc d1
          generalize hxv : bits BinOp.xor IntKind.u8 (r[j]?.getD 0) t.f2 = xv at *
          have hst := own_store HX.out.2.2.2.1 (j : Int) xv
          simp only [Int.toNat_natCast] at hst
          obtain ⟨w7, hw7⟩ : ∃ w7, w6.setCell ⟨gr, j, none⟩ (.int .u8 xv) = w7 := ⟨_, rfl⟩
          rw [hw7] at hst
          rw [hw7]
          have HST := Lib.hid hst
          have hgr : o1 gr = x ∧ gr ≠ fbx x := HX.out.2.2.2.2.2.1 gr rfl
          have hu7 : Upd w6 w7 (· = gr) := Upd.of_grown hst.2 (fun k hk => by injection hk with hk; exact hk.symm)
          have hgg : ¬ g = gr := fun e => by have h1 := hd6.zg; rw [e, hgr.1] at h1; have := (hd.key x _ hF1).1; omega
          have hbg7 := hd6.blk.upd hu7 hgg
          have hbf7 := HX.out.2.1.upd hu7 (fun e => hgr.2 e.symm)
          have hcg1 : w7.cell? ⟨g, 1, none⟩ = some (.int .i64 (room - sumF (mixF l F lf))) := hbg7.cell 1
          have hcf1 : w7.cell? ⟨fbx x, 1, none⟩ = some (.slice (some ⟨gr, 0, none⟩) r.length cr) := hbf7.cell 1
          have hfzg := hbg7.frozen 1
          have HBG7 := Lib.hid hbg7; have HBF7 := Lib.hid hbf7; have HU7 := Lib.hid hu7; have HXV := Lib.hid hxv
          have e7 : RowKit.Hid (IntKind.i64.wrap ((r.length : Int) - ((j : Int) + 1)) = (r.length : Int) - ((j : Int) + 1) ∧ IntKind.i64.wrap ((room : Int) - sumF (mixF l F lf) + ((r.length : Int) - ((j : Int) + 1))) = (room : Int) - sumF (mixF l F lf) + ((r.length : Int) - ((j : Int) + 1))) := Lib.hid (by
            have h4 := HR4.out; have hf := hd.fit; have hb := hd.big; have hk := HKL.out
            rw [Go.IntWalk.i64_left, Go.IntWalk.i64_left]
            exact ⟨w64 (by omega) (by omega), w64 (by omega) (by omega)⟩)
          obtain ⟨hE7, hE8⟩ := e7.out
          generalize hfr : ((room : Int) - sumF (mixF l F lf)) = fr at *
          have HFR := Lib.hid hfr; clear hfr
          clear hst hbg7 hbf7 hu7 hxv hgg hgr
          refine wp_region_last1_held (S := (fun W => W.cell? ⟨g, 1, none⟩ = some (.int .i64 fr) ∧ W.cell? ⟨fbx x, 1, none⟩ = some (.slice (some ⟨gr, 0, none⟩) r.length cr))) (l := [_, _, _, _, _, _, _, _, _, _, _, _, _, _, _]) (o := _) (by kernel_rfl) (by kernel_rfl) ?_
          simp only [List.size_toArray, List.length_cons, List.length_nil, Nat.zero_add, Nat.reduceAdd]
          have hHeld : ((fun W => W.cell? ⟨g, 1, none⟩ = some (.int .i64 fr) ∧ W.cell? ⟨fbx x, 1, none⟩ = some (.slice (some ⟨gr, 0, none⟩) r.length cr))) w7.drew.drew.drew := ⟨hcg1, hcf1⟩
          refine wpAnyH_take (i := 0) (v := ?_) rfl (by kernel_rfl) (by kernel_rfl) (by kernel_rfl) (fun _ _ _ h => h) (Or.inl ⟨by rfl, ?_⟩) (by assumption) ?_
          rotate_left
          · (intro w hSw; (try dsimp only at hSw); go_split_ands; go_simp; try with_reducible rfl)
          try simp only [List.getElem_toArray, List.getElem_cons_succ, List.getElem_cons_zero, Act.put, List.setIfInBounds_toArray, List.set_cons_zero, List.set_cons_succ]
          refine wpAnyH_take (i := 1) (v := ?_) rfl (by kernel_rfl) (by kernel_rfl) (by kernel_rfl) (fun _ _ _ h => h) (Or.inl ⟨by rfl, ?_⟩) (by assumption) ?_
          rotate_left
          · (intro w hSw; (try dsimp only at hSw); go_split_ands; go_simp; try with_reducible rfl)
          try simp only [List.getElem_toArray, List.getElem_cons_succ, List.getElem_cons_zero, Act.put, List.setIfInBounds_toArray, List.set_cons_zero, List.set_cons_succ]
          refine wpAnyH_take (i := 2) (v := ?_) rfl (by kernel_rfl) (by kernel_rfl) (by kernel_rfl) (fun _ _ _ h => h) (Or.inl ⟨by rfl, ?_⟩) (by assumption) ?_
          rotate_left
          · (intro w hSw; (try dsimp only at hSw); go_split_ands; go_simp; try with_reducible rfl)
          try simp only [List.getElem_toArray, List.getElem_cons_succ, List.getElem_cons_zero, Act.put, List.setIfInBounds_toArray, List.set_cons_zero, List.set_cons_succ]
          refine wpAnyH_take (i := 3) (v := ?_) rfl (by kernel_rfl) (by kernel_rfl) (by kernel_rfl) (fun _ _ _ h => h) (Or.inl ⟨by rfl, ?_⟩) (by assumption) ?_
          rotate_left
          · (intro w hSw; (try dsimp only at hSw); go_split_ands; go_simp; try with_reducible rfl)
          try simp only [List.getElem_toArray, List.getElem_cons_succ, List.getElem_cons_zero, Act.put, List.setIfInBounds_toArray, List.set_cons_zero, List.set_cons_succ]
          refine wpAnyH_take (i := 4) (v := ?_) rfl (by kernel_rfl) (by kernel_rfl) (by kernel_rfl) (fun _ _ _ h => h) (Or.inl ⟨by rfl, ?_⟩) (by assumption) ?_
          rotate_left
          · (intro w hSw; (try dsimp only at hSw); go_split_ands; go_simp; try with_reducible rfl)
          try simp only [List.getElem_toArray, List.getElem_cons_succ, List.getElem_cons_zero, Act.put, List.setIfInBounds_toArray, List.set_cons_zero, List.set_cons_succ]
          refine wpAnyH_take (i := 5) (v := ?_) rfl (by kernel_rfl) (by kernel_rfl) (by kernel_rfl) (fun _ _ _ h => h) (Or.inl ⟨by rfl, ?_⟩) (by assumption) ?_
          rotate_left
          · (intro w hSw; (try dsimp only at hSw); go_split_ands; go_simp; try with_reducible rfl)
          try simp only [List.getElem_toArray, List.getElem_cons_succ, List.getElem_cons_zero, Act.put, List.setIfInBounds_toArray, List.set_cons_zero, List.set_cons_succ]
          refine wpAnyH_take (i := 6) (v := ?_) rfl (by kernel_rfl) (by kernel_rfl) (by kernel_rfl) (fun _ _ _ h => h) (Or.inl ⟨by rfl, ?_⟩) (by assumption) ?_
          rotate_left
          · (intro w hSw; (try dsimp only at hSw); go_split_ands; go_simp; try with_reducible rfl)
          try simp only [List.getElem_toArray, List.getElem_cons_succ, List.getElem_cons_zero, Act.put, List.setIfInBounds_toArray, List.set_cons_zero, List.set_cons_succ]
          refine wpAnyH_take (i := 7) (v := ?_) rfl (by kernel_rfl) (by kernel_rfl) (by kernel_rfl) (fun _ _ _ h => h) (Or.inl ⟨by rfl, ?_⟩) (by assumption) ?_
          rotate_left
          · (intro w hSw; (try dsimp only at hSw); go_split_ands; go_simp; try with_reducible rfl)
          try simp only [List.getElem_toArray, List.getElem_cons_succ, List.getElem_cons_zero, Act.put, List.setIfInBounds_toArray, List.set_cons_zero, List.set_cons_succ]
          refine wpAnyH_take (i := 8) (v := ?_) rfl (by kernel_rfl) (by kernel_rfl) (by kernel_rfl) (fun _ _ _ h => h) (Or.inl ⟨by rfl, ?_⟩) (by assumption) ?_
          rotate_left
          · (intro w hSw; (try dsimp only at hSw); go_split_ands; go_simp; try with_reducible rfl)
          try simp only [List.getElem_toArray, List.getElem_cons_succ, List.getElem_cons_zero, Act.put, List.setIfInBounds_toArray, List.set_cons_zero, List.set_cons_succ]
          refine wpAnyH_take (i := 9) (v := ?_) rfl (by kernel_rfl) (by kernel_rfl) (by kernel_rfl) (fun _ _ _ h => h) (Or.inl ⟨by rfl, ?_⟩) (by assumption) ?_
          rotate_left
          · (intro w hSw; (try dsimp only at hSw); go_split_ands; go_simp; try with_reducible rfl)
          try simp only [List.getElem_toArray, List.getElem_cons_succ, List.getElem_cons_zero, Act.put, List.setIfInBounds_toArray, List.set_cons_zero, List.set_cons_succ]
          refine wpAnyH_take (i := 10) (v := ?_) rfl (by kernel_rfl) (by kernel_rfl) (by kernel_rfl) (fun _ _ _ h => h) (Or.inl ⟨by rfl, ?_⟩) (by assumption) ?_
          rotate_left
          · (intro w hSw; (try dsimp only at hSw); go_split_ands; go_simp; try with_reducible rfl)
          try simp only [List.getElem_toArray, List.getElem_cons_succ, List.getElem_cons_zero, Act.put, List.setIfInBounds_toArray, List.set_cons_zero, List.set_cons_succ]
          refine wpAnyH_take (i := 11) (v := ?_) rfl (by kernel_rfl) (by kernel_rfl) (by kernel_rfl) (fun _ _ _ h => h) (Or.inl ⟨by rfl, ?_⟩) (by assumption) ?_
          rotate_left
          · (intro w hSw; (try dsimp only at hSw); go_split_ands; go_simp; try with_reducible rfl)
          try simp only [List.getElem_toArray, List.getElem_cons_succ, List.getElem_cons_zero, Act.put, List.setIfInBounds_toArray, List.set_cons_zero, List.set_cons_succ]
          refine wpAnyH_take (i := 12) (v := ?_) rfl (by kernel_rfl) (by kernel_rfl) (by kernel_rfl) (fun _ _ _ h => h) (Or.inl ⟨by rfl, ?_⟩) (by assumption) ?_
          rotate_left
          · (intro w hSw; (try dsimp only at hSw); go_split_ands; go_simp; try with_reducible rfl)
          try simp only [List.getElem_toArray, List.getElem_cons_succ, List.getElem_cons_zero, Act.put, List.setIfInBounds_toArray, List.set_cons_zero, List.set_cons_succ]
          refine wpAnyH_take (i := 13) (v := ?_) rfl (by kernel_rfl) (by kernel_rfl) (by kernel_rfl) (fun _ _ _ h => h) (Or.inl ⟨by rfl, ?_⟩) (by assumption) ?_
          rotate_left
          · (intro w hSw; (try dsimp only at hSw); go_split_ands; go_simp; try with_reducible rfl)
          try simp only [List.getElem_toArray, List.getElem_cons_succ, List.getElem_cons_zero, Act.put, List.setIfInBounds_toArray, List.set_cons_zero, List.set_cons_succ]
          refine wpAnyH_take (i := 14) (v := ?_) rfl (by kernel_rfl) (by kernel_rfl) (by kernel_rfl) (fun _ _ _ h => h) (Or.inl ⟨by rfl, ?_⟩) (by assumption) ?_
          rotate_left
          · (intro w hSw; (try dsimp only at hSw); go_split_ands; go_simp; try with_reducible rfl)
          try simp only [List.getElem_toArray, List.getElem_cons_succ, List.getElem_cons_zero, Act.put, List.setIfInBounds_toArray, List.set_cons_zero, List.set_cons_succ]
          refine wpAnyH_done (by kernel_rfl) ?_ _
          refine lastPost_wp ?_
          go_upto_region 14 with fail
          clear hcg1 hcf1 hfzg hE7 hE8 e7 hHeld
          have hu78 : Upd w7 ((w7.setCell ⟨g, 1, none⟩ (.int .i64 (fr + ((r.length : Int) - ((j : Int) + 1))))).drew.drew.drew) (· = g) := (((Upd.refl w7 (· = g)).setCell (p := ⟨g, 1, none⟩) (.inl rfl) _).drew.drew.drew)
          have hbg8 := HBG7.out.set_ 1 (.int .i64 (fr + ((r.length : Int) - ((j : Int) + 1))))
          have hbg8 : Blk ((w7.setCell ⟨g, 1, none⟩ (.int .i64 (fr + ((r.length : Int) - ((j : Int) + 1))))).drew.drew.drew) g 64 #[.map (some mb), .int .i64 (fr + ((r.length : Int) - ((j : Int) + 1))), .int .i64 (-1), .bool false, .int .i64 ops] := hbg8
          generalize (w7.setCell ⟨g, 1, none⟩ (.int .i64 (fr + ((r.length : Int) - ((j : Int) + 1))))).drew.drew.drew = w8 at *
          obtain ⟨hofn, _, hRs, hRr, hos, hor, hsr, _⟩ := HX.out
          have hgo : ∀ k, o1 k = x → ¬ k = g := fun k hk e => by have h1 := hd6.zg; rw [← e, hk] at h1; have := (hd.key x _ hF1).1; omega
          have hu68 : Upd w6 w8 (fun k => k = g ∨ (Value.slice (some ⟨gr, 0, none⟩) r.length cr).ownBlock = some k) := (HU7.out.mono fun k _ hk => .inr (by rw [hk]; rfl)).trans (hu78.mono fun k _ hk => .inl hk)
          have hRs8 : Row w8 (.slice As s.length cs) s := hRs.upd hu68 (fun k hk e => by
            rcases e with e | e
            · exact hgo k (hos k hk).1 e
            · exact hsr k hk e)
          have hbf8 := HBF7.out.upd hu78 (fun e => hgo _ hofn e)
          have hcf0 : w8.cell? ⟨fbx x, 0, none⟩ = some (.slice As s.length cs) := hbf8.cell 0
          have hts := turn_set r j xv HKL.out
          have hrow7 : Row w8 (.slice (some ⟨gr, 0, none⟩) (r.set j xv).length cr) (r.set j xv) := by
            have h7 : Row w7 (.slice (some ⟨gr, 0, none⟩) (r.set j xv).length cr) (r.set j xv) := by unfold Row; rw [List.length_set]; exact HST.out.1
            exact h7.upd hu78 (fun k hk e => hgo k (hor k (by simpa [Value.ownBlock] using hk)).1 e)
          have hkr := reads_take (own_reads' hrow7) (j + 1) (by rw [List.length_set]; exact HKL.out)
          obtain ⟨ks, hks⟩ : ∃ ks, (r.set j xv).take (j + 1) = ks := ⟨_, rfl⟩
          rw [hks] at hts hkr
          rw [hts.2] at hkr
          have hbl : (s.length + (j + 1)) * 1 ≤ 140737488355328 := by have h4 := HR4.out; have h5 := HKL.out; omega
          have HRS8 := Lib.hid hRs8; have HKR := Lib.hid hkr; have HBF8 := Lib.hid hbf8; have HU68 := Lib.hid hu68; have HBG8 := Lib.hid hbg8; have HKS := Lib.hid (And.intro hks hts); have HGO := Lib.hid hgo; have HBLL := Lib.hid hbl
          have HNE9 := Lib.hid (show some (fbx x) ≠ (Value.slice As s.length cs).ownBlock from fun e => (hos _ e.symm).2 rfl)
          have HOO := Lib.hid (And.intro hofn (And.intro hRs (And.intro hos hor)))
          clear hofn hRs hRr hos hor hsr hgo hu68 hRs8 hbf8 hts hrow7 hkr hks hbl hbg8 hu78
          go_wp2_with (first | ((with_reducible refine gate_builtin (b := .append) (xs := #[.tmp 84, .tmp 85]) rfl ?_); at_builtin; refine stop_append rfl ?_))
          refine Lib.hid ?_
          refine print_append_row (w0 := w8) 0 rfl (.tmp 84) (.tmp 85) 22 5 .u8 1 rfl Try.underlying22 infoB (by decide) (.slice As s.length cs) s ks (some ⟨gr, 0, none⟩) (j + 1) cr rfl rfl HRS8.out HKR.out (Below.refl _ _) (Nat.zero_le _) HBLL.out ?_
          intro v9 w9 hO9 hb9 hg9 hat9
          obtain ⟨A9, c9, rfl, _⟩ := own_reads hO9
          have hO9' : Row w9 (.slice A9 (s ++ ks).length c9) (s ++ ks) := hO9
          rw [List.length_append] at hO9' hat9
          simp only [List.length_append]
          have hB9 := HBF8.out.grown hg9 HNE9.out
          have hz90 := hB9.frozen 0
          have hc90 : w9.cell? ⟨fbx x, 0, none⟩ = some (.slice As s.length cs) := hB9.cell 0
          have hB10 := hB9.set_ 0 (.slice A9 (s.length + ks.length) c9)
          have hz91 := hB10.frozen 1
          have hc91 : (w9.setCell ⟨fbx x, 0, none⟩ (.slice A9 (s.length + ks.length) c9)).cell? ⟨fbx x, 1, none⟩ = some (.slice (some ⟨gr, 0, none⟩) r.length cr) := hB10.cell 1
          have HO9 := Lib.hid hO9'; have HG9 := Lib.hid hg9; have HAT9 := Lib.hid hat9; have HB10 := Lib.hid hB10
          clear hO9 hO9' hb9 hg9 hat9 hB9 hB10
          go_wp2
          generalize hwf : (w9.setCell ⟨fbx x, 0, none⟩ (.slice A9 (s.length + ks.length) c9)).setCell ⟨fbx x, 1, none⟩ (.slice none 0 0) = wf at *
          have hBf9 := HB10.out.set_ 1 (.slice none 0 0)
          rw [hwf] at hBf9
          have hxx := hd6.key x _ hF1
          obtain ⟨hm6, hf6⟩ := HM6.out
          have hdone := crash_done hd6 hf6 hxx hF1 hm6 HX.out.2.1 HX.out.2.2.1 HOO.out.1 HOO.out.2.2.1 HOO.out.2.2.2 HU68.out (by rw [HKS.out.2.2, HFR.out]; exact HBG8.out) (by rw [HKS.out.2.2]; exact HKL.out) HO9.out HG9.out HAT9.out hwf hBf9
          rw [← crash_eq (t := t) HK.out HKL.out HXV.out HKS.out.1, ← HTL.out] at hdone
          exact round_done H0.out hrg ho1 HRG6.out hlt2 hw6 hd6 hF hxx.1 hdone
      · have htl : tailOf l x = z33 := if_neg hi
        have HTL := Lib.hid htl; clear htl
        obtain ⟨t, ht⟩ : ∃ t : S33, t = z33 := ⟨_, rfl⟩
        have HT6 := Lib.hid hT5; have HU56 := Lib.hid (Upd.refl w5 (· = w2.heap.size + 1))
        have d9 : decide (0 ≤ idxT x l) = false := decide_eq_false hi
        clear hT5
        go_upto_region 9 with fail
        clear d9
        have hd6 := hd5.upd HU56.out (fun k hk e => hd2.fresh (b := w2.heap.size + 1) (by omega) (e ▸ hk))
        have hf6 : FileAt w5 o1 x (fbx x) s r := hf5.upd HU56.out (fun k hk e => hd2.fresh (b := w2.heap.size + 1) (by omega) (.inr (.inr (by have := (hd.key x _ hF1).1; rw [← e, hk]; omega))))
        have hw6 : Upd W0 w5 (mine o g mb) := upd_then hw5 HU56.out (fun k e => .inr (by have := hw2.size; omega))
        have HRG6 := Lib.hid (ranges_upd (ranges_upd hrg2 (Upd.of_below HB25.out (fun _ => False)) (fun h => h) (fun h => h)) HU56.out (fun e => by have := hd.mlt; have := hu2.size; omega) (fun e => by have := hrg.lt; have := hu2.size; omega))
        have HM6 := Lib.hid (And.intro (((hfile0.1.upd hu2 (fun e => hrb (.inr (.inl e.symm)))).upd (Upd.of_below HB25.out (fun _ => False)) (fun h => h)).upd HU56.out (fun e => by have := hd.mlt; have := hu2.size; omega)) (fun n y hy => ((hfile0.2 n y hy).upd hu2 (fun k hk e => hrb (.inr (.inr (by subst e; have := (hd.key n _ hy).1; omega))))).upd (Upd.of_below HB25.out (fun _ => False)) (fun _ _ h => h) |>.upd HU56.out (fun k hk e => hd2.fresh (b := w2.heap.size + 1) (by omega) (.inr (.inr (by have := (hd.key n _ hy).1; rw [← e, hk]; omega))))))
        clear hf5
        obtain ⟨hofn, vs, vr, hBf, hRs, hRr, hos, hor, hsr⟩ := hf6
        obtain ⟨Ar, cr, rfl, hrd⟩ := hRr.reads
        obtain ⟨As, cs, rfl, _⟩ := hRs.reads
        have hcr := hRr.C.1
        have hc1 : w5.cell? ⟨fbx x, 1, none⟩ = some (.slice Ar r.length cr) := hBf.cell 1
        have hct : w5.cell? ⟨w2.heap.size + 1, 1, none⟩ = some (.int .i64 0) := HT6.out.cell 1
        have hszr := szF_le (mixF l F lf) (n := x) (by have := (hd.key x _ hF1).1; omega) (hd.key x _ hF1).2
        rw [hF1] at hszr
        simp only [szF] at hszr
        have HR4 : RowKit.Hid (s.length + r.length ≤ 4194304) := Lib.hid (by have := hd.fit; have := hd.big; omega)
        clear hszr
        have hm1 : (if (r.length : Int) < 0 then (r.length : Int) else 0) = 0 := if_neg (by omega)
        have hkc : (0 : Int) ≤ cr := by omega
        have HK : RowKit.Hid (keepN z33 r = 0) := Lib.hid (by
          unfold keepN keepI
          have h0 : ¬ (r.length : Int) < 0 := by omega
          simp [z33, h0])
        have HX := Lib.hid (And.intro hofn (And.intro hBf (And.intro hRs (And.intro hRr (And.intro hos (And.intro hor (And.intro hsr hrd)))))))
        clear hofn hBf hRs hRr hos hor hsr hrd
        refine wp_region_held (S := (fun W => W.cell? ⟨fbx x, 1, none⟩ = some (.slice Ar r.length cr) ∧ W.cell? ⟨w2.heap.size + 1, 1, none⟩ = some (.int .i64 0))) (by kernel_rfl) ?_
        simp only [List.size_toArray, List.length_cons, List.length_nil, Nat.zero_add, Nat.reduceAdd]
        have hHeld : ((fun W => W.cell? ⟨fbx x, 1, none⟩ = some (.slice Ar r.length cr) ∧ W.cell? ⟨w2.heap.size + 1, 1, none⟩ = some (.int .i64 0))) w5.drew := ⟨hc1, hct⟩
        refine wpAnyH_take (i := 0) (v := ?_) rfl (by kernel_rfl) (by kernel_rfl) (by kernel_rfl) (fun _ _ _ h => h) (Or.inl ⟨by rfl, ?_⟩) (by assumption) ?_
        rotate_left
        · (intro w hSw; (try dsimp only at hSw); go_split_ands; go_simp; try with_reducible rfl)
        try simp only [List.getElem_toArray, List.getElem_cons_succ, List.getElem_cons_zero, Act.put, List.setIfInBounds_toArray, List.set_cons_zero, List.set_cons_succ]
        refine wpAnyH_take (i := 1) (v := ?_) rfl (by kernel_rfl) (by kernel_rfl) (by kernel_rfl) (fun _ _ _ h => h) (Or.inl ⟨by rfl, ?_⟩) (by assumption) ?_
        rotate_left
        · (intro w hSw; (try dsimp only at hSw); go_split_ands; go_simp; try with_reducible rfl)
        try simp only [List.getElem_toArray, List.getElem_cons_succ, List.getElem_cons_zero, Act.put, List.setIfInBounds_toArray, List.set_cons_zero, List.set_cons_succ]
        refine wpAnyH_take (i := 2) (v := ?_) rfl (by kernel_rfl) (by kernel_rfl) (by kernel_rfl) (fun _ _ _ h => h) (Or.inl ⟨by rfl, ?_⟩) (by assumption) ?_
        rotate_left
        · (intro w hSw; (try dsimp only at hSw); go_split_ands; go_simp; try with_reducible rfl)
        try simp only [List.getElem_toArray, List.getElem_cons_succ, List.getElem_cons_zero, Act.put, List.setIfInBounds_toArray, List.set_cons_zero, List.set_cons_succ]
        refine wpAnyH_take (i := 3) (v := ?_) rfl (by kernel_rfl) (by kernel_rfl) (by kernel_rfl) (fun _ _ _ h => h) (Or.inl ⟨by rfl, ?_⟩) (by assumption) ?_
        rotate_left
        · (intro w hSw; (try dsimp only at hSw); go_split_ands; go_simp; try with_reducible rfl)
        try simp only [List.getElem_toArray, List.getElem_cons_succ, List.getElem_cons_zero, Act.put, List.setIfInBounds_toArray, List.set_cons_zero, List.set_cons_succ]
        refine wpAnyH_take (i := 4) (v := ?_) rfl (by kernel_rfl) (by kernel_rfl) (by kernel_rfl) (fun _ _ _ h => h) (Or.inl ⟨by rfl, ?_⟩) (by assumption) ?_
        rotate_left
        · (intro w hSw; (try dsimp only at hSw); go_split_ands; go_simp; try with_reducible rfl)
        try simp only [List.getElem_toArray, List.getElem_cons_succ, List.getElem_cons_zero, Act.put, List.setIfInBounds_toArray, List.set_cons_zero, List.set_cons_succ]
        refine wpAnyH_take (i := 5) (v := ?_) rfl (by kernel_rfl) (by kernel_rfl) (by kernel_rfl) (fun _ _ _ h => h) (Or.inl ⟨by rfl, ?_⟩) (by assumption) ?_
        rotate_left
        · (intro w hSw; (try dsimp only at hSw); go_split_ands; go_simp; try with_reducible rfl)
        try simp only [List.getElem_toArray, List.getElem_cons_succ, List.getElem_cons_zero, Act.put, List.setIfInBounds_toArray, List.set_cons_zero, List.set_cons_succ]
        refine wpAnyH_take (i := 6) (v := ?_) rfl (by kernel_rfl) (by kernel_rfl) (by kernel_rfl) (fun _ _ _ h => h) (Or.inl ⟨by rfl, ?_⟩) (by assumption) ?_
        rotate_left
        · (intro w hSw; (try dsimp only at hSw); go_split_ands; go_simp; try with_reducible rfl)
        try simp only [List.getElem_toArray, List.getElem_cons_succ, List.getElem_cons_zero, Act.put, List.setIfInBounds_toArray, List.set_cons_zero, List.set_cons_succ]
        refine wpAnyH_take (i := 7) (v := ?_) rfl (by kernel_rfl) (by kernel_rfl) (by kernel_rfl) (fun _ _ _ h => h) (Or.inl ⟨by rfl, ?_⟩) (by assumption) ?_
        rotate_left
        · (intro w hSw; (try dsimp only at hSw); go_split_ands; go_simp; try with_reducible rfl)
        try simp only [List.getElem_toArray, List.getElem_cons_succ, List.getElem_cons_zero, Act.put, List.setIfInBounds_toArray, List.set_cons_zero, List.set_cons_succ]
        refine wpAnyH_take (i := 8) (v := ?_) rfl (by kernel_rfl) (by kernel_rfl) (by kernel_rfl) (fun _ _ _ h => h) (Or.inl ⟨by rfl, ?_⟩) (by assumption) ?_
        rotate_left
        · (intro w hSw; (try dsimp only at hSw); go_split_ands; go_simp; try with_reducible rfl)
        try simp only [List.getElem_toArray, List.getElem_cons_succ, List.getElem_cons_zero, Act.put, List.setIfInBounds_toArray, List.set_cons_zero, List.set_cons_succ]
        refine wpAnyH_take (i := 9) (v := ?_) rfl (by kernel_rfl) (by kernel_rfl) (by kernel_rfl) (fun _ _ _ h => h) (Or.inl ⟨by rfl, ?_⟩) (by assumption) ?_
        rotate_left
        · (intro w hSw; (try dsimp only at hSw); go_split_ands; go_simp; try with_reducible rfl)
        try simp only [List.getElem_toArray, List.getElem_cons_succ, List.getElem_cons_zero, Act.put, List.setIfInBounds_toArray, List.set_cons_zero, List.set_cons_succ]
        refine wpAnyH_take (i := 10) (v := ?_) rfl (by kernel_rfl) (by kernel_rfl) (by kernel_rfl) (fun _ _ _ h => h) (Or.inl ⟨by rfl, ?_⟩) (by assumption) ?_
        rotate_left
        · (intro w hSw; (try dsimp only at hSw); go_split_ands; go_simp; try with_reducible rfl)
        try simp only [List.getElem_toArray, List.getElem_cons_succ, List.getElem_cons_zero, Act.put, List.setIfInBounds_toArray, List.set_cons_zero, List.set_cons_succ]
        refine wpAnyH_take (i := 11) (v := ?_) rfl (by kernel_rfl) (by kernel_rfl) (by kernel_rfl) (fun _ _ _ h => h) (Or.inl ⟨by rfl, ?_⟩) (by assumption) ?_
        rotate_left
        · (intro w hSw; (try dsimp only at hSw); go_split_ands; go_simp; try with_reducible rfl)
        try simp only [List.getElem_toArray, List.getElem_cons_succ, List.getElem_cons_zero, Act.put, List.setIfInBounds_toArray, List.set_cons_zero, List.set_cons_succ]
        refine wpAnyH_take (i := 12) (v := ?_) rfl (by kernel_rfl) (by kernel_rfl) (by kernel_rfl) (fun _ _ _ h => h) (Or.inl ⟨by rfl, ?_⟩) (by assumption) ?_
        rotate_left
        · (intro w hSw; (try dsimp only at hSw); go_split_ands; go_simp; try with_reducible rfl)
        try simp only [List.getElem_toArray, List.getElem_cons_succ, List.getElem_cons_zero, Act.put, List.setIfInBounds_toArray, List.set_cons_zero, List.set_cons_succ]
        refine wpAnyH_take (i := 13) (v := ?_) rfl (by kernel_rfl) (by kernel_rfl) (by kernel_rfl) (fun _ _ _ h => h) (Or.inl ⟨by rfl, ?_⟩) (by assumption) ?_
        rotate_left
        · (intro w hSw; (try dsimp only at hSw); go_split_ands; go_simp; try with_reducible rfl)
        try simp only [List.getElem_toArray, List.getElem_cons_succ, List.getElem_cons_zero, Act.put, List.setIfInBounds_toArray, List.set_cons_zero, List.set_cons_succ]
        refine wpAnyH_take (i := 14) (v := ?_) rfl (by kernel_rfl) (by kernel_rfl) (by kernel_rfl) (fun _ _ _ h => h) (Or.inl ⟨by rfl, ?_⟩) (by assumption) ?_
        rotate_left
        · (intro w hSw; (try dsimp only at hSw); go_split_ands; go_simp; try with_reducible rfl)
        try simp only [List.getElem_toArray, List.getElem_cons_succ, List.getElem_cons_zero, Act.put, List.setIfInBounds_toArray, List.set_cons_zero, List.set_cons_succ]
        refine wpAnyH_done (by kernel_rfl) ?_ _
        clear hHeld hm1 hkc
        go_upto_region 13 with fail
        have hbg6 := hd6.blk
        have hcg1 : w5.cell? ⟨g, 1, none⟩ = some (.int .i64 (room - sumF (mixF l F lf))) := hbg6.cell 1
        have hfzg := hbg6.frozen 1
        have HBG6 := Lib.hid hbg6
        have e7 : RowKit.Hid (IntKind.i64.wrap (r.length : Int) = (r.length : Int) ∧ IntKind.i64.wrap ((room : Int) - sumF (mixF l F lf) + (r.length : Int)) = (room : Int) - sumF (mixF l F lf) + (r.length : Int)) := Lib.hid (by
          have h4 := HR4.out; have hf := hd.fit; have hb := hd.big
          rw [Go.IntWalk.i64_left, Go.IntWalk.i64_left]
          exact ⟨w64 (by omega) (by omega), w64 (by omega) (by omega)⟩)
        obtain ⟨hE7, hE8⟩ := e7.out
        generalize hfr : ((room : Int) - sumF (mixF l F lf)) = fr at *
        have HFR := Lib.hid hfr; clear hfr
        clear hbg6
        refine wp_region_last1_held (S := (fun W => W.cell? ⟨g, 1, none⟩ = some (.int .i64 fr) ∧ W.cell? ⟨fbx x, 1, none⟩ = some (.slice Ar r.length cr))) (l := [_, _, _, _, _, _, _, _, _, _, _, _, _, _, _]) (o := _) (by kernel_rfl) (by kernel_rfl) ?_
        simp only [List.size_toArray, List.length_cons, List.length_nil, Nat.zero_add, Nat.reduceAdd]
        have hHeld : ((fun W => W.cell? ⟨g, 1, none⟩ = some (.int .i64 fr) ∧ W.cell? ⟨fbx x, 1, none⟩ = some (.slice Ar r.length cr))) w5.drew.drew := ⟨hcg1, hc1⟩
        refine wpAnyH_take (i := 0) (v := ?_) rfl (by kernel_rfl) (by kernel_rfl) (by kernel_rfl) (fun _ _ _ h => h) (Or.inl ⟨by rfl, ?_⟩) (by assumption) ?_
        rotate_left
        · (intro w hSw; (try dsimp only at hSw); go_split_ands; go_simp; try with_reducible rfl)
        try simp only [List.getElem_toArray, List.getElem_cons_succ, List.getElem_cons_zero, Act.put, List.setIfInBounds_toArray, List.set_cons_zero, List.set_cons_succ]
        refine wpAnyH_take (i := 1) (v := ?_) rfl (by kernel_rfl) (by kernel_rfl) (by kernel_rfl) (fun _ _ _ h => h) (Or.inl ⟨by rfl, ?_⟩) (by assumption) ?_
        rotate_left
        · (intro w hSw; (try dsimp only at hSw); go_split_ands; go_simp; try with_reducible rfl)
        try simp only [List.getElem_toArray, List.getElem_cons_succ, List.getElem_cons_zero, Act.put, List.setIfInBounds_toArray, List.set_cons_zero, List.set_cons_succ]
        refine wpAnyH_take (i := 2) (v := ?_) rfl (by kernel_rfl) (by kernel_rfl) (by kernel_rfl) (fun _ _ _ h => h) (Or.inl ⟨by rfl, ?_⟩) (by assumption) ?_
        rotate_left
        · (intro w hSw; (try dsimp only at hSw); go_split_ands; go_simp; try with_reducible rfl)
        try simp only [List.getElem_toArray, List.getElem_cons_succ, List.getElem_cons_zero, Act.put, List.setIfInBounds_toArray, List.set_cons_zero, List.set_cons_succ]
        refine wpAnyH_take (i := 3) (v := ?_) rfl (by kernel_rfl) (by kernel_rfl) (by kernel_rfl) (fun _ _ _ h => h) (Or.inl ⟨by rfl, ?_⟩) (by assumption) ?_
        rotate_left
        · (intro w hSw; (try dsimp only at hSw); go_split_ands; go_simp; try with_reducible rfl)
        try simp only [List.getElem_toArray, List.getElem_cons_succ, List.getElem_cons_zero, Act.put, List.setIfInBounds_toArray, List.set_cons_zero, List.set_cons_succ]
        refine wpAnyH_take (i := 4) (v := ?_) rfl (by kernel_rfl) (by kernel_rfl) (by kernel_rfl) (fun _ _ _ h => h) (Or.inl ⟨by rfl, ?_⟩) (by assumption) ?_
        rotate_left
        · (intro w hSw; (try dsimp only at hSw); go_split_ands; go_simp; try with_reducible rfl)
        try simp only [List.getElem_toArray, List.getElem_cons_succ, List.getElem_cons_zero, Act.put, List.setIfInBounds_toArray, List.set_cons_zero, List.set_cons_succ]
        refine wpAnyH_take (i := 5) (v := ?_) rfl (by kernel_rfl) (by kernel_rfl) (by kernel_rfl) (fun _ _ _ h => h) (Or.inl ⟨by rfl, ?_⟩) (by assumption) ?_
        rotate_left
        · (intro w hSw; (try dsimp only at hSw); go_split_ands; go_simp; try with_reducible rfl)
        try simp only [List.getElem_toArray, List.getElem_cons_succ, List.getElem_cons_zero, Act.put, List.setIfInBounds_toArray, List.set_cons_zero, List.set_cons_succ]
        refine wpAnyH_take (i := 6) (v := ?_) rfl (by kernel_rfl) (by kernel_rfl) (by kernel_rfl) (fun _ _ _ h => h) (Or.inl ⟨by rfl, ?_⟩) (by assumption) ?_
        rotate_left
        · (intro w hSw; (try dsimp only at hSw); go_split_ands; go_simp; try with_reducible rfl)
        try simp only [List.getElem_toArray, List.getElem_cons_succ, List.getElem_cons_zero, Act.put, List.setIfInBounds_toArray, List.set_cons_zero, List.set_cons_succ]
        refine wpAnyH_take (i := 7) (v := ?_) rfl (by kernel_rfl) (by kernel_rfl) (by kernel_rfl) (fun _ _ _ h => h) (Or.inl ⟨by rfl, ?_⟩) (by assumption) ?_
        rotate_left
        · (intro w hSw; (try dsimp only at hSw); go_split_ands; go_simp; try with_reducible rfl)
        try simp only [List.getElem_toArray, List.getElem_cons_succ, List.getElem_cons_zero, Act.put, List.setIfInBounds_toArray, List.set_cons_zero, List.set_cons_succ]
        refine wpAnyH_take (i := 8) (v := ?_) rfl (by kernel_rfl) (by kernel_rfl) (by kernel_rfl) (fun _ _ _ h => h) (Or.inl ⟨by rfl, ?_⟩) (by assumption) ?_
        rotate_left
        · (intro w hSw; (try dsimp only at hSw); go_split_ands; go_simp; try with_reducible rfl)
        try simp only [List.getElem_toArray, List.getElem_cons_succ, List.getElem_cons_zero, Act.put, List.setIfInBounds_toArray, List.set_cons_zero, List.set_cons_succ]
        refine wpAnyH_take (i := 9) (v := ?_) rfl (by kernel_rfl) (by kernel_rfl) (by kernel_rfl) (fun _ _ _ h => h) (Or.inl ⟨by rfl, ?_⟩) (by assumption) ?_
        rotate_left
        · (intro w hSw; (try dsimp only at hSw); go_split_ands; go_simp; try with_reducible rfl)
        try simp only [List.getElem_toArray, List.getElem_cons_succ, List.getElem_cons_zero, Act.put, List.setIfInBounds_toArray, List.set_cons_zero, List.set_cons_succ]
        refine wpAnyH_take (i := 10) (v := ?_) rfl (by kernel_rfl) (by kernel_rfl) (by kernel_rfl) (fun _ _ _ h => h) (Or.inl ⟨by rfl, ?_⟩) (by assumption) ?_
        rotate_left
        · (intro w hSw; (try dsimp only at hSw); go_split_ands; go_simp; try with_reducible rfl)
        try simp only [List.getElem_toArray, List.getElem_cons_succ, List.getElem_cons_zero, Act.put, List.setIfInBounds_toArray, List.set_cons_zero, List.set_cons_succ]
        refine wpAnyH_take (i := 11) (v := ?_) rfl (by kernel_rfl) (by kernel_rfl) (by kernel_rfl) (fun _ _ _ h => h) (Or.inl ⟨by rfl, ?_⟩) (by assumption) ?_
        rotate_left
        · (intro w hSw; (try dsimp only at hSw); go_split_ands; go_simp; try with_reducible rfl)
        try simp only [List.getElem_toArray, List.getElem_cons_succ, List.getElem_cons_zero, Act.put, List.setIfInBounds_toArray, List.set_cons_zero, List.set_cons_succ]
        refine wpAnyH_take (i := 12) (v := ?_) rfl (by kernel_rfl) (by kernel_rfl) (by kernel_rfl) (fun _ _ _ h => h) (Or.inl ⟨by rfl, ?_⟩) (by assumption) ?_
        rotate_left
        · (intro w hSw; (try dsimp only at hSw); go_split_ands; go_simp; try with_reducible rfl)
        try simp only [List.getElem_toArray, List.getElem_cons_succ, List.getElem_cons_zero, Act.put, List.setIfInBounds_toArray, List.set_cons_zero, List.set_cons_succ]
        refine wpAnyH_take (i := 13) (v := ?_) rfl (by kernel_rfl) (by kernel_rfl) (by kernel_rfl) (fun _ _ _ h => h) (Or.inl ⟨by rfl, ?_⟩) (by assumption) ?_
        rotate_left
        · (intro w hSw; (try dsimp only at hSw); go_split_ands; go_simp; try with_reducible rfl)
        try simp only [List.getElem_toArray, List.getElem_cons_succ, List.getElem_cons_zero, Act.put, List.setIfInBounds_toArray, List.set_cons_zero, List.set_cons_succ]
        refine wpAnyH_take (i := 14) (v := ?_) rfl (by kernel_rfl) (by kernel_rfl) (by kernel_rfl) (fun _ _ _ h => h) (Or.inl ⟨by rfl, ?_⟩) (by assumption) ?_
        rotate_left
        · (intro w hSw; (try dsimp only at hSw); go_split_ands; go_simp; try with_reducible rfl)
        try simp only [List.getElem_toArray, List.getElem_cons_succ, List.getElem_cons_zero, Act.put, List.setIfInBounds_toArray, List.set_cons_zero, List.set_cons_succ]
        refine wpAnyH_done (by kernel_rfl) ?_ _
        refine lastPost_wp ?_
        go_upto_region 14 with fail
        clear hcg1 hfzg hE7 hE8 e7 hHeld hc1
        have hu68' : Upd w5 ((w5.setCell ⟨g, 1, none⟩ (.int .i64 (fr + (r.length : Int)))).drew.drew) (· = g) := ((Upd.refl w5 (· = g)).setCell (p := ⟨g, 1, none⟩) (.inl rfl) _).drew.drew
        have hbg8 : Blk ((w5.setCell ⟨g, 1, none⟩ (.int .i64 (fr + (r.length : Int)))).drew.drew) g 64 #[.map (some mb), .int .i64 (fr + (r.length : Int)), .int .i64 (-1), .bool false, .int .i64 ops] := HBG6.out.set_ 1 (.int .i64 (fr + (r.length : Int)))
        generalize (w5.setCell ⟨g, 1, none⟩ (.int .i64 (fr + (r.length : Int)))).drew.drew = w8 at *
        obtain ⟨hofn, hBf, hRs, hRr, hos, hor, hsr, _⟩ := HX.out
        have hgo : ∀ k, o1 k = x → ¬ k = g := fun k hk e => by have h1 := hd6.zg; rw [← e, hk] at h1; have := (hd.key x _ hF1).1; omega
        have hu68 : Upd w5 w8 (fun k => k = g ∨ (Value.slice Ar r.length cr).ownBlock = some k) := hu68'.mono fun k _ hk => .inl hk
        have hRs8 : Row w8 (.slice As s.length cs) s := hRs.upd hu68' (fun k hk e => hgo k (hos k hk).1 e)
        have hbf8 := hBf.upd hu68' (fun e => hgo _ hofn e)
        have hcf0 : w8.cell? ⟨fbx x, 0, none⟩ = some (.slice As s.length cs) := hbf8.cell 0
        have hkr : ReadsInt w8 .u8 Ar 0 [] := ⟨rfl, by omega, fun h => absurd h (Nat.lt_irrefl 0)⟩
        have hbl : (s.length + 0) * 1 ≤ 140737488355328 := by have h4 := HR4.out; omega
        have HRS8 := Lib.hid hRs8; have HKR := Lib.hid hkr; have HBF8 := Lib.hid hbf8; have HU68 := Lib.hid hu68; have HBG8 := Lib.hid hbg8; have HBLL := Lib.hid hbl
        have HNE9 := Lib.hid (show some (fbx x) ≠ (Value.slice As s.length cs).ownBlock from fun e => (hos _ e.symm).2 rfl)
        have HOO := Lib.hid (And.intro hofn (And.intro hRs (And.intro hos hor)))
        clear hofn hRs hRr hos hor hsr hgo hu68 hRs8 hbf8 hkr hbl hbg8 hu68' hBf
        go_wp2_with (first | ((with_reducible refine gate_builtin (b := .append) (xs := #[.tmp 84, .tmp 85]) rfl ?_); at_builtin; refine stop_append rfl ?_))
        refine Lib.hid ?_
        refine print_append_row (w0 := w8) 0 rfl (.tmp 84) (.tmp 85) 22 5 .u8 1 rfl Try.underlying22 infoB (by decide) (.slice As s.length cs) s [] Ar 0 cr rfl rfl HRS8.out HKR.out (Below.refl _ _) (Nat.zero_le _) HBLL.out ?_
        intro v9 w9 hO9 hb9 hg9 hat9
        obtain ⟨A9, c9, rfl, _⟩ := own_reads hO9
        have hO9' : Row w9 (.slice A9 (s ++ []).length c9) (s ++ []) := hO9
        have hB9 := HBF8.out.grown hg9 HNE9.out
        have hz90 := hB9.frozen 0
        have hc90 : w9.cell? ⟨fbx x, 0, none⟩ = some (.slice As s.length cs) := hB9.cell 0
        generalize hv9 : Value.slice A9 (s ++ []).length c9 = v9 at *
        obtain ⟨n9, hn9⟩ : ∃ n9, (s ++ ([] : List Int)).length = n9 := ⟨_, rfl⟩
        rw [hn9] at hv9
        subst hv9
        clear hn9
        have hB10 := hB9.set_ 0 (.slice A9 n9 c9)
        have hz91 := hB10.frozen 1
        have hc91 : (w9.setCell ⟨fbx x, 0, none⟩ (.slice A9 n9 c9)).cell? ⟨fbx x, 1, none⟩ = some (.slice Ar r.length cr) := hB10.cell 1
        have HO9 := Lib.hid hO9'; have HG9 := Lib.hid hg9; have HAT9 := Lib.hid hat9; have HB10 := Lib.hid hB10
        clear hO9 hO9' hb9 hg9 hat9 hB9 hB10
        go_wp2
        generalize hwf : (w9.setCell ⟨fbx x, 0, none⟩ (.slice A9 n9 c9)).setCell ⟨fbx x, 1, none⟩ (.slice none 0 0) = wf at *
        have hBf9 := HB10.out.set_ 1 (.slice none 0 0)
        rw [hwf] at hBf9
        have hxx := hd6.key x _ hF1
        obtain ⟨hm6, hf6⟩ := HM6.out
        have hdone := crash_done (ks := []) hd6 hf6 hxx hF1 hm6 HX.out.2.1 HX.out.2.2.1 HOO.out.1 HOO.out.2.2.1 HOO.out.2.2.2 HU68.out (by rw [HFR.out]; simpa using HBG8.out) (Nat.zero_le _) HO9.out HG9.out HAT9.out hwf hBf9
        rw [← crash_eq0 (t := z33) HK.out, ← HTL.out] at hdone
        exact round_done H0.out hrg ho1 HRG6.out hlt2 hw6 hd6 hF hxx.1 hdone
end
end Go.Proofs.Ytnimghkkhiacfaa.P
