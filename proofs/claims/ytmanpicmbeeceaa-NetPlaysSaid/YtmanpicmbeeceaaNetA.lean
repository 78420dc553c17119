/- The net's letters in memory; the small functions: like, there, New, Len. -/
import Derived.Test.YtmanpicmbeeceaaRows
import Derived.Test.YtmanpicmbeeceaaBase
namespace Go.Proofs.Ytmanpicmbeeceaa
open Go.RowKit

theorem Try.info5 : (Try.prog.info? 5).map (fun i => (i.zero, i.size, i.bytes)) = some (some (.int .u8 0), 1, 1) := by kernel_rfl
theorem Try.size5 : (Try.prog.info? 5).map (·.size) = some 1 := by kernel_rfl
theorem Try.infoBytes : (Try.prog.info? 34).map (fun i => (i.zero, i.size, i.bytes)) = some (some (.slice none 0 0), 1, 24) := by kernel_rfl
theorem Try.infoLetter : (Try.prog.info? 58).map (fun i => (i.zero, i.size, i.bytes)) = some (some (.agg #[.slice none 0 0, .bool false]), 2, 32) := by kernel_rfl
theorem Try.infoOne : (Try.prog.info? 50).map (fun i => (i.zero, i.size, i.bytes)) = some (some (.agg #[.slice none 0 0, .bool false]), 2, 32) := by kernel_rfl


set_option maxHeartbeats 400000 in
theorem like_any {H : PHeap} (v : Value) (bs : List UInt8) (s : Bool) (w : World) (hF : Fits w H) (hv : Bys H v bs) (hm : bs.length ≤ 140737488355328) :
    Calls Try.prog 22 #[v, .bool s] w fun e w' => ∃ g, e = .returned (.agg #[.slice (some ⟨g, 0, none⟩) bs.length bs.length, .bool s]) ∧ w.heap.size ≤ g ∧ Blk w' g 5 (byts bs).toArray ∧ Below w.heap.size w w' := by
  obtain ⟨A, c, inner, rfl, _, _, hr, hi⟩ := hv
  obtain rfl := byts_of_reps hi
  have hmk := fun W => run_make_row' (P := Try.prog) 34 5 (.int .u8 0) 1 Try.underlying34 Try.info5 rfl .i64 .i64 bs.length (by omega) (by omega) W
  generalize hz : bs.length = n at *
  have HN := Lib.hid hz; clear hz
  have e5 := (Blk.new (w.alloc (.cells #[.slice none 0 0, .bool false] 58)) 5 (madeCells #[.int .u8 0] n)).alloc (.cells #[.slice (some ⟨w.heap.size + 1, 0, none⟩) n n, .bool s] 58)
  have e4 := ((Blk.new w 58 #[.slice none 0 0, .bool false]).alloc (.cells (madeCells #[.int .u8 0] n) 5)).alloc (.cells #[.slice (some ⟨w.heap.size + 1, 0, none⟩) n n, .bool s] 58)
  have HU := (((Below.refl w.heap.size w).alloc (Nat.le_refl _) (.cells #[.slice none 0 0, .bool false] 58)).alloc (by simp) (.cells (madeCells #[.int .u8 0] n) 5)).alloc (by simp; omega) (.cells #[.slice (some ⟨w.heap.size + 1, 0, none⟩) n n, .bool s] 58)
  have hF2 := hF.below HU
  simp only [World.size_alloc] at e5
  go_enter Try.func22, Try.ntmps22
  go_wp2_with (refine wpList_copy_upd rfl (.tmp 12) (.tmp 13) 34 34 rfl 5 Try.underlying34 Try.size5 H hF2 _ _ _ _ _ _ rfl rfl (w.heap.size + 1) 0 _ 5 e5 (byts bs) ?hn (fun _ => rfl) hr ?hfit (byts_one bs) ?k)
  case hn => rw [byts_length, HN.out]; exact (Nat.min_self _).symm
  case hfit => simp only [size_madeCells, byts_length, HN.out]; omega
  case k =>
    intro w' hb hu
    have HB := (HU.trans (hu.below (B := w.heap.size) (by simp; omega) (fun k hk => by omega)))
    obtain ⟨hc, hf⟩ := hu.cells
    have hb' : Blk w' (w.heap.size + 1) 5 (byts bs).toArray := by
      simpa [toList_made, byts_length, HN.out] using hb
    have e7 := e4.upd hu (by omega)
    clear hmk e4 e5 HU hb hF2 hu
    go_wp2
    obtain ⟨c0, c1, _⟩ := ((e7.set_ 0 (.slice (some ⟨w.heap.size + 1, 0, none⟩) n n)).set_ 1 (.bool s)).c2
    refine bodyPost_ret (v := .agg #[.slice (some ⟨w.heap.size + 1, 0, none⟩) n n, .bool s]) (by simp [results, Try.results22, go_sem, c0, c1]) rfl ⟨_, rfl, by omega, ?_, ?_⟩
    · exact (hb'.far (p := ⟨w.heap.size, 0, none⟩) (by simp) _).far (p := ⟨w.heap.size, 1, none⟩) (by simp) _
    · exact (HB.setCell (p := ⟨w.heap.size, 0, none⟩) (Nat.le_refl _) _).setCell (p := ⟨w.heap.size, 1, none⟩) (Nat.le_refl _) _

/-! ### letters -/
structure Lt where
  g : Nat
  cap : Nat
  bs : List UInt8
  sp : Bool
def Lt.cells (l : Lt) : List Value := [.slice (some ⟨l.g, 0, none⟩) l.bs.length l.cap, .bool l.sp]
def ltRow (M : List Lt) : List Value := M.flatMap Lt.cells
def LtOk (w : World) (l : Lt) : Prop := l.bs.length ≤ l.cap ∧ l.cap ≤ maxLen ∧ ∃ rest, Blk w l.g 5 (byts l.bs ++ rest).toArray
structure NetIs (w : World) (tn te : TypeId) (nb : Nat) (S : Nat → Prop) (v : Value) (M : List Lt) : Prop where
  blk : Blk w nb tn #[v]
  row : w.ownsRow 0 te 2 v M.length (ltRow M)
  ok : ∀ l ∈ M, LtOk w l
  nodup : (M.map (·.g)).Nodup
  snb : S nb
  srow : ∀ k, v.ownBlock = some k → S k
  slt : ∀ l ∈ M, S l.g
  slo : ∀ k, S k → k < w.heap.size
theorem ltRow_length (M : List Lt) : (ltRow M).length = M.length * 2 := by
  induction M with
  | nil => rfl
  | cons l M ih => simp only [ltRow, List.flatMap_cons, List.length_append, List.length_cons] at ih ⊢; rw [ih]; simp [Lt.cells]; omega
theorem NetIs.upd {w w' : World} {tn te : TypeId} {nb : Nat} {S T : Nat → Prop} {v : Value} {M : List Lt} (h : NetIs w tn te nb S v M) (hu : Upd w w' T) (hs : ∀ k, S k → ¬ T k) : NetIs w' tn te nb S v M where
  blk := h.blk.upd hu (hs _ h.snb)
  row := by
    obtain ⟨h1, h2⟩ := h.row
    refine ⟨h1, ?_⟩
    rcases h2 with h2 | ⟨g, cap, cur, rfl, hg, hh, r⟩
    · exact .inl h2
    · exact .inr ⟨g, cap, cur, rfl, hg, (hu.block g (h.slo g (h.srow g rfl)) (hs g (h.srow g rfl))).trans hh, r⟩
  ok := fun l hl => by
    obtain ⟨h1, h2, rest, hb⟩ := h.ok l hl
    exact ⟨h1, h2, rest, hb.upd hu (hs _ (h.slt l hl))⟩
  nodup := h.nodup
  snb := h.snb
  srow := h.srow
  slt := h.slt
  slo := fun k hk => Nat.lt_of_lt_of_le (h.slo k hk) hu.size
theorem NetIs.shape {w : World} {tn te : TypeId} {nb : Nat} {S : Nat → Prop} {v : Value} {M : List Lt} (h : NetIs w tn te nb S v M) : ∃ A c, v = .slice A M.length c ∧ M.length ≤ c ∧ w.cell? ⟨nb, 0, none⟩ = some (.slice A M.length c) ∧ w.frozen? ⟨nb, 0, none⟩ = false ∧ nb < w.heap.size := by
  obtain ⟨c0, f0, l0⟩ := h.blk.c1
  rcases h.row.2 with ⟨rfl, h0⟩ | ⟨g, cap, cur, rfl, _, _, hc, _⟩
  · rw [h0]; exact ⟨none, 0, rfl, Nat.le_refl _, c0, f0, l0⟩
  · exact ⟨_, _, rfl, hc, c0, f0, l0⟩

set_option maxHeartbeats 400000 in
theorem there_nil (i : Int) (w : World) : Calls Try.prog 23 #[.pointer none, .int .i64 i] w fun e w' => e = .returned (.int .i64 7) ∧ w = w' := by
  go_enter Try.func23, Try.ntmps23
  go_wp2
  go_ret
  exact ⟨rfl, rfl⟩
set_option maxHeartbeats 400000 in
theorem there_ok (nb : Nat) (A : Option Addr) (n c : Nat) (i : Int) (w : World) (hc : w.cell? ⟨nb, 0, none⟩ = some (.slice A n c)) (h0 : 0 ≤ i) (h1 : i < n) :
    Calls Try.prog 23 #[.pointer (some ⟨nb, 0, none⟩), .int .i64 i] w fun e w' => e = .returned (.int .i64 0) ∧ w = w' := by
  go_enter Try.func23, Try.ntmps23
  go_wp2
  go_ret
  exact ⟨rfl, rfl⟩
set_option maxHeartbeats 400000 in
theorem there_no (nb : Nat) (A : Option Addr) (n c : Nat) (i : Int) (w : World) (hc : w.cell? ⟨nb, 0, none⟩ = some (.slice A n c)) (h1 : i < 0 ∨ n ≤ i) :
    Calls Try.prog 23 #[.pointer (some ⟨nb, 0, none⟩), .int .i64 i] w fun e w' => e = .returned (.int .i64 2) ∧ w = w' := by
  rcases Int.lt_or_le i 0 with h0 | h0
  · go_enter Try.func23, Try.ntmps23
    go_wp2
    go_ret
    exact ⟨rfl, rfl⟩
  · have h2 : (n : Int) ≤ i := by omega
    clear h1
    go_enter Try.func23, Try.ntmps23
    go_wp2
    go_ret
    exact ⟨rfl, rfl⟩
set_option maxHeartbeats 400000 in
theorem len_nil (w : World) : Calls Try.prog 19 #[.pointer none] w fun e w' => e = .returned (.int .i64 0) ∧ w = w' := by
  go_enter Try.func19, Try.ntmps19
  go_wp2
  go_ret
  exact ⟨rfl, rfl⟩
set_option maxHeartbeats 400000 in
theorem len_any (nb : Nat) (A : Option Addr) (n c : Nat) (w : World) (hc : w.cell? ⟨nb, 0, none⟩ = some (.slice A n c)) :
    Calls Try.prog 19 #[.pointer (some ⟨nb, 0, none⟩)] w fun e w' => e = .returned (.int .i64 n) ∧ w = w' := by
  go_enter Try.func19, Try.ntmps19
  go_wp2
  go_ret
  exact ⟨rfl, rfl⟩
set_option maxHeartbeats 400000 in
theorem new_any (w : World) : Calls Try.prog 9 #[] w fun e w' => e = .returned (.pointer (some ⟨w.heap.size, 0, none⟩)) ∧ NetIs w' 56 58 w.heap.size (· = w.heap.size) (.slice none 0 0) [] ∧ Below w.heap.size w w' := by
  have hb := Blk.new w 56 #[.slice none 0 0]
  have hB := (Below.refl w.heap.size w).alloc (Nat.le_refl _) (.cells #[.slice none 0 0] 56)
  have HN : NetIs (w.alloc (.cells #[.slice none 0 0] 56)) 56 58 w.heap.size (· = w.heap.size) (.slice none 0 0) [] :=
    ⟨hb, ⟨by simp [ltRow], .inl ⟨rfl, rfl⟩⟩, by simp, by simp, rfl, by simp [Value.ownBlock], by simp, fun k hk => by subst hk; simp⟩
  have HH := Lib.hid HN
  clear hb HN
  go_enter Try.func9, Try.ntmps9
  go_wp2
  go_ret
  exact ⟨rfl, HH.out, hB⟩
theorem num_any (i : Int) (w : World) : Calls Try.prog 14 #[.int .i64 i] w fun e w' => e = .returned (.int .i64 i) ∧ w = w' := by
  go_enter Try.func14, Try.ntmps14
  go_wp2
  go_ret
  exact ⟨rfl, rfl⟩
end Go.Proofs.Ytmanpicmbeeceaa
