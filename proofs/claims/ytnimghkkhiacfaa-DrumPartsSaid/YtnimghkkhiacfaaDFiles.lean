/- A drum: Files. -/
import Derived.Test.YtnimghkkhiacfaaDDel
import Derived.Test.YtnimghkkhiacfaaShelf
import Derived.Lib.OwnBridge
import Derived.Sort.OwnSortedInts
import Derived.Shelf.Small.Bits
import Derived.Shelf.SlIterI.Sorted
namespace Go.Proofs.Ytnimghkkhiacfaa.P
open Go.RowKit Go.Sort Go.Lib Go.Shelf Go.Maps Go.ChangeMaps Go.Proofs.YtnimghkkhiacfaaW.PrintWords Go.Proofs.YtnimghkkhiacfaaW.PrintLast Go.Proofs.YtnimghkkhiacfaaW.PrintMore
set_option maxHeartbeats 1000000 in
theorem iins_none (p : Option Addr) (cap : Nat) (w : World) : Calls Try.prog 52 #[.slice p 0 cap, .int .i64 0, .int .i64 0] w fun e w' => e = .returned (.tuple #[]) ∧ w' = w := by
  go_enter Try.func52, Try.ntmps52
  go_wp2
  refine wp_loop_rounds 1 ?_
  rw [rounds_succ]
  go_wp2
  go_end0
  exact ⟨rfl, rfl⟩
set_option maxHeartbeats 2000000 in
set_option maxRecDepth 100000 in
theorem ipdq_none (p : Option Addr) (cap : Nat) (w : World) : Calls Try.prog 50 #[.slice p 0 cap, .int .i64 0, .int .i64 0, .int .i64 0] w fun e w' => e = .returned (.tuple #[]) ∧ w' = w := by
  go_enter Try.func50, Try.ntmps50
  go_wp2
  refine wp_loop_rounds 1 ?_
  rw [rounds_succ]
  go_wp2_with (go_at_call 52; refine (iins_none _ _ _).mono ?_; rintro e w' ⟨rfl, rfl⟩)
  (try simp only [Exit.inBlock, Exit.then]); refine bodyPost_ret (results_none rfl _ _ _) rfl ?_
  exact ⟨rfl, rfl⟩
set_option maxHeartbeats 1000000 in
theorem isort_none (p : Option Addr) (cap : Nat) (w : World) : Calls Try.prog 47 #[.slice p 0 cap] w fun e w' => e = .returned (.tuple #[]) ∧ w' = w := by
  have hLen : ∀ w, Calls Try.prog 51 #[.int .u64 0] w fun e w' => e = .returned (.int .i64 0) ∧ w' = w := fun w => Any.bits_Len Try.shLen 0 w (by omega) (by omega)
  go_enter Try.func47, Try.ntmps47
  go_wp2_with (first
    | (go_at_call 51; refine (hLen _).mono ?_; rintro e w' ⟨rfl, rfl⟩)
    | (go_at_call 50; refine (ipdq_none _ _ _).mono ?_; rintro e w' ⟨rfl, rfl⟩))
  go_end0
  exact ⟨rfl, rfl⟩
theorem sortsA (m : Nat) : AnyZI.SortsIn Try.prog Try.shSorted_ren Fence.wide m :=
  ⟨fun blk off cap ss W hH hblk hsz => callsIn_wide.2 (Any.slices_Sort_int Try.shSort blk off cap ss W hH hblk hsz),
   fun p cap W => callsIn_wide.2 (isort_none p cap W)⟩
/-- the numbers of all files, rising. -/
def keysF {α : Type} (F : Int → Option α) : List Int := ((List.range 1001).filter fun i : Nat => (F i).isSome).map (fun n : Nat => (n : Int))
theorem keysF_len {α : Type} (F : Int → Option α) : (keysF F).length = cardF F := by simp [keysF, cardF]
theorem keysF_nodup {α : Type} (F : Int → Option α) : (keysF F).Nodup := by
  unfold keysF
  exact List.Pairwise.map _ (fun a b h e => h (Int.ofNat.inj e)) ((List.nodup_range (n := 1001)).filter _)
theorem mem_keysF {α : Type} {F : Int → Option α} (h : ∀ n x, F n = some x → 1 ≤ n ∧ n ≤ 1000) (x : Int) : x ∈ keysF F ↔ (F x).isSome = true := by
  unfold keysF
  simp only [List.mem_map, List.mem_filter, List.mem_range]
  constructor
  · rintro ⟨n, ⟨_, h2⟩, rfl⟩; exact h2
  · intro hx
    obtain ⟨y, hy⟩ := Option.isSome_iff_exists.1 hx
    have := h x y hy
    exact ⟨x.toNat, ⟨by omega, by rw [Int.toNat_of_nonneg (by omega)]; exact hx⟩, Int.toNat_of_nonneg (by omega)⟩
theorem keysF_sorted {α : Type} (F : Int → Option α) : (keysF F).Pairwise (fun x y => decide (x ≤ y) = true) := by
  unfold keysF
  rw [List.pairwise_map]
  refine ((List.pairwise_lt_range (n := 1001)).filter _).imp (fun h => ?_)
  simp; omega
section
variable {w : World} {o : Nat → Int} {g mb : Nat} {F : Files} {room : Nat} {left ops : Int} {dead : Bool}
theorem keysIF_any (mb : Option Nat) (W : World) : Calls Try.prog 44 #[.map mb] W fun e w' => e = .returned (.func (.func 48) #[] #[.pointer (some ⟨W.heap.size, 0, none⟩)]) ∧ w' = W.alloc (.cells #[.map mb] 62) :=
  (callsIn_wide (n := 5)).1 (AnyZI.keys_in Try.shKeys Fence.wide 5 trivial rfl mb W)
theorem own_int_keys {w : World} {n mb : Nat} {D : HD} (h : w.ownsMap Try.prog 3 heldR mb n D) : ∃ es, D = .map es ∧ es.Pairwise (fun p q => p.1 ≠ q.1) ∧ ∀ p ∈ es, ∃ x, p.1 = .int .i64 x := by
  obtain ⟨es, e, hp⟩ := h.tidy int_law
  obtain ⟨es0, clock, hb, F, _, e0⟩ := h
  rw [e] at e0
  injection e0 with e0
  refine ⟨es, e, hp, fun p hpm => ?_⟩
  rw [e0] at hpm
  have hpm := (WideShapes.sorted_perm _).mem_iff.1 hpm
  obtain ⟨x, hx, rfl⟩ := List.mem_map.1 hpm
  obtain ⟨y, hy⟩ := F.reads x hx
  rw [WideElems.rg_of hy]
  obtain ⟨z, _, hz, _⟩ := Maps.keyOf_i64 Try.underlying3 (WideElems.rd_key hy)
  exact ⟨z, hz⟩
theorem keys_perm {w : World} {n mb : Nat} {D : HD} (h : w.ownsMap Try.prog 3 heldR mb n D) {f : Int → Option Value} (hh : Holds D f) {L : List Int} (hn : L.Nodup) (hL : ∀ x, x ∈ L ↔ (f x).isSome = true) : L.Perm (intKeys D) := by
  obtain ⟨es, rfl, hp, hk⟩ := own_int_keys h
  exact perm_intKeys hp hk hn (fun x => by rw [hL x, ← (hh.2 x).1]; rfl)
theorem sortedIF_any {f : Int → Option Value} {Bm : Nat} (hM : MI w mb f) (hf : ∀ n x, f n = some x → 1 ≤ n ∧ n ≤ 1000) (hB : Bm < w.heap.size) (hm : w.cell? ⟨Bm, 0, none⟩ = some (.map (some mb))) :
    Calls Try.prog 43 #[.func (.func 48) #[] #[.pointer (some ⟨Bm, 0, none⟩)]] w fun e w' => ∃ v, e = .returned v ∧ w'.ownsRow w.heap.size 3 1 v (keysF f).length (nums .i64 (keysF f)) ∧ Below w.heap.size w w' := by
  obtain ⟨D, hown, hh⟩ := hM
  have hsz : Maps.size D = cardF f := hh.1
  have hcl := cardF_le f
  have hseq : SeqGives Fence.wide 2 Try.prog 48 #[.pointer (some ⟨Bm, 0, none⟩)] encZ (fun ss => ss.Perm (intKeys D)) (Maps.size D) w :=
    AnyZI.keys_gives (ρ := Try.shKeys_ren) { Try.shKeys with } Fence.wide _ trivial rfl (by omega) Bm mb (Maps.size D) D w hB hm hown
  have cS := AnyZI.sorted_in Try.shSorted Fence.wide 5 trivial trivial trivial trivial rfl (by omega) (sortsA _) (enters_of Try.func47 (by kernel_rfl) rfl) 48 #[.pointer (some ⟨Bm, 0, none⟩)] trivial (enters_of Try.func48 (by kernel_rfl) rfl) _ _ (by rw [hsz]; unfold maxLen; omega) (by rw [hsz]; omega) _ hseq
  refine ((callsIn_wide (n := 5)).1 cS).mono fun e w' ⟨v, ss, he, hp, ho, _, hb⟩ => ⟨v, he, ?_, hb⟩
  have hpm := hp.trans (keys_perm hown hh (keysF_nodup f) (mem_keysF hf)).symm
  rw [mergeSort_of_perm_i hpm, hpm.length_eq, List.mergeSort_of_pairwise (keysF_sorted f)] at ho
  exact ho
theorem keysF_ptrs (F : Files) (fb : Int → Nat) : keysF (ptrs F fb) = keysF F := by
  unfold keysF ptrs
  simp
set_option maxRecDepth 100000 in
theorem drFiles_any (h : DrumIs w o g mb F room left dead ops) : Calls Try.prog 28 #[dptr g] w fun e w' => ∃ v, e = .returned v ∧ w'.ownsRow w.heap.size 3 1 v (keysF F).length (nums .i64 (keysF F)) ∧ Below w.heap.size w w' := by
  obtain ⟨fb, hm, hfs⟩ := h.ex
  have hb := h.blk
  have hc0 : w.cell? ⟨g, 0, none⟩ = some (.map (some mb)) := hb.cell 0
  obtain ⟨w1, hw1⟩ : ∃ w1, w.alloc (.cells #[.map (some mb)] 62) = w1 := ⟨_, rfl⟩
  have hb1 : Below w.heap.size w w1 := hw1 ▸ (Below.refl _ _).alloc (Nat.le_refl _) _
  have hB1 : Blk w1 w.heap.size 62 #[.map (some mb)] := hw1 ▸ Blk.new w 62 _
  have hs := sortedIF_any (hm.below hb1) (fun n x hx => by
    unfold ptrs at hx
    cases hF : F n with
    | none => rw [hF] at hx; cases hx
    | some y => exact h.key n y hF) hB1.lt (hB1.cell 0)
  rw [keysF_ptrs] at hs
  have HS := Lib.hid hs; have HB1 := Lib.hid hb1
  clear h hb hm hfs hs hb1 hB1
  go_enter Try.func28, Try.ntmps28
  go_wp2_with fail
  refine (keysIF_any (some mb) w).mono ?_
  rintro e w2 ⟨rfl, rfl⟩
  go_wp2_with fail
  refine HS.out.mono ?_
  rintro e w3 ⟨v, rfl, ho, hb3⟩
  have HO := Lib.hid ho; have HB3 := Lib.hid hb3
  obtain ⟨A3, c3, rfl⟩ := own_slice ho
  clear ho hb3
  go_wp2
  go_ret
  have hsz := HB1.out.size
  obtain ⟨h1, h2⟩ := HO.out
  refine ⟨_, rfl, ⟨h1, ?_⟩, HB1.out.trans (HB3.out.mono hsz)⟩
  rcases h2 with h2 | ⟨g1, cap, cur, a1, a2, a3⟩
  · exact .inl h2
  · exact .inr ⟨g1, cap, cur, a1, Nat.le_trans hsz a2, a3⟩
end
end Go.Proofs.Ytnimghkkhiacfaa.P
