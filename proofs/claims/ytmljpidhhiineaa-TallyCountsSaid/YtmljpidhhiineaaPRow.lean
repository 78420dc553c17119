/- slices.Clone, Sort, Compact, Sorted of maps.Keys at whole numbers, in the words of rows. -/
import Derived.Test.YtmljpidhhiineaaPInt
import Derived.Test.YtmljpidhhiineaaPSet
import Derived.Test.YtmljpidhhiineaaShelf
import Derived.Lib.OwnBridge
import Derived.Sort.OwnSortedInts
import Derived.Shelf.Small.Bits
namespace Go.Proofs.Ytmljpidhhiineaa.P
open Go.RowKit Go.Sort Go.Lib Go.Shelf Go.Maps Go.Proofs.YtmljpidhhiineaaW.PrintWords Go.Proofs.YtmljpidhhiineaaW.PrintLast
theorem rowInfo : (Try.prog.info? 3).map (fun i => (i.zero, i.size, i.bytes)) = some (some (.int .i64 0), 1, 8) := by kernel_rfl
theorem nums_map (xs : List Int) : nums .i64 xs = xs.map (Value.int .i64) := rfl
set_option maxHeartbeats 1000000 in
theorem iclone_any (A : Option Addr) (c : Nat) (xs : List Int) (w : World) (hr : Kd.C (Kd.int .i64) w A xs.length xs) (hb : xs.length * 8 ≤ 140737488355328) :
    Calls Try.prog 32 #[.slice A xs.length c] w fun e w' => ∃ v, e = .returned v ∧ w'.ownsRow w.heap.size 3 1 v xs.length (nums .i64 xs) ∧ Below w.heap.size w w' := by
  have q22 : ∀ (w : World) (a : Option Addr) (n c n' c' : Nat), (binOp .eql 23 (.slice a n c) (.slice none n' c')).run Try.prog w = .ok (.bool a.isNone) w := fun w a n c n' c' => Lib.run_eql_slice_nil w _ _ a n c n' c' Try.underlying23
  rcases A with _ | ad
  · have h0 : xs = [] := by
      rcases xs with _ | ⟨x, xs⟩
      · rfl
      · obtain ⟨_, h, _⟩ := hr.2.2 (by simp)
        cases h
    subst h0
    go_enter Try.func32, Try.ntmps32
    go_wp2
    go_ret
    exact ⟨_, rfl, own_nil _ _ _ _, Below.refl _ _⟩
  · obtain ⟨rf⟩ : Nonempty (RowKit.Hid (ReadsInt w .i64 (some ad) xs.length xs)) := ⟨Lib.hid ⟨rfl, hr.2.1, fun hp => ⟨ad, rfl, fun j hj => by
      obtain ⟨ad', e, hc⟩ := Kd.at_int hr (j : Int) (by omega) (by omega)
      injection e with e
      subst e
      simpa [Go.Proofs.YtmljpidhhiineaaW.PrintWords.rd, List.getD_eq_getElem?_getD] using hc⟩⟩⟩
    clear hr
    go_enter Try.func32, Try.ntmps32
    go_wp2_with (at_builtin; refine print_append_row (w0 := w) w.heap.size rfl (.tmp 5) (.tmp 6) 23 3 .i64 8 rfl Try.underlying23 rowInfo (by decide) (.slice (some ⟨w.heap.size, 0, none⟩) 0 0) [] xs (some ad) xs.length c rfl rfl (own_lit w w.heap.size 3 .i64 [] (Nat.le_refl _) (by simp)) (rf.out.below ((Below.refl _ _).alloc (Nat.le_refl _) _)) ((Below.refl _ _).alloc (Nat.le_refl _) _) (by simp) (by simpa using hb) ?_; intro v1 w1 ho hbl _ _)
    simp only [List.nil_append] at ho
    go_ret
    exact ⟨_, rfl, ho, hbl⟩
set_option maxHeartbeats 1000000 in
theorem iins_none (p : Option Addr) (cap : Nat) (w : World) : Calls Try.prog 52 #[.slice p 0 cap, .int .i64 0, .int .i64 0] w fun e w' => e = .returned (.tuple #[]) ∧ w' = w := by
  go_enter Try.func52, Try.ntmps52
  go_wp2
  refine wp_loop_rounds 1 ?_
  rw [rounds_succ]
  go_wp2
  go_end0
  exact ⟨rfl, rfl⟩
set_option maxHeartbeats 2000000 in
set_option maxRecDepth 100000 in
theorem ipdq_none (p : Option Addr) (cap : Nat) (w : World) : Calls Try.prog 45 #[.slice p 0 cap, .int .i64 0, .int .i64 0, .int .i64 0] w fun e w' => e = .returned (.tuple #[]) ∧ w' = w := by
  go_enter Try.func45, Try.ntmps45
  go_wp2
  refine wp_loop_rounds 1 ?_
  rw [rounds_succ]
  go_wp2_with (go_at_call 52; refine (iins_none _ _ _).mono ?_; rintro e w' ⟨rfl, rfl⟩)
  (try simp only [Exit.inBlock, Exit.then]); refine bodyPost_ret (results_none rfl _ _ _) rfl ?_
  exact ⟨rfl, rfl⟩
set_option maxHeartbeats 1000000 in
theorem isort_none (p : Option Addr) (cap : Nat) (w : World) : Calls Try.prog 33 #[.slice p 0 cap] w fun e w' => e = .returned (.tuple #[]) ∧ w' = w := by
  have hLen : ∀ w, Calls Try.prog 46 #[.int .u64 0] w fun e w' => e = .returned (.int .i64 0) ∧ w' = w := fun w => Any.bits_Len Try.shLen 0 w (by omega) (by omega)
  go_enter Try.func33, Try.ntmps33
  go_wp2_with (first
    | (go_at_call 46; refine (hLen _).mono ?_; rintro e w' ⟨rfl, rfl⟩)
    | (go_at_call 45; refine (ipdq_none _ _ _).mono ?_; rintro e w' ⟨rfl, rfl⟩))
  go_end0
  exact ⟨rfl, rfl⟩
theorem upd_sorted {w : World} {g n : Nat} {os : Array Obj} (d : Array Int) : Upd w (grow (putRow (Value.int .i64) (Sort.ahead w n) g 0 d) os) (· = g) := Upd.of_grown (grownBy_sortedI d) (fun k hk => by injection hk with hk; exact hk.symm)
theorem isort_any {base n : Nat} {v : Value} {xs : List Int} {w : World} (ho : w.ownsRow base 3 1 v n (nums .i64 xs)) (hl : n < 4611686018427387904) :
    Calls Try.prog 33 #[v] w fun e w' => e = .returned (.tuple #[]) ∧ w'.ownsRow base 3 1 v n (nums .i64 (xs.mergeSort fun x y => decide (x ≤ y))) ∧ Upd w w' (fun k => v.ownBlock = some k) := by
  have hlen : xs.length = n := by have := ho.1; simpa [nums] using this
  rcases ho.2 with ⟨rfl, rfl⟩ | ⟨g, cap, cur, rfl, hb, hg, h1, h2, h3, h4⟩
  · obtain rfl : xs = [] := List.eq_nil_of_length_eq_zero hlen
    exact (isort_none _ _ _).mono fun e w' ⟨he, hw⟩ => ⟨he, by rw [hw]; simpa using ho, by rw [hw]; exact Upd.refl _ _⟩
  · subst hlen
    rw [Nat.mul_one] at h4
    refine (Any.slices_Sort_int Try.shSort g 0 cap xs w (holds_of_blockI hg h4) (Array.getElem?_eq_some_iff.1 hg).1 hl).mono fun e w' ⟨he, k, os, hw⟩ => ⟨he, ?_, ?_⟩
    · rw [hw]
      have := ownsRow_sortedI (os := os) (n := k) (ss := xs) (ts := xs.mergeSort fun x y => decide (x ≤ y)) (by simp) hb hg h1 h2 h3
      exact this
    · rw [hw]
      exact (upd_sorted _).mono (fun k _ hk => by simp [Value.ownBlock, hk])
/-- without runs: of equal neighbours the first. -/
def compacted (xs : List Int) : List Int := compactUpTo xs.toArray xs.length
theorem compacted_le (xs : List Int) : (compacted xs).length ≤ xs.length := by
  unfold compacted compactUpTo
  rw [List.length_map]
  exact Nat.le_trans (List.length_filter_le _ _) (by simp)
theorem upd_put {w : World} {g n : Nat} (d : Array Int) : Upd w (putRow (Value.int .i64) (Sort.ahead w n) g 0 d) (· = g) := by
  have := upd_sorted (w := w) (g := g) (n := n) (os := #[]) d
  rwa [grow_empty] at this
set_option maxHeartbeats 1000000 in
theorem icompact_any {base n : Nat} {v : Value} {xs : List Int} {w : World} (ho : w.ownsRow base 3 1 v n (nums .i64 xs)) :
    Calls Try.prog 34 #[v] w fun e w' => ∃ v', e = .returned v' ∧ w'.ownsRow base 3 1 v' (compacted xs).length (nums .i64 (compacted xs)) ∧ Upd w w' (fun k => v.ownBlock = some k) := by
  have hlen : xs.length = n := by have := ho.1; simpa [nums] using this
  have ho0 := ho
  rcases ho.2 with ⟨rfl, rfl⟩ | ⟨g, cap, cur, rfl, hb, hg, h1, h2, h3, h4⟩
  · obtain rfl : xs = [] := List.eq_nil_of_length_eq_zero hlen
    go_enter Try.func34, Try.ntmps34
    go_wp2
    go_ret
    exact ⟨_, rfl, own_nil _ _ _ _, Upd.refl _ _⟩
  · subst hlen
    rw [Nat.mul_one] at h4
    have hm : xs.length ≤ 9223372036854775807 := by have := h2; unfold maxLen at this; omega
    have h := AnyE.slices_Compact Try.shCompact (Value.int .i64) (fun _ => rfl) (EqlAt.intD _ _ .i64) (NeqAt.intD _ _ .i64) (0 : Int) Try.zeroValue3 g 0 cap xs.toArray w (holds_of_blockI hg h4) (by simpa using hm) (by simpa using h1)
    refine h.mono fun e w' ⟨he, q, hw⟩ => ⟨_, he, ?_, ?_⟩
    · rw [hw]
      have e1 : compactUpTo xs.toArray xs.toArray.size = compacted xs := by simp [compacted]
      rw [e1]
      have hle := compacted_le xs
      have := ownsRow_putRow (q := q) (ys := compacted xs ++ List.replicate (xs.toArray.size - (compacted xs).length) 0) (k := (compacted xs).length) ho (by simp; omega) hle
      rw [List.take_left] at this
      exact this
    · rw [hw]
      exact (upd_put _).mono (fun k _ hk => by simp [Value.ownBlock, hk])
theorem setD_ints (N : List Int) : ∃ es, setD N = .map es ∧ ∀ p ∈ es, ∃ x, p.1 = .int .i64 x := by
  induction N using snoc_ind with
  | h0 => exact ⟨[], rfl, fun p hp => by cases hp⟩
  | h1 N y ih =>
    obtain ⟨es, he, hk⟩ := ih
    refine ⟨_, by rw [setD_snoc, he]; rfl, fun p hp => ?_⟩
    rcases ChangeMaps.mem_insert_iff.1 hp with rfl | hp
    · exact ⟨y, rfl⟩
    · exact hk p (List.mem_filter.1 hp).1
theorem setD_keys {N : List Int} (hn : N.Nodup) : N.Perm (intKeys (setD N)) := by
  obtain ⟨es, he, hp⟩ := setD_tidy N
  obtain ⟨es', he', hk⟩ := setD_ints N
  rw [he] at he' ⊢
  injection he' with e
  subst e
  refine perm_intKeys hp hk hn (fun x => ?_)
  have := setD_has N x
  rw [he] at this
  rw [show (Lit.int .i64 x) = kI x from rfl, this]
  simp
theorem sortsA (m : Nat) : AnyZI.SortsIn Try.prog Try.shSorted_ren Fence.wide m :=
  ⟨fun blk off cap ss W hH hblk hsz => callsIn_wide.2 (Any.slices_Sort_int Try.shSort blk off cap ss W hH hblk hsz),
   fun p cap W => callsIn_wide.2 (isort_none p cap W)⟩
theorem keys_any (mb : Option Nat) (W : World) : Calls Try.prog 41 #[.map mb] W fun e w' => e = .returned (.func (.func 49) #[] #[.pointer (some ⟨W.heap.size, 0, none⟩)]) ∧ w' = W.alloc (.cells #[.map mb] 46) :=
  (callsIn_wide (n := 5)).1 (AnyZI.keys_in Try.shKeys Fence.wide 5 trivial rfl mb W)
theorem sorted_any {N : List Int} {mb Bm : Nat} {w : World} (hS : SetIs w mb N) (hB : Bm < w.heap.size) (hm : w.cell? ⟨Bm, 0, none⟩ = some (.map (some mb))) (hl : N.length * 8 ≤ 140737488355328) :
    Calls Try.prog 40 #[.func (.func 49) #[] #[.pointer (some ⟨Bm, 0, none⟩)]] w fun e w' => ∃ v, e = .returned v ∧ w'.ownsRow w.heap.size 3 1 v N.length (nums .i64 (N.mergeSort fun x y => decide (x ≤ y))) ∧ Below w.heap.size w w' := by
  have hsz := setD_size hS.nodup
  have hseq : SeqGives Fence.wide 2 Try.prog 49 #[.pointer (some ⟨Bm, 0, none⟩)] encZ (fun ss => ss.Perm (intKeys (setD N))) (Maps.size (setD N)) w :=
    AnyZI.keys_gives (ρ := Try.shKeys_ren) { Try.shKeys with } Fence.wide _ trivial rfl (by omega) Bm mb N.length (setD N) w hB hm hS.own
  have cS := AnyZI.sorted_in Try.shSorted Fence.wide 5 trivial trivial trivial trivial rfl (by omega) (sortsA _) (enters_of Try.func33 (by kernel_rfl) rfl) 49 #[.pointer (some ⟨Bm, 0, none⟩)] trivial (enters_of Try.func49 (by kernel_rfl) rfl) _ _ (by rw [hsz]; unfold maxLen; omega) (by rw [hsz]; exact hl) _ hseq
  refine ((callsIn_wide (n := 5)).1 cS).mono fun e w' ⟨v, ss, he, hp, ho, _, hb⟩ => ⟨v, he, ?_, hb⟩
  have hpm := hp.trans (setD_keys hS.nodup).symm
  rw [mergeSort_of_perm_i hpm, hpm.length_eq] at ho
  exact ho
end Go.Proofs.Ytmljpidhhiineaa.P
