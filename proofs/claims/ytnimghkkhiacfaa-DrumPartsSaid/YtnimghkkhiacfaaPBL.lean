/- Regions that draw their order, the last three operations apart. -/
import Derived.Test.YtnimghkkhiacfaaPBR
namespace Go.Proofs.Ytnimghkkhiacfaa.P
open Go.RowKit
/-- closed: each operation's edges go down and bind; guards too; the last one hangs on all. -/
def lastOk2 (l : List Oper) (o : Oper) : Bool :=
  (List.range l.length).all (fun i => match l[i]? with
    | some x => x.after.toList.all (fun e => !Region.binds .any e || decide (e.on < i)) && (match x.guard with | none => true | some (j, _) => decide (j < l.length))
    | none => true) &&
  (List.range l.length).all (fun j => o.after.toList.any (fun e => e.on == j && Region.binds .any e) || (List.range l.length).any (fun k => decide (j < k) && (match l[k]? with | some x => x.after.toList.any (fun e => e.on == j && Region.binds .any e) | none => false))) &&
  o.after.toList.all (fun e => !Region.binds .any e || decide (e.on < l.length))
structure LastOk2 (l : List Oper) (o : Oper) : Prop where
  low : ∀ (i : Nat) (x : Oper), l[i]? = some x → ∀ e ∈ x.after, Region.binds .any e = true → e.on < i
  guard : ∀ (i : Nat) (x : Oper), l[i]? = some x → ∀ (j : Nat) (b : Bool), x.guard = some (j, b) → j < l.length
  all : ∀ j, j < l.length → (∃ e ∈ o.after, e.on = j ∧ Region.binds .any e = true) ∨ ∃ k x, j < k ∧ l[k]? = some x ∧ ∃ e ∈ x.after, e.on = j ∧ Region.binds .any e = true
  lt : ∀ e ∈ o.after, Region.binds .any e = true → e.on < l.length
theorem LastOk2.of {l : List Oper} {o : Oper} (h : lastOk2 l o = true) : LastOk2 l o := by
  simp only [lastOk2, Bool.and_eq_true, List.all_eq_true, List.any_eq_true, List.mem_range, Array.mem_toList_iff, decide_eq_true_eq, beq_iff_eq, Bool.or_eq_true] at h
  obtain ⟨⟨h1, h2⟩, h3⟩ := h
  refine ⟨fun i x hx => ?_, fun i x hx j b hg => ?_, fun j hj => ?_, fun e he hb => by have := h3 e he; simpa [hb] using this⟩
  · have := h1 i (List.getElem?_eq_some_iff.1 hx).1
    rw [hx] at this
    simp only [Bool.and_eq_true, List.all_eq_true, Array.mem_toList_iff] at this
    exact fun e he hb => by have := this.1 e he; simpa [hb] using this
  · have := h1 i (List.getElem?_eq_some_iff.1 hx).1
    rw [hx] at this
    simp only [Bool.and_eq_true, hg, decide_eq_true_eq] at this
    exact this.2
  · rcases h2 j hj with ⟨e, he, h, k⟩ | ⟨k, hk, hjk, hx⟩
    · exact .inl ⟨e, he, h, k⟩
    · right
      rw [List.getElem?_eq_getElem hk] at hx
      simp only [List.any_eq_true, Array.mem_toList_iff, Bool.and_eq_true, beq_iff_eq] at hx
      exact ⟨k, l[k], hjk, List.getElem?_eq_getElem hk, hx⟩

section
variable {P : Program} {l : List Oper} {o : Oper} {Q : Exit → Act → World → Prop}
theorem lastPost_out2 (h : LetsOut (LastPost P (l ++ [o]).toArray o Q)) : LetsOut Q := h
theorem oper_post2 {x : Oper} {a : Act} {w : World} {K : Act → World → Prop} {Q' : Exit → Act → World → Prop} (hp : ∀ c a w, Q' (.panic c) a w → Q (.panic c) a w) (ho : LetsOut Q' → LetsOut Q)
    (hh : x.wp P a w K Q') : x.wp P a w K Q := by
  unfold Oper.wp at *
  generalize (execOp a.eval x).run P w = r at *
  cases r with
  | ok n w' =>
    cases n <;> simp only [Oper.upon] at hh ⊢ <;>
      first
        | exact hh
        | exact Calls.mono hh (fun e w'' he => by cases e <;> first | exact he | exact hp _ _ _ he | exact ho he)
  | halt y w' => cases y <;> simp only [Oper.upon] at hh ⊢ <;> first | exact hh | exact hp _ _ _ hh
theorem all_listed2 (hok : LastOk2 l o) {listed : Array Bool} (hs : listed.size = l.length) (h : Region.ready .any l.toArray listed = []) : ∀ i, i < l.length → listed.getD i false = true := by
  intro i
  induction i using Nat.strongRecOn with
  | _ i ih =>
    intro hi
    by_cases hl : listed.getD i false = true
    · exact hl
    · have hx := List.getElem?_eq_getElem hi
      have : i ∈ Region.ready .any l.toArray listed := by
        rw [mem_ready]
        refine ⟨?_, l[i], (by simp [hi]), fun e he hb => ih e.on (hok.low i _ hx e he hb) (by have := hok.low i _ hx e he hb; omega)⟩
        simp only [Array.getD_eq_getD_getElem?, Array.getElem?_eq_getElem (show i < listed.size by omega), Option.getD_some] at hl ⊢
        simpa using hl
      rw [h] at this; cases this
theorem push_getD2 {listed : Array Bool} {i : Nat} (hi : i < listed.size) (b d : Bool) : (listed.push b).getD i d = listed.getD i d := by
  simp [Array.getD_eq_getD_getElem?, Array.getElem?_push, Nat.ne_of_lt hi]
theorem ready_old2 (hok : LastOk2 l o) {listed : Array Bool} (hs : listed.size = l.length) {i : Nat} (hi : i < l.length) (h : i ∈ Region.ready .any (l ++ [o]).toArray (listed.push false)) : i ∈ Region.ready .any l.toArray listed := by
  rw [mem_ready] at h ⊢
  obtain ⟨h1, x, hx, h2⟩ := h
  rw [push_getD2 (by omega)] at h1
  have hx' : l[i]? = some x := by simpa [List.getElem?_append_left hi] using hx
  refine ⟨h1, x, by simpa using hx', fun e he hb => ?_⟩
  have := h2 e he hb
  rwa [push_getD2 (by have := hok.low i x hx' e he hb; omega)] at this
theorem old_ready2 (hok : LastOk2 l o) {listed : Array Bool} (hs : listed.size = l.length) {i : Nat} (h : i ∈ Region.ready .any l.toArray listed) : i ∈ Region.ready .any (l ++ [o]).toArray (listed.push false) := by
  rw [mem_ready] at h ⊢
  obtain ⟨h1, x, hx, h2⟩ := h
  have hi : i < l.length := by have := (Array.getElem?_eq_some_iff.1 hx).1; simpa using this
  have hx' : l[i]? = some x := by simpa using hx
  refine ⟨by rw [push_getD2 (by omega)]; exact h1, x, by simpa [List.getElem?_append_left hi] using hx', fun e he hb => ?_⟩
  rw [push_getD2 (by have := hok.low i x hx' e he hb; omega)]
  exact h2 e he hb
/-- what is listed has all that it hangs on listed. -/
def Closed2 (l : List Oper) (listed : Array Bool) : Prop := ∀ i x, l[i]? = some x → listed.getD i false = true → ∀ e ∈ x.after, Region.binds .any e = true → listed.getD e.on false = true
theorem closed_set2 {listed : Array Bool} (hc : Closed2 l listed) {i : Nat} (hi : i ∈ Region.ready .any l.toArray listed) : Closed2 l (listed.setIfInBounds i true) := by
  intro j x hx hj e he hb
  obtain ⟨_, y, hy, h2⟩ := mem_ready.1 hi
  have hy' : l[i]? = some y := by simpa using hy
  by_cases hij : i = j
  · subst hij
    rw [hx] at hy'
    injection hy' with hy'
    subst hy'
    exact getD_set_true (h2 e he hb)
  · rw [getD_set_ne false hij] at hj
    exact getD_set_true (hc j x hx hj e he hb)
theorem ready_last2 (hok : LastOk2 l o) {listed : Array Bool} (hs : listed.size = l.length) (hc : Closed2 l listed) : l.length ∈ Region.ready .any (l ++ [o]).toArray (listed.push false) ↔ ∀ i, i < l.length → listed.getD i false = true := by
  rw [mem_ready]
  constructor
  · rintro ⟨_, x, hx, h⟩
    have : x = o := by simp at hx; exact hx.symm
    subst this
    have key : ∀ d i, i < l.length → l.length - i ≤ d → listed.getD i false = true := by
      intro d
      induction d with
      | zero => intro i hi hd; omega
      | succ d ih =>
        intro i hi hd
        rcases hok.all i hi with ⟨e, he, rfl, hb⟩ | ⟨k, y, hk, hy, e, he, rfl, hb⟩
        · have := h e he hb
          rwa [push_getD2 (by omega)] at this
        · have hkl := (List.getElem?_eq_some_iff.1 hy).1
          exact hc k y hy (ih k hkl (by omega)) e he hb
    exact fun i hi => key _ i hi (Nat.le_refl _)
  · intro h
    refine ⟨by simp [Array.getD_eq_getD_getElem?, ← hs], o, by simp, fun e he hb => ?_⟩
    rw [push_getD2 (by have := hok.lt e he hb; omega)]
    exact h _ (hok.lt e he hb)
theorem ready_end2 {listed : Array Bool} (hs : listed.size = l.length) (h : ∀ i, i < l.length → listed.getD i false = true) : Region.ready .any (l ++ [o]).toArray ((listed.push false).setIfInBounds l.length true) = [] := by
  apply List.eq_nil_iff_forall_not_mem.2
  intro i hi
  rw [mem_ready] at hi
  obtain ⟨h1, x, hx, _⟩ := hi
  have hlt : i < l.length + 1 := by have := (Array.getElem?_eq_some_iff.1 hx).1; simpa using this
  have e : (listed.push false).setIfInBounds l.length true = listed.push true := by
    apply Array.ext_getElem?
    intro j
    simp only [Array.getElem?_setIfInBounds, Array.getElem?_push, Array.size_push]
    by_cases hj : l.length = j
    · subst hj; simp [hs]
    · simp [hj, show ¬ j = listed.size by omega]
  rw [e] at h1
  rcases Nat.lt_or_ge i l.length with hl | hl
  · rw [push_getD2 (by omega)] at h1
    have := h i hl
    simp only [Array.getD_eq_getD_getElem?, Array.getElem?_eq_getElem (show i < listed.size by omega), Option.getD_some] at h1 this
    rw [this] at h1; cases h1
  · have : i = listed.size := by omega
    subst this
    simp [Array.getD_eq_getD_getElem?] at h1
theorem wpOp_last2 {K : Act → World → Prop} {a : Act} {w : World} (h : wpList P (l ++ [o]).toArray Q [o] a w) (hK : ∀ a w, Q .normal a w → K a w) : wpOp P (l ++ [o]).toArray Q l.length K a w := by
  unfold wpOp
  have e : (l ++ [o]).toArray[l.length]? = some o := by simp
  rw [e]
  by_cases hw : Region.wanted o (yielded (l ++ [o]).toArray a.tmps) = true
  · simp only [wpList, hw, if_true] at h ⊢
    exact h.imp (Oper.wp_mono fun a w h => hK a w h) id
  · have hw' : Region.wanted o (yielded (l ++ [o]).toArray a.tmps) = false := by simpa using hw
    simp only [wpList, hw'] at h ⊢
    exact hK _ _ h
theorem wpOp_old2 (hok : LastOk2 l o) {K K' : Act → World → Prop} {a : Act} {w : World} {i : Nat} (hi : i < l.length) (hK : ∀ a w, K a w → K' a w) (h : wpOp P l.toArray (LastPost P (l ++ [o]).toArray o Q) i K a w) :
    wpOp P (l ++ [o]).toArray Q i K' a w := by
  unfold wpOp at h ⊢
  have hx := List.getElem?_eq_getElem hi
  have e1 : l.toArray[i]? = some l[i] := by simp [hi]
  have e2 : (l ++ [o]).toArray[i]? = some l[i] := by simp [List.getElem?_append_left hi, hi]
  rw [e1] at h
  rw [e2]
  have hy : Region.wanted l[i] (yielded (l ++ [o]).toArray a.tmps) = Region.wanted l[i] (yielded l.toArray a.tmps) := by
    unfold Region.wanted
    split
    · rfl
    · rename_i j b hg
      have hj := hok.guard i _ hx j b hg
      have : yielded (l ++ [o]).toArray a.tmps j = yielded l.toArray a.tmps j := by
        unfold yielded
        rw [show (l ++ [o]).toArray[j]? = l.toArray[j]? from by simp [List.getElem?_append_left hj]]
      rw [this]
  simp only [hy]
  split
  · rename_i hw
    simp only [hw, if_true] at h
    rcases h with h | h
    · exact .inl (oper_post2 (Q' := LastPost P (l ++ [o]).toArray o Q) (fun _ _ _ h => h) lastPost_out2 (Oper.wp_mono hK h))
    · exact .inr ⟨h.1, lastPost_out2 h.2⟩
  · rename_i hw
    simp only [hw] at h
    exact hK _ _ h
theorem wpAny_last2 (hok : LastOk2 l o) : ∀ (fuel : Nat) (listed : Array Bool) (a : Act) (w : World), listed.size = l.length → Closed2 l listed → wpAny P .any l.toArray (LastPost P (l ++ [o]).toArray o Q) fuel listed a w →
    wpAny P .any (l ++ [o]).toArray Q (fuel + 1) (listed.push false) a w := by
  intro fuel
  induction fuel with
  | zero =>
    intro listed a w hs hc h
    obtain ⟨h1, h2⟩ := h
    have hall := all_listed2 hok hs h1
    have hin := (ready_last2 hok hs hc).2 hall
    refine ⟨fun h0 => (by rw [h0] at hin; cases hin), fun i hi => ?_⟩
    have hlt : i < l.length + 1 := by
      obtain ⟨_, x, hx, _⟩ := mem_ready.1 hi
      have := (Array.getElem?_eq_some_iff.1 hx).1; simpa using this
    rcases Nat.lt_or_ge i l.length with hl | hl
    · have := ready_old2 hok hs hl hi
      rw [h1] at this; cases this
    · obtain rfl : i = l.length := by omega
      exact wpOp_last2 h2 (fun a w h => ⟨ready_end2 hs hall, h⟩)
  | succ fuel ih =>
    intro listed a w hs hc h
    obtain ⟨h1, h2⟩ := h
    refine ⟨fun h0 => ?_, fun i hi => ?_⟩
    · by_cases hr : Region.ready .any l.toArray listed = []
      · have hin := (ready_last2 hok hs hc).2 (all_listed2 hok hs hr)
        rw [h0] at hin; cases hin
      · obtain ⟨j, hj⟩ := List.exists_mem_of_ne_nil _ hr
        have := old_ready2 hok hs hj
        rw [h0] at this; cases this
    · have hlt : i < l.length + 1 := by
        obtain ⟨_, x, hx, _⟩ := mem_ready.1 hi
        have := (Array.getElem?_eq_some_iff.1 hx).1; simpa using this
      rcases Nat.lt_or_ge i l.length with hl | hl
      · refine wpOp_old2 hok hl (fun a w h => ?_) (h2 i (ready_old2 hok hs hl hi))
        have e : (listed.push false).setIfInBounds i true = (listed.setIfInBounds i true).push false := by
          apply Array.ext_getElem?
          intro j
          simp only [Array.getElem?_setIfInBounds, Array.getElem?_push, Array.size_push, Array.size_setIfInBounds]
          by_cases hj : i = j
          · subst hj; simp [show i < listed.size by omega, show ¬ i = listed.size by omega, show i < listed.size + 1 by omega]
          · simp [hj]
        rw [e]
        exact ih _ a w (by simpa using hs) (closed_set2 hc (ready_old2 hok hs hl hi)) h
      · obtain rfl : i = l.length := by omega
        have hall := (ready_last2 hok hs hc).1 hi
        have hr : Region.ready .any l.toArray listed = [] := by
          apply List.eq_nil_iff_forall_not_mem.2
          intro j hj
          obtain ⟨h0, x, hx, _⟩ := mem_ready.1 hj
          have hjl : j < l.length := by have := (Array.getElem?_eq_some_iff.1 hx).1; simpa using this
          have := hall j hjl
          simp only [Array.getD_eq_getD_getElem?, Array.getElem?_eq_getElem (show j < listed.size by omega), Option.getD_some] at h0 this
          rw [this] at h0; cases h0
        exact wpOp_last2 (h1 hr) (fun a w h => ⟨fun _ => h, fun j hj => by rw [ready_end2 hs hall] at hj; cases hj⟩)
theorem wpAny_last2' (hok : lastOk2 l o = true) {m : Nat} (hm : m = l.length + 1) {a : Act} {w : World} (h : wpAny P .any l.toArray (LastPost P (l ++ [o]).toArray o Q) l.length (Array.replicate l.length false) a w) : wpAny P .any (l ++ [o]).toArray Q m (Array.replicate m false) a w := by
  subst hm
  have := wpAny_last2 (LastOk2.of hok) l.length (Array.replicate l.length false) a _ (by simp) (fun i x hx hi => by simp [Array.getD_eq_getD_getElem?, Array.getElem?_replicate] at hi; split at hi <;> simp at hi) h
  have e : Array.replicate (l.length + 1) false = (Array.replicate l.length false).push false := by
    simp [Array.replicate_succ]
  rw [e]
  exact this
theorem wp_region_last1_held {id : Nat} {a : Act} {w : World} (S : World → Prop) (hm : P.follows .mixedOrders = true) (h1 : lastOk2 l o = true)
    (h : wpAnyH P .any l.toArray (LastPost P (l ++ [o]).toArray o Q) S l.length (Array.replicate l.length false) a w.drew) : (Code.region id (l ++ [o]).toArray true).wp P Q a w := by
  refine wp_region_any hm ?_
  refine wpAny_last2' h1 (by simp) ?_
  exact wpAny_of_held _ _ _ _ h
theorem wp_region_last3_held {o1 o2 o3 : Oper} {id : Nat} {a : Act} {w : World} (S : World → Prop) (hm : P.follows .mixedOrders = true) (h1 : lastOk2 l o1 = true) (h2 : lastOk2 (l ++ [o1]) o2 = true) (h3 : lastOk2 (l ++ [o1] ++ [o2]) o3 = true)
    (h : wpAnyH P .any l.toArray (LastPost P (l ++ [o1]).toArray o1 (LastPost P (l ++ [o1] ++ [o2]).toArray o2 (LastPost P (l ++ [o1] ++ [o2] ++ [o3]).toArray o3 Q))) S l.length (Array.replicate l.length false) a w.drew) : (Code.region id (l ++ [o1] ++ [o2] ++ [o3]).toArray true).wp P Q a w := by
  refine wp_region_any hm ?_
  refine wpAny_last2' h3 (by simp) ?_
  refine wpAny_last2' h2 (by simp) ?_
  refine wpAny_last2' h1 (by simp) ?_
  exact wpAny_of_held _ _ _ _ h
end
end Go.Proofs.Ytnimghkkhiacfaa.P
