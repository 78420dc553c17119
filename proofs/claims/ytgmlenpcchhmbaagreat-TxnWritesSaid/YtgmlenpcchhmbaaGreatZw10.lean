/- what the claim's row stands on, part 10. -/
import Derived.Test.YtgmlenpcchhmbaaGreatZw8
import Derived.Test.YtgmlenpcchhmbaaGreatZw9
section
set_option linter.unusedVariables false
set_option linter.unusedSimpArgs false
namespace Go.Proofs.YtgmlenpcchhmbaaGreat.P
open Go.RowKit Go.Proofs.YtgmlenpcchhmbaaGreatW.PrintWords Go.Proofs.YtgmlenpcchhmbaaGreatW.PrintLast
theorem getL_doW2 (y : S69) (d : List S61) (k : ByteArray) : getL ((doW d y).map toA) k = if k = y.f0 then (if y.f2 = true then none else some y.f1) else getL (d.map toA) k := by
  unfold doW
  rw [map_toA_ofA]
  by_cases h : y.f2 = true
  · rw [if_pos h, if_pos h, getL_del]
  · rw [if_neg h, if_neg h, getL_put]
theorem dext {a b : List S61} (ha : SortK (a.map toA)) (hb : SortK (b.map toA)) (h : ∀ k, getL (a.map toA) k = getL (b.map toA) k) : a = b := by
  have := sort_ext ha hb h
  rw [← map_ofA_toA a, this, map_ofA_toA]
theorem doW_comm {d : List S61} (hs : SortK (d.map toA)) {x y : S69} (h : x.f0 ≠ y.f0) : doW (doW d x) y = doW (doW d y) x :=
  dext (doW_sort (doW_sort hs x) y) (doW_sort (doW_sort hs y) x) fun k => by
    simp only [getL_doW2]
    by_cases e1 : k = x.f0
    · have e2 : ¬ k = y.f0 := fun e => h (e1.symm.trans e)
      rw [if_neg e2, if_pos e1, if_pos e1]
    · rw [if_neg e1, if_neg e1]
theorem doW_same {d : List S61} (hs : SortK (d.map toA)) {x y : S69} (h : x.f0 = y.f0) : doW (doW d x) y = doW d y :=
  dext (doW_sort (doW_sort hs x) y) (doW_sort hs y) fun k => by
    simp only [getL_doW2]
    by_cases e1 : k = y.f0
    · rw [if_pos e1, if_pos e1]
    · rw [if_neg e1, if_neg e1, if_neg (fun e => e1 (e.trans h))]
theorem bl_snoc0 : ∀ (a b : List UInt8), Op.bytesLess a (b ++ [0]) = true → Op.bytesLess a b = false → a = b
  | [], [], _, _ => rfl
  | [], _ :: _, _, h => by simp [Op.bytesLess] at h
  | x :: xs, [], h, _ => by
    rw [List.nil_append, bl_cons, bl_nil, Bool.and_false, Bool.or_false, decide_eq_true_eq] at h
    exact absurd h (by simp [UInt8.lt_iff_toNat_lt])
  | x :: xs, y :: bs, h, g => by
    rw [List.cons_append, bl_cons] at h
    rw [bl_cons] at g
    simp only [Bool.or_eq_true, Bool.and_eq_true, Bool.or_eq_false_iff, Bool.and_eq_false_iff, decide_eq_true_eq, decide_eq_false_iff_not, beq_iff_eq] at h g
    rcases h with h | ⟨h1, h2⟩
    · exact absurd h g.1
    · rcases g.2 with g2 | g2
      · subst h1; simp at g2
      · rw [h1, bl_snoc0 xs bs h2 g2]
theorem bl_self0 : ∀ a : List UInt8, Op.bytesLess a (a ++ [0]) = true
  | [] => rfl
  | x :: xs => by rw [List.cons_append, bl_cons, bl_self0 xs]; simp
theorem hasS_one (k x : ByteArray) : hasS ⟨k, k ++ (⟨#[0]⟩ : ByteArray)⟩ x = decide (x = k) := by
  have hd : (k ++ (⟨#[0]⟩ : ByteArray)).data.toList = k.data.toList ++ [0] := by rw [ByteArray.data_append, Array.toList_append]
  have hne : ¬ k ++ (⟨#[0]⟩ : ByteArray) = emptyB := fun e => by
    have := congrArg (fun b => b.data.toList.length) e
    simp only [hd, List.length_append] at this
    simp [emptyB] at this
  unfold hasS
  simp only [hne, decide_false, Bool.false_or]
  unfold klt
  rw [hd]
  by_cases e : x = k
  · subst e
    rw [bl_irrefl, bl_self0]; simp
  · rw [decide_eq_false e]
    cases h1 : Op.bytesLess x.data.toList k.data.toList with
    | true => rfl
    | false =>
      cases h2 : Op.bytesLess x.data.toList (k.data.toList ++ [0]) with
      | false => rfl
      | true => exact absurd (ba_ext (bl_snoc0 _ _ h2 h1)) e
theorem pick_one (c : List S61) (k : ByteArray) : ((pickT [⟨k, k ++ (⟨#[0]⟩ : ByteArray)⟩] c).length = 0) ↔ getL (c.map toA) k = none := by
  rw [List.length_eq_zero_iff, getL_none]
  unfold pickT hasSs
  simp only [List.any_cons, List.any_nil, Bool.or_false, hasS_one]
  rw [List.filter_eq_nil_iff]
  simp [toA]
theorem ev_j1w (d : List S61) (hs : SortK (d.map toA)) (hl : d.length ≤ 60) (x y : S69) (hx : y.f0.size ≤ 16) : Ev (fun k => folkmootlaw08_TxnWrites.j1 k d (doW (doW d x) y) false x.f0 x.f1 x.f2 y.f0 y.f1 y.f2) true := by
  have hc := doW_sort hs y
  have hlc := doW_len hs y
  have h1 : txn_Apply.f d [⟨y.f0, y.f1, y.f2⟩] = some (doW d y) := apply_f hs (by simp; omega)
  have h2 : txn_Apply.f (doW d y) [⟨y.f0, y.f1, y.f2⟩] = some (doW d y) := by
    rw [apply_f hc (by simp; omega)]
    show some (doW (doW d y) y) = _
    rw [doW_same hs rfl]
  have h3 : txn_Pick.f (doW d y) [⟨y.f0, y.f0 ++ (⟨#[0]⟩ : ByteArray)⟩] = some (pickT [⟨y.f0, y.f0 ++ (⟨#[0]⟩ : ByteArray)⟩] (doW d y)) := by
    unfold txn_Pick.f
    rw [if_pos (by omega)]
  have h4 : ((((pickT [⟨y.f0, y.f0 ++ (⟨#[0]⟩ : ByteArray)⟩] (doW d y)).length : Int) == 0) == y.f2) = true := by
    have hp := pick_one (doW d y) y.f0
    rw [getL_doW2, if_pos rfl] at hp
    cases hg : y.f2 with
    | true =>
      rw [hg, if_pos rfl] at hp
      have := hp.2 rfl
      rw [this]; rfl
    | false =>
      rw [hg] at hp
      have hn : ¬ (pickT [⟨y.f0, y.f0 ++ (⟨#[0]⟩ : ByteArray)⟩] (doW d y)).length = 0 := fun e => by have := hp.1 e; cases this
      rw [beq_iff_eq, beq_eq_false_iff_ne]
      omega
  have hl9 : (doW d y).length ≤ 9223372036854775807 := by omega
  refine Ev.succ ?_
  simp only [folkmootlaw08_TxnWrites.j1]
  have hfin : Ev (fun k => (folkmootref08_Pairs.f k (doW d y) (doW d y)).bind fun t177 => (if t177 = true then (if y.f0.size + 1 ≤ 9223372036854775807 then ((txn_Pick.f (doW d y) (([(⟨y.f0, y.f0 ++ (⟨#[0]⟩ : ByteArray)⟩ : S71)] : List (S71)))).bind fun t181 => (if (((t181.length : Int) == 0) == y.f2) = true then ((folkmootlaw08_live.f).bind fun t184 => (some t184)) else (some false))) else (none)) else (some false))) true :=
    Ev.bind (ev_pairs _ hl9) (Ev.yes rfl (Ev.yes (by omega) (Ev.bind1 h3 (Ev.yes h4 ev_live))))
  refine Ev.no (by decide) (Ev.bind1 h1 (Ev.cond (fun e => ?_) (fun _ => Ev.bind1 h2 hfin)))
  rw [doW_same hs (toList_inj.1 e)]
  exact Ev.bind (ev_pairs _ hl9) (Ev.yes rfl (Ev.bind1 h2 hfin))
theorem ev_j0w (d : List S61) (x y : S69) (q : Bool) (h : q = false → dataT d ∧ d.length ≤ 60 ∧ y.f0.size ≤ 16) : Ev (fun k => folkmootlaw08_TxnWrites.j0 k d q x.f0 x.f1 x.f2 y.f0 y.f1 y.f2) true := by
  refine Ev.succ ?_
  simp only [folkmootlaw08_TxnWrites.j0]
  refine Ev.cond (fun _ => ev_live) (fun hq => ?_)
  obtain ⟨hd, hl, hx⟩ := h (by simpa using hq)
  have hs := hd.1
  have hc := doW_sort hs y
  have hlc := doW_len hs y
  have hlx := doW_len hs x
  have hlc2 := doW_len (doW_sort hs x) y
  have h1 : txn_Apply.f d [⟨x.f0, x.f1, x.f2⟩, ⟨y.f0, y.f1, y.f2⟩] = some (doW (doW d x) y) := apply_f hs (by simp; omega)
  have h2 : txn_Apply.f d [⟨y.f0, y.f1, y.f2⟩] = some (doW d y) := apply_f hs (by simp; omega)
  have h3 : txn_Apply.f (doW d y) [⟨x.f0, x.f1, x.f2⟩] = some (doW (doW d y) x) := apply_f hc (by simp; omega)
  refine Ev.bind1 h1 (Ev.bind1 h2 (Ev.bind1 h3 (Ev.cond (fun e => ev_j1w d hs hl x y hx) (fun e => ?_))))
  rw [← doW_comm hs (fun g => e (toList_inj.2 g))]
  exact Ev.bind (ev_pairs _ (by omega)) (ev_j1w d hs hl x y hx)
theorem key_f (k : ByteArray) : ∃ b, folkmootref03_Key.f k = some b ∧ (b = true → k.size ≤ 16) := by
  unfold folkmootref03_Key.f
  split
  · exact ⟨_, rfl, fun h => by have := of_decide_eq_true h; omega⟩
  · exact ⟨_, rfl, fun h => by cases h⟩
theorem txnWrites_any (A0 : Option Addr) (c0 : Nat) (d : List S61) (x y : S69) (w : World)
    (C0 : Kd.C k61 w A0 d.length d) (hc0 : d.length ≤ c0) (hp0 : d.length ≤ 9223372036854775807 ∧ ∀ p ∈ d, (Lit.int .u64 p.f1).wf = true) :
    Calls Tryz.prog 8 #[.slice A0 d.length c0, .agg #[.string x.f0, .int .u64 x.f1, .bool x.f2], .agg #[.string y.f0, .int .u64 y.f1, .bool y.f2]] w fun e w' => e = .returned (.bool true) ∧ Below w.heap.size w w' := by
  have hb : ∀ p ∈ d, 0 ≤ p.f1 ∧ p.f1 < 18446744073709551616 := fun p hp => by
    have h := hp0.2 p hp
    simp [Lit.wf, IntKind.min, IntKind.max, IntKind.bits, IntKind.signed] at h
    omega
  obtain ⟨b, hb1, hb2⟩ := ev_small [] d
  obtain ⟨b3, hb3, hb4⟩ := ev_data d hp0.1 hb
  obtain ⟨b4, hb5, hb6⟩ := key_f x.f0
  obtain ⟨b5, hb7, hb8⟩ := key_f y.f0
  have hev : Ev (fun k => folkmootlaw08_TxnWrites.f k d x.f0 x.f1 x.f2 y.f0 y.f1 y.f2) true := by
    unfold folkmootlaw08_TxnWrites.f
    have hq : Ev (fun k => folkmootlaw08_TxnWrites.j0 k d true x.f0 x.f1 x.f2 y.f0 y.f1 y.f2) true := ev_j0w d x y true (fun h => by cases h)
    exact Ev.bind hb1 (Ev.cond (fun h1 => Ev.bind hb3 (Ev.cond (fun h2 => Ev.bind1 hb5 (Ev.cond (fun h3 => Ev.bind1 hb7 (Ev.cond (fun h4 => ev_j0w d x y _ (fun _ => ⟨hb4 h2, (hb2 h1).2, hb8 h4⟩)) (fun _ => hq))) (fun _ => hq))) (fun _ => hq))) (fun _ => hq))
  obtain ⟨k, hk⟩ := hev.get
  exact folkmootlaw08_TxnWrites.calls k A0 c0 d x.f0 x.f1 x.f2 y.f0 y.f1 y.f2 true w C0 hc0 ⟨rfl⟩ hk
end Go.Proofs.YtgmlenpcchhmbaaGreat.P
end
