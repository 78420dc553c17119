/- what the claim's row stands on, part 3. -/
import Derived.Test.YtgmlenpcchhmbaaGreatZc2
import Derived.Test.YtgmlenpcchhmbaaGreatZc1
import Derived.Deep.QuietTactic
import Derived.Laws.NewBlocks
section
set_option linter.unusedVariables false
set_option linter.unusedSimpArgs false
namespace Go.Proofs.YtgmlenpcchhmbaaGreat.P
open Go.RowKit Go.Proofs.YtgmlenpcchhmbaaGreatW.PrintWords Go.Proofs.YtgmlenpcchhmbaaGreatW.PrintLast Go.Proofs.YtgmlenpcchhmbaaGreatW.PrintMore
def u64c (x : Int) : Int := IntKind.u64.wrap x
def sOp (s : Sight) : S63 × Sight := (⟨(sInt s).1, (sText (sInt s).2).1, (sText (sText (sInt s).2).2).1, u64c (sInt (sText (sText (sInt s).2).2).2).1⟩, (sInt (sText (sText (sInt s).2).2).2).2)
def txLoop : Nat → Int → Sight → List S63 × Sight
  | 0, _, s => ([], s)
  | k + 1, n, s => if 0 < n then ((sOp s).1 :: (txLoop k (n - 1) (sOp s).2).1, (txLoop k (n - 1) (sOp s).2).2) else ([], s)
theorem sInt_le (s : Sight) : (sInt s).2.1.length ≤ s.1.length := by unfold sInt; split <;> simp
theorem sInt_bytes {s : Sight} (h : bytesOk s.1) : bytesOk (sInt s).2.1 := by unfold sInt; split; exact h; exact bytesOk_drop h _
theorem sText_le (s : Sight) : (sText s).2.1.length ≤ s.1.length := by
  unfold sText; split
  · exact Nat.le_refl _
  · simp only [List.length_drop]; omega
theorem sText_bytes {s : Sight} (h : bytesOk s.1) : bytesOk (sText s).2.1 := by unfold sText; split; exact h; exact bytesOk_drop (bytesOk_drop h _) _
theorem sText_size (s : Sight) : (sText s).1.size ≤ 1048576 := by
  unfold sText; split
  · simp [ByteArray.size]
  · rename_i h
    have : numOf s.1 4 ≤ 1048576 := by
      have h2 := (not_or.1 h).2
      unfold textAt at h2
      simp at h2
      omega
    have e : (strOfNums ((s.1.drop 4).take (numOf s.1 4))).size = ((s.1.drop 4).take (numOf s.1 4)).length := by
      rw [← data_length, strOfNums_data, List.length_map]
    rw [e, List.length_take]; omega
theorem sOp_le (s : Sight) : (sOp s).2.1.length ≤ s.1.length := Nat.le_trans (sInt_le _) (Nat.le_trans (sText_le _) (Nat.le_trans (sText_le _) (sInt_le _)))
theorem sOp_bytes {s : Sight} (h : bytesOk s.1) : bytesOk (sOp s).2.1 := sInt_bytes (sText_bytes (sText_bytes (sInt_bytes h)))
theorem i64_bnd (n : Nat) (h : n < 18446744073709551616) : -9223372036854775808 ≤ i64 n ∧ i64 n < 9223372036854775808 := by unfold i64; split <;> omega
theorem sInt_bnd {s : Sight} (h : bytesOk s.1) : -9223372036854775808 ≤ (sInt s).1 ∧ (sInt s).1 < 9223372036854775808 := by
  unfold sInt; split
  · simp
  · exact i64_bnd _ (by have := numOf_lt h 8; omega)
theorem wrap64_nat' (i : Nat) (h : i < 9223372036854775807) : wrap64 ((i : Int) + 1) = ((i + 1 : Nat) : Int) := by unfold wrap64; omega
theorem eqB (a b : List Int) (hl : a.length = b.length) (hm : a.length < 9223372036854775807) : ∀ (m i k : Nat), i + m = a.length → m < k → slices_Equal_byte_byte.l0 k a b (a.length : Int) (i : Int) = some (decide (a.drop i = b.drop i))
  | m, i, 0, _, h => by omega
  | 0, i, k + 1, h, _ => by
    have e1 : a.drop i = [] := List.drop_eq_nil_of_le (by omega)
    have e2 : b.drop i = [] := List.drop_eq_nil_of_le (by omega)
    rw [slices_Equal_byte_byte.l0, if_neg (by omega), e1, e2]
    simp
  | m + 1, i, k + 1, h, hk => by
    have hi : i < a.length := by omega
    have hj : i < b.length := by omega
    rw [slices_Equal_byte_byte.l0, if_pos (by omega), if_pos (by omega), if_pos (by omega), if_pos (by omega), rd_nat a hi, rd_nat b hj, wrap64_nat' i (by omega), eqB a b hl hm m (i + 1) k (by omega) (by omega), List.drop_eq_getElem_cons hi, List.drop_eq_getElem_cons hj]
    by_cases he : a[i] = b[i]
    · rw [if_pos he, he]
      simp only [List.cons.injEq, true_and]
    · rw [if_neg he, decide_eq_false (fun h => he (List.cons.inj h).1)]
theorem eqBf (a b : List Int) (hm : a.length < 9223372036854775807) : slices_Equal_byte_byte.f (a.length + 1) a b = some (decide (a = b)) := by
  unfold slices_Equal_byte_byte.f
  by_cases hl : a.length = b.length
  · rw [if_pos (by omega), show (0 : Int) = ((0 : Nat) : Int) from rfl, eqB a b hl hm a.length 0 _ (by omega) (by omega)]
    simp
  · rw [if_neg (by omega)]
    have : a ≠ b := fun h => hl (by rw [h])
    simp [this]
def lenV : Value → Nat
  | .slice _ n _ => n
  | _ => 0
def txAll (b : List Int) : List S63 × Sight := txLoop 9 (sInt (b, false)).1 (sInt (b, false)).2
def okDone (s : Sight) : Bool := decide (¬ (s.2 = true ∨ s.1.length ≠ 0))
theorem txLoop_bytes : ∀ (k : Nat) (n : Int) (s : Sight), (txLoop k n s).1.length ≤ k
  | 0, n, s => by simp [txLoop]
  | k + 1, n, s => by
    unfold txLoop
    split
    · have := txLoop_bytes k (n - 1) (sOp s).2
      simp only [List.length_cons]; omega
    · simp
theorem txLoop_size : ∀ (k : Nat) (n : Int) (s : Sight), ∀ o ∈ (txLoop k n s).1, o.f1.size ≤ 140737488355328 ∧ o.f2.size ≤ 140737488355328
  | 0, n, s => by simp [txLoop]
  | k + 1, n, s => by
    intro o ho
    unfold txLoop at ho
    split at ho
    · rcases List.mem_cons.1 ho with rfl | ho
      · exact ⟨Nat.le_trans (sText_size _) (by omega), Nat.le_trans (sText_size _) (by omega)⟩
      · exact txLoop_size k _ _ o ho
    · simp at ho
set_option maxHeartbeats 4000000 in
set_option maxRecDepth 100000 in
theorem txparse_any (A : Option Addr) (c : Nat) (b : List Int) (w : World) (hr : Kd.C (Kd.int .u8) w A b.length b) (hc : b.length ≤ c) (hb : bytesOk b) (hl : b.length ≤ 1099511627776) :
    Calls Tryz.prog 15 #[.slice A b.length c] w fun e w' => ∃ v, e = .returned (.tuple #[v, .int .i64 (if okDone (txAll b).2 = true ∧ checkT (txAll b).1 = 0 ∧ laidOps (txAll b).1 = b then 0 else 80)]) ∧ Kd.R k63 63 w' w.heap.size (fun _ => True) v (if okDone (txAll b).2 = true ∧ checkT (txAll b).1 = 0 ∧ laidOps (txAll b).1 = b then (txAll b).1 else []) ∧ Below w.heap.size w w' := by
  have hop := flOpen_any A c b w (readsInt_of.2 (Kd.reads_of_C (d := (0 : Int)) hr)) (by omega)
  have HOP := Lib.hid hop
  have HX := Lib.hid (And.intro hr (And.intro hc (And.intro hb hl)))
  have HDL := Lib.hid (And.intro (txLoop_bytes 9 (sInt (b, false)).1 (sInt (b, false)).2) (txLoop_size 9 (sInt (b, false)).1 (sInt (b, false)).2))
  clear hop hr hc hb hl
  generalize hP : txAll b = PA at *
  rw [show txLoop 9 (sInt (b, false)).1 (sInt (b, false)).2 = PA from hP] at HDL
  have HPA := Lib.hid hP
  clear hP
  generalize her : (if okDone PA.2 = true ∧ checkT PA.1 = 0 ∧ laidOps PA.1 = b then (0 : Int) else 80) = er at *
  generalize hrr : (if okDone PA.2 = true ∧ checkT PA.1 = 0 ∧ laidOps PA.1 = b then PA.1 else []) = rr at *
  have HER := Lib.hid (And.intro her hrr)
  clear her hrr
  go_enter Tryz.func15, Tryz.ntmps15
  go_wp2_with fail
  refine HOP.out.mono ?_
  rintro e w1 ⟨g, ab, rfl, hg, hab, hE1, hb1⟩
  have hI := flInt_any (b, false) hE1 HX.out.2.2.1
  have HE := Lib.hid (And.intro hg (And.intro hab (And.intro hb1 hI)))
  clear hg hab hE1 hb1 hI
  go_wp2_with fail
  refine HE.out.2.2.2.mono ?_
  rintro e w2 ⟨rfl, hE2, hu2⟩
  have hb2 : Below w.heap.size w w2 := HE.out.2.2.1.trans (hu2.below HE.out.2.2.1.size (fun q hq e => by have := HE.out.1; omega))
  have hn0 := sInt_bnd (s := (b, false)) HX.out.2.2.1
  have hpa : txLoop 9 (sInt (b, false)).1 (sInt (b, false)).2 = PA := HPA.out
  have HS0 := Lib.hid (And.intro hE2 (And.intro hb2 (And.intro (sInt_bytes (s := (b, false)) HX.out.2.2.1) (And.intro (sInt_le (b, false)) hpa))))
  clear hE2 hu2 hb2 hpa
  generalize sInt (b, false) = s0 at *
  obtain ⟨n0, s0⟩ := s0
  simp only at hn0
  go_wp2
  go_loopw [2, 5, 6] (fun so sn _ wr => ∃ (ds : List S63) (A' : Option Addr) (c' : Nat) (n : Int) (s : Sight), so = .slice A' ds.length c' ∧ sn = .int .i64 n ∧ ds.length ≤ 9 ∧ -9223372036854775808 ≤ n ∧ n < 9223372036854775808 ∧ RowKit.Hid (Kd.R k63 63 wr w.heap.size (fun q => q ≠ g ∧ q ≠ ab) (.slice A' ds.length c') ds ∧ EyeIs wr g ab s.1 s.2 ∧ Below w.heap.size w wr ∧ bytesOk s.1 ∧ s.1.length ≤ b.length ∧ ds ++ (txLoop (9 - ds.length) n s).1 = PA.1 ∧ (txLoop (9 - ds.length) n s).2 = PA.2)) (fun so _ _ _ => 10 - (lenV so))
  case atStart => exact ⟨[], none, 0, n0, s0, rfl, rfl, by simp, hn0.1, hn0.2, Lib.hid ⟨Kd.R_nil _ _ _ _ _, HS0.out.1, HS0.out.2.1, HS0.out.2.2.1, HS0.out.2.2.2.1, by rw [← HS0.out.2.2.2.2]; rfl, by rw [← HS0.out.2.2.2.2]; rfl⟩⟩
  case round =>
    obtain ⟨ds, A', c', n, s, rfl, rfl, hk, hnl, hnh, HS⟩ := hrel
    by_cases hn : 0 < n ∧ ds.length ≤ 8
    · obtain ⟨hn, h8⟩ := hn
      obtain ⟨k, hk9⟩ : ∃ k, 9 - ds.length = k + 1 := ⟨8 - ds.length, by omega⟩
      obtain ⟨hS, hE, hB, hby, hle, hp1, hp2⟩ := HS.out
      rw [hk9, txLoop, if_pos hn] at hp1 hp2
      have hI := flInt_any s hE hby
      have hby1 := sInt_bytes hby
      have hT1 := fun (W : World) (h : EyeIs W g ab (sInt s).2.1 (sInt s).2.2) => flText_any (sInt s).2 h hby1
      have hby2 := sText_bytes hby1
      have hT2 := fun (W : World) (h : EyeIs W g ab (sText (sInt s).2).2.1 (sText (sInt s).2).2.2) => flText_any (sText (sInt s).2).2 h hby2
      have hby3 := sText_bytes hby2
      have hI2 := fun (W : World) (h : EyeIs W g ab (sText (sText (sInt s).2).2).2.1 (sText (sText (sInt s).2).2).2.2) => flInt_any (sText (sText (sInt s).2).2).2 h hby3
      have hby4 := sOp_bytes hby
      have hle4 := Nat.le_trans (sOp_le s) hle
      have hlv : ∀ q, (Value.slice A' ds.length c').ownBlock = some q → q < wr.heap.size := Kd.R_lt hS
      have hop : sOp s = (⟨(sInt s).1, (sText (sInt s).2).1, (sText (sText (sInt s).2).2).1, u64c (sInt (sText (sText (sInt s).2).2).2).1⟩, (sInt (sText (sText (sInt s).2).2).2).2) := rfl
      generalize hos : sOp s = os at *
      generalize sInt (sText (sText (sInt s).2).2).2 = xN at *
      generalize sText (sText (sInt s).2).2 = t2 at *
      generalize sText (sInt s).2 = t1 at *
      generalize sInt s = xI at *
      obtain ⟨x0, s1⟩ := xI
      obtain ⟨x1, s2⟩ := t1
      obtain ⟨x2, s3⟩ := t2
      obtain ⟨x3, s4⟩ := xN
      simp only at hop
      subst hop
      simp only at hp1 hp2 hI hT1 hT2 hI2 hby4 hle4
      have HY := Lib.hid (And.intro hS (And.intro hB (And.intro hby4 (And.intro hle4 (And.intro hp1 (And.intro hp2 (And.intro hk9 hlv)))))))
      have HI := Lib.hid hI; have HT1 := Lib.hid hT1; have HT2 := Lib.hid hT2; have HI2 := Lib.hid hI2
      have HGE := Lib.hid (And.intro hE.lt hE.old)
      have dn : decide (0 < n) = true := decide_eq_true hn
      have d8 : decide ((ds.length : Int) ≤ 8) = true := decide_eq_true (by omega)
      clear hS hE hB hby hle hp1 hp2 hI hT1 hT2 hI2 hby1 hby2 hby3 hby4 hle4 hlv hk9 HS hos
      go_wp2_with fail
      refine HI.out.mono ?_
      rintro e w3 ⟨rfl, hE3, hu3⟩
      have HN3 := Lib.hid (And.intro (HT1.out w3 hE3) hu3)
      clear hE3 hu3
      go_wp2_with fail
      refine HN3.out.1.mono ?_
      rintro e w4 ⟨rfl, hE4, hu4⟩
      have HN4 := Lib.hid (And.intro (HT2.out w4 hE4) (HN3.out.2.trans hu4))
      clear hE4 hu4
      go_wp2_with fail
      refine HN4.out.1.mono ?_
      rintro e w5 ⟨rfl, hE5, hu5⟩
      have hb6 : Below w5.heap.size w5 (w5.alloc (.cells #[.int .i64 x0, .string x1, .string x2, .int .u64 0] 63)) := (Below.refl _ _).alloc (Nat.le_refl _) _
      have hT6 : Blk (w5.alloc (.cells #[.int .i64 x0, .string x1, .string x2, .int .u64 0] 63)) w5.heap.size 63 #[.int .i64 x0, .string x1, .string x2, .int .u64 0] := Blk.new w5 63 _
      have hu5' : Upd wr w5 (· = g) := HN4.out.2.trans hu5
      have hg5 : g < w5.heap.size := Nat.lt_of_lt_of_le HGE.out.1 hu5'.size
      have hsz5 : wr.heap.size ≤ w5.heap.size := hu5'.size
      have HN5 := Lib.hid (And.intro (HI2.out _ (hE5.below hb6)) (And.intro (hu5'.then_below hb6) hT6))
      clear hE5 hu5 hb6 hT6 hu5'
      go_wp2_with fail
      refine HN5.out.1.mono ?_
      rintro e w7 ⟨rfl, hE7, hu7⟩
      have hT7 : Blk w7 w5.heap.size 63 #[.int .i64 x0, .string x1, .string x2, .int .u64 0] := HN5.out.2.2.upd hu7 (fun e => by omega)
      have k0 := hT7.cell 0
      have k1 := hT7.cell 1
      have k2 := hT7.cell 2
      have k3 := hT7.cell 3
      have kz := hT7.frozen 3
      have hgw : w.heap.size ≤ g := HE.out.1
      have haw : w.heap.size ≤ ab := HE.out.2.1
      obtain ⟨W, hW⟩ : ∃ W, w7.setCell ⟨w5.heap.size, 3, none⟩ (.int .u64 (IntKind.u64.wrap x3)) = W := ⟨_, rfl⟩
      have huW : Upd wr W (· = g) := hW ▸ (HN5.out.2.1.trans hu7).setCell (p := ⟨w5.heap.size, 3, none⟩) (.inr hsz5) _
      have hTW : Blk W w5.heap.size 63 #[.int .i64 x0, .string x1, .string x2, .int .u64 (IntKind.u64.wrap x3)] := hW ▸ hT7.set_ 3 _
      have hEW : EyeIs W g ab s4.1 s4.2 := hW ▸ hE7.upd ((Upd.refl w7 (· = w5.heap.size)).setCell (p := ⟨w5.heap.size, 3, none⟩) (.inl rfl) _) (fun e => by omega) (fun e => by have := HGE.out.2; omega)
      have hbW : Below w.heap.size w W := HY.out.2.1.trans (huW.below HY.out.2.1.size (fun q hq e => by omega))
      have l0 := hTW.cell 0
      have l1 := hTW.cell 1
      have l2 := hTW.cell 2
      have l3 := hTW.cell 3
      have HNW := Lib.hid (And.intro huW (And.intro hEW hbW))
      clear huW hTW hEW hbW hE7 hu7
      go_wp2_with (first | ((with_reducible refine gate_builtin (b := .append) (xs := #[.tmp 31, .tmp 33]) rfl ?_); at_builtin; refine stop_append rfl ?_))
      refine Lib.hid ?_
      refine Kd.R_append k63 (w0 := w) w.heap.size rfl (.tmp 31) (.tmp 33) 22 63 (.agg #[.int .i64 0, .string ⟨#[]⟩, .string ⟨#[]⟩, .int .u64 0]) 48 rfl Tryz.underlying22 info63 rfl (by decide) (by decide) (.slice A' ds.length c') ds ⟨x0, x1, x2, u64c x3⟩ [.int .i64 x0, .string x1, .string x2, .int .u64 (IntKind.u64.wrap x3)] (fun q => q ≠ g ∧ q ≠ ab) (fun _ => False) rfl rfl (k63_mkM _ _ _ _) (fun _ h => h.elim) ?_ ?_ HNW.out.2.2 HNW.out.2.2.size (by omega) ?_
      · intro q hq
        have := HGE.out
        have := HNW.out.1.size
        exact ⟨by omega, by omega⟩
      · exact Kd.R_step HY.out.1 (fun q hq hql => HNW.out.1.block q hql hq.1)
      intro v9 w9 hS9 hB9 hg9 hat9
      have hln : (ds ++ [(⟨x0, x1, x2, u64c x3⟩ : S63)]).length = ds.length + 1 := by simp
      obtain ⟨A9, c9, e9⟩ := Kd.R_slice hS9
      have hE9 : EyeIs w9 g ab s4.1 s4.2 := by
        have hu9 : Upd W w9 (fun q => some q = (Value.slice A' ds.length c').ownBlock) := Upd.of_grown hg9 (fun q hq => hq.symm)
        exact HNW.out.2.1.upd hu9 (fun h => (HY.out.1.1 g h.symm).1 rfl) (fun h => (HY.out.1.1 ab h.symm).2 rfl)
      have HN9 := Lib.hid (And.intro hS9 (And.intro hB9 hE9))
      rw [e9, hln] at HN9
      rw [e9, hln]
      clear hS9 hB9 hg9 hat9 e9 hE9
      go_wp2_with fail
      go_roundw
      case rel =>
        refine ⟨ds ++ [⟨x0, x1, x2, u64c x3⟩], A9, c9, n - 1, s4, by rw [hln], by go_num, by omega, by omega, by omega, Lib.hid ⟨by rw [hln]; exact HN9.out.1, HN9.out.2.2, HN9.out.2.1, HY.out.2.2.1, HY.out.2.2.2.1, ?_, ?_⟩⟩
        · rw [hln, show 9 - (ds.length + 1) = k by have := HY.out.2.2.2.2.2.2.1; omega, List.append_assoc]; exact HY.out.2.2.2.2.1
        · rw [hln, show 9 - (ds.length + 1) = k by have := HY.out.2.2.2.2.2.2.1; omega]; exact HY.out.2.2.2.2.2.1
      case measure => simp [lenV]; omega
    · obtain ⟨hS, hE, hB, hby, hle, hp1, hp2⟩ := HS.out
      have hz : txLoop (9 - ds.length) n s = ([], s) := by
        rcases Nat.lt_or_ge ds.length 9 with h | h
        · obtain ⟨k, hk9⟩ : ∃ k, 9 - ds.length = k + 1 := ⟨8 - ds.length, by omega⟩
          rw [hk9, txLoop, if_neg (by omega)]
        · rw [show 9 - ds.length = 0 by omega]; rfl
      rw [hz] at hp1 hp2
      simp only [List.append_nil] at hp1 hp2
      obtain ⟨D, F⟩ := PA
      simp only at hp1 hp2
      subst hp1 hp2
      have hdone := flDone_any s hE
      obtain ⟨hnil, hcd, hC⟩ := Kd.R_reads' hS
      have hchk := txn_Check.calls A' c' ds (checkT ds) wr hC hcd rfl
      have hlv : ∀ q, (Value.slice A' ds.length c').ownBlock = some q → q < wr.heap.size := Kd.R_lt hS
      obtain ⟨dv, hdv⟩ : ∃ dv, (if s.2 = true ∨ s.1.length ≠ 0 then (20 : Int) else 0) = dv := ⟨_, rfl⟩
      rw [hdv] at hdone
      have hok : okDone s = decide (dv = 0) := by
        rw [← hdv]
        unfold okDone
        split
        · rename_i h; rw [decide_eq_false (fun hn => hn h)]; rfl
        · rename_i h; rw [decide_eq_true h]; rfl
      have hput := fun (W : World) (h : Below wr.heap.size wr W) => txput_any A' c' ds W (Kd.C_below hC h) (by omega) HDL.out.2
      have HZ := Lib.hid (And.intro hdone (And.intro hchk (And.intro hput (And.intro hok (And.intro hS hB)))))
      clear hS hE hB hby hle hz hdone hcd hC hchk hlv hdv hok hput HS hnil
      have hW : ∀ W, Below wr.heap.size wr W → Below w.heap.size w W := fun W h => HZ.out.2.2.2.2.2.trans (h.mono HZ.out.2.2.2.2.2.size)
      have HW := Lib.hid hW
      clear hW
      have hexit : (0 < n ∧ decide ((ds.length : Int) ≤ 8) = false) ∨ ¬ 0 < n := by
        by_cases h0 : 0 < n
        · exact .inl ⟨h0, decide_eq_false (fun h => hn ⟨h0, by omega⟩)⟩
        · exact .inr h0
      clear hn
      rcases hexit with ⟨h0, h8⟩ | h0
      · have d0 : decide (0 < n) = true := decide_eq_true h0
        go_wp2_with fail
        refine HZ.out.1.mono ?_
        rintro e w7 ⟨rfl, rfl⟩
        by_cases hd : dv = 0
        · subst hd
          have hko : okDone s = true := HZ.out.2.2.2.1
          have HKO := Lib.hid hko
          clear hko
          go_wp2_with fail
          refine HZ.out.2.1.mono ?_
          rintro e w8 ⟨rfl, hb8⟩
          have HB8 := Lib.hid hb8
          clear hb8
          by_cases hq0 : checkT ds = 0
          · rw [hq0]
            have HQ0 := Lib.hid hq0
            clear hq0
            go_wp2_with fail
            refine (HZ.out.2.2.1 w8 HB8.out).mono ?_
            rintro e w9 ⟨v9, rfl, ho9, hb9⟩
            have HB9 := Lib.hid (HB8.out.trans (hb9.mono HB8.out.size))
            obtain ⟨A9, c9, e9, hc9, hC9⟩ := Kd.R_reads (Kd.R_of_own ho9 (fun _ _ => trivial) : Kd.R (Kd.int .u8) 5 w9 w8.heap.size (fun _ => True) v9 (laidOps ds))
            subst e9
            have heq := slices_Equal_byte_byte.calls _ A9 c9 (laidOps ds) A c b _ w9 hC9 hc9 (Kd.C_below HX.out.1 (HW.out _ HB9.out)) HX.out.2.1 (eqBf (laidOps ds) b (by have h6 := laidOs_len ds; have := HDL.out.1; unfold laidOps; rw [List.length_append, laidI_len]; omega))
            have HEQ := Lib.hid heq
            clear heq ho9 hb9 hc9 hC9
            by_cases he : laidOps ds = b
            · have hr : decide (laidOps ds = b) = true := decide_eq_true he
              rw [hr] at HEQ
              have HHE := Lib.hid he
              clear he hr
              go_wp2_with fail
              refine HEQ.out.mono ?_
              rintro e w10 ⟨rfl, hd10⟩
              have HB10 := Lib.hid (HB9.out.trans (hd10.below.mono HB9.out.size))
              clear hd10
              go_wp2
              go_ret2
              have e1 : er = 0 := HER.out.1.symm.trans (if_pos ⟨HKO.out, HQ0.out, HHE.out⟩)
              have e2 : rr = ds := HER.out.2.symm.trans (if_pos ⟨HKO.out, HQ0.out, HHE.out⟩)
              rw [e1, e2]
              refine ⟨_, rfl, ?_, HW.out _ HB10.out⟩
              exact Kd.R_mono (Kd.R_below HZ.out.2.2.2.2.1 HB10.out) (fun _ _ => trivial)
            · have hr : decide (laidOps ds = b) = false := decide_eq_false he
              rw [hr] at HEQ
              have HHE := Lib.hid he
              clear he hr
              go_wp2_with fail
              refine HEQ.out.mono ?_
              rintro e w10 ⟨rfl, hd10⟩
              have HB10 := Lib.hid (HB9.out.trans (hd10.below.mono HB9.out.size))
              clear hd10
              go_wp2
              go_ret2
              have e1 : er = 80 := HER.out.1.symm.trans (if_neg (fun h => HHE.out h.2.2))
              have e2 : rr = [] := HER.out.2.symm.trans (if_neg (fun h => HHE.out h.2.2))
              rw [e1, e2]
              refine ⟨_, rfl, ?_, HW.out _ HB10.out⟩
              exact Kd.R_nil _ _ _ _ _
          · have HQ := Lib.hid hq0
            have hqb : (checkT ds == 0) = false := beq_eq_false_iff_ne.2 hq0
            have hqc : (checkT ds != 0) = true := bne_iff_ne.2 hq0
            clear hq0
            generalize hck : checkT ds = ck at *
            have HCK := Lib.hid hck
            clear hck
            go_wp2
            go_ret2
            have hno : ¬ (okDone s = true ∧ ck = 0 ∧ laidOps ds = b) := fun h => HQ.out h.2.1
            have e1 : er = 80 := HER.out.1.symm.trans (if_neg hno)
            have e2 : rr = [] := HER.out.2.symm.trans (if_neg hno)
            rw [e1, e2]
            refine ⟨_, rfl, ?_, HW.out _ HB8.out⟩
            exact Kd.R_nil _ _ _ _ _
        · have hko : okDone s = false := by rw [HZ.out.2.2.2.1]; exact decide_eq_false hd
          have HKO := Lib.hid hko
          clear hko
          have hqb : (dv == 0) = false := beq_eq_false_iff_ne.2 hd
          have hqc : (dv != 0) = true := bne_iff_ne.2 hd
          clear hd
          go_wp2
          go_ret2
          have hno : ¬ (okDone s = true ∧ checkT ds = 0 ∧ laidOps ds = b) := fun h => by rw [HKO.out] at h; exact absurd h.1 (by decide)
          have e1 : er = 80 := HER.out.1.symm.trans (if_neg hno)
          have e2 : rr = [] := HER.out.2.symm.trans (if_neg hno)
          rw [e1, e2]
          refine ⟨_, rfl, ?_, HW.out _ (Below.refl _ _)⟩
          exact Kd.R_nil _ _ _ _ _
      · have d0 : decide (0 < n) = false := decide_eq_false h0
        go_wp2_with fail
        refine HZ.out.1.mono ?_
        rintro e w7 ⟨rfl, rfl⟩
        by_cases hd : dv = 0
        · subst hd
          have hko : okDone s = true := HZ.out.2.2.2.1
          have HKO := Lib.hid hko
          clear hko
          go_wp2_with fail
          refine HZ.out.2.1.mono ?_
          rintro e w8 ⟨rfl, hb8⟩
          have HB8 := Lib.hid hb8
          clear hb8
          by_cases hq0 : checkT ds = 0
          · rw [hq0]
            have HQ0 := Lib.hid hq0
            clear hq0
            go_wp2_with fail
            refine (HZ.out.2.2.1 w8 HB8.out).mono ?_
            rintro e w9 ⟨v9, rfl, ho9, hb9⟩
            have HB9 := Lib.hid (HB8.out.trans (hb9.mono HB8.out.size))
            obtain ⟨A9, c9, e9, hc9, hC9⟩ := Kd.R_reads (Kd.R_of_own ho9 (fun _ _ => trivial) : Kd.R (Kd.int .u8) 5 w9 w8.heap.size (fun _ => True) v9 (laidOps ds))
            subst e9
            have heq := slices_Equal_byte_byte.calls _ A9 c9 (laidOps ds) A c b _ w9 hC9 hc9 (Kd.C_below HX.out.1 (HW.out _ HB9.out)) HX.out.2.1 (eqBf (laidOps ds) b (by have h6 := laidOs_len ds; have := HDL.out.1; unfold laidOps; rw [List.length_append, laidI_len]; omega))
            have HEQ := Lib.hid heq
            clear heq ho9 hb9 hc9 hC9
            by_cases he : laidOps ds = b
            · have hr : decide (laidOps ds = b) = true := decide_eq_true he
              rw [hr] at HEQ
              have HHE := Lib.hid he
              clear he hr
              go_wp2_with fail
              refine HEQ.out.mono ?_
              rintro e w10 ⟨rfl, hd10⟩
              have HB10 := Lib.hid (HB9.out.trans (hd10.below.mono HB9.out.size))
              clear hd10
              go_wp2
              go_ret2
              have e1 : er = 0 := HER.out.1.symm.trans (if_pos ⟨HKO.out, HQ0.out, HHE.out⟩)
              have e2 : rr = ds := HER.out.2.symm.trans (if_pos ⟨HKO.out, HQ0.out, HHE.out⟩)
              rw [e1, e2]
              refine ⟨_, rfl, ?_, HW.out _ HB10.out⟩
              exact Kd.R_mono (Kd.R_below HZ.out.2.2.2.2.1 HB10.out) (fun _ _ => trivial)
            · have hr : decide (laidOps ds = b) = false := decide_eq_false he
              rw [hr] at HEQ
              have HHE := Lib.hid he
              clear he hr
              go_wp2_with fail
              refine HEQ.out.mono ?_
              rintro e w10 ⟨rfl, hd10⟩
              have HB10 := Lib.hid (HB9.out.trans (hd10.below.mono HB9.out.size))
              clear hd10
              go_wp2
              go_ret2
              have e1 : er = 80 := HER.out.1.symm.trans (if_neg (fun h => HHE.out h.2.2))
              have e2 : rr = [] := HER.out.2.symm.trans (if_neg (fun h => HHE.out h.2.2))
              rw [e1, e2]
              refine ⟨_, rfl, ?_, HW.out _ HB10.out⟩
              exact Kd.R_nil _ _ _ _ _
          · have HQ := Lib.hid hq0
            have hqb : (checkT ds == 0) = false := beq_eq_false_iff_ne.2 hq0
            have hqc : (checkT ds != 0) = true := bne_iff_ne.2 hq0
            clear hq0
            generalize hck : checkT ds = ck at *
            have HCK := Lib.hid hck
            clear hck
            go_wp2
            go_ret2
            have hno : ¬ (okDone s = true ∧ ck = 0 ∧ laidOps ds = b) := fun h => HQ.out h.2.1
            have e1 : er = 80 := HER.out.1.symm.trans (if_neg hno)
            have e2 : rr = [] := HER.out.2.symm.trans (if_neg hno)
            rw [e1, e2]
            refine ⟨_, rfl, ?_, HW.out _ HB8.out⟩
            exact Kd.R_nil _ _ _ _ _
        · have hko : okDone s = false := by rw [HZ.out.2.2.2.1]; exact decide_eq_false hd
          have HKO := Lib.hid hko
          clear hko
          have hqb : (dv == 0) = false := beq_eq_false_iff_ne.2 hd
          have hqc : (dv != 0) = true := bne_iff_ne.2 hd
          clear hd
          go_wp2
          go_ret2
          have hno : ¬ (okDone s = true ∧ checkT ds = 0 ∧ laidOps ds = b) := fun h => by rw [HKO.out] at h; exact absurd h.1 (by decide)
          have e1 : er = 80 := HER.out.1.symm.trans (if_neg hno)
          have e2 : rr = [] := HER.out.2.symm.trans (if_neg hno)
          rw [e1, e2]
          refine ⟨_, rfl, ?_, HW.out _ (Below.refl _ _)⟩
          exact Kd.R_nil _ _ _ _ _
instance (b : List Int) : Decidable (bytesOk b) := inferInstanceAs (Decidable (∀ x ∈ b, 0 ≤ x ∧ x < 256))
def parseT (b : List Int) : List S63 × Int := (if okDone (txAll b).2 = true ∧ checkT (txAll b).1 = 0 ∧ laidOps (txAll b).1 = b then (txAll b).1 else [], if okDone (txAll b).2 = true ∧ checkT (txAll b).1 = 0 ∧ laidOps (txAll b).1 = b then 0 else 80)
def txn_Parse.f (b : List Int) : Option (List S63 × Int) := if bytesOk b ∧ b.length ≤ 1099511627776 then some (parseT b) else none
theorem txn_Parse.calls (A0 : Option Addr) (c0 : Nat) (l0 : List Int) (r0 : List S63) (r1 : Int) (w : World) (hr0 : Kd.C (Kd.int .u8) w A0 l0.length l0) (hc0 : l0.length ≤ c0) (h : txn_Parse.f l0 = some (r0, r1)) :
    Calls Tryz.prog 15 #[.slice A0 l0.length c0] w fun e w' => ∃ v0_ : Value, e = .returned (.tuple #[v0_, .int .i64 r1]) ∧ Kd.R k63 63 w' w.heap.size (fun _ => True) v0_ r0 ∧ Below w.heap.size w w' := by
  unfold txn_Parse.f at h
  split at h
  · rename_i hc
    injection h with h
    unfold parseT at h
    injection h with h0 h1
    subst h0 h1
    exact txparse_any A0 c0 l0 w hr0 hc0 hc.1 hc.2
  · cases h
end Go.Proofs.YtgmlenpcchhmbaaGreat.P
end
section
set_option linter.unusedVariables false
set_option linter.unusedSimpArgs false
namespace Go.Proofs.YtgmlenpcchhmbaaGreat.P
open Go.RowKit Go.Proofs.YtgmlenpcchhmbaaGreatW.PrintWords Go.Proofs.YtgmlenpcchhmbaaGreatW.PrintLast Go.Proofs.YtgmlenpcchhmbaaGreatW.PrintMore
theorem zeroCells_one (z : Value) (n : Nat) (a b : Value) (hz : z.cells = #[a, b]) (ha : a.oneCell' = true) (hb : b.oneCell' = true) : (Builtin.zeroCells z.cells n).toList.length = n * 2 ∧ ∀ v ∈ (Builtin.zeroCells z.cells n).toList, v.oneCell' = true := by
  rw [hz]
  constructor
  · simp [Builtin.zeroCells]
  · intro v hv
    unfold Builtin.zeroCells at hv
    rw [Array.mem_toList_iff, Array.mem_map] at hv
    obtain ⟨i, _, rfl⟩ := hv
    have : i % (#[a, b] : Array Value).size = 0 ∨ i % (#[a, b] : Array Value).size = 1 := Nat.mod_two_eq_zero_or_one i
    rcases this with h | h
    · rw [h]; exact ha
    · rw [h]; exact hb
theorem run_clear2 {P : Program} (w : World) (t e ty : TypeId) (z a' b' : Value) (ht : P.underlying t = some (.slice e)) (hv : ∀ w, (zeroValue e).run P w = .ok z w) (hz : z.cells = #[a', b']) (ha : a'.oneCell' = true) (hb : b'.oneCell' = true) (b o n c : Nat) (hn : 0 < n)
    (hc : ∀ j, j < n * 2 → (w.cell? ⟨b, o + j, none⟩).isSome = true) (hf : ∀ j, j < n * 2 → w.frozen? ⟨b, o + j, none⟩ = false) :
    (Builtin.clear_ #[t] ty #[.slice (some ⟨b, o, none⟩) n c]).run P w = .ok (.tuple #[]) (w.setCells b o (Builtin.zeroCells z.cells n).toList) := by
  obtain ⟨hl, h1⟩ := zeroCells_one z n a' b' hz ha hb
  have hst := run_storeCells_cells (P := P) b o (Builtin.zeroCells z.cells n).toList 0 w (by rw [hl]; simpa using hc) (by rw [hl]; simpa using hf) h1
  simp only [Nat.add_zero] at hst
  obtain ⟨m, rfl⟩ : ∃ m, n = m + 1 := ⟨n - 1, by omega⟩
  simp [Builtin.clear_, run_underlying ht, hv, hst]
def enc2 (ps : List (Value × Value)) : List Value := ps.flatMap fun p => [p.1, p.2]
theorem enc2_cons (p : Value × Value) (ps : List (Value × Value)) : enc2 (p :: ps) = p.1 :: p.2 :: enc2 ps := rfl
theorem enc2_len : ∀ ps : List (Value × Value), (enc2 ps).length = ps.length * 2
  | [] => rfl
  | p :: ps => by rw [enc2_cons, List.length_cons, List.length_cons, enc2_len ps, List.length_cons]; omega
theorem enc2_at : ∀ (ps : List (Value × Value)) (j : Nat), (enc2 ps)[j * 2]? = ps[j]?.map (·.1) ∧ (enc2 ps)[j * 2 + 1]? = ps[j]?.map (·.2)
  | [], j => by simp [enc2]
  | p :: ps, 0 => by simp [enc2_cons]
  | p :: ps, j + 1 => by
    have h := enc2_at ps j
    rw [enc2_cons, show (j + 1) * 2 = j * 2 + 1 + 1 by omega]
    simpa using h
theorem enc2_take : ∀ (ps : List (Value × Value)) (j : Nat), (enc2 ps).take (j * 2) = enc2 (ps.take j)
  | [], j => by simp [enc2]
  | p :: ps, 0 => by simp [enc2]
  | p :: ps, j + 1 => by
    rw [enc2_cons, show (j + 1) * 2 = j * 2 + 1 + 1 by omega, List.take_succ_cons, List.take_succ_cons, enc2_take ps j]
    rfl
theorem enc2_set : ∀ (ps : List (Value × Value)) (j : Nat) (a b : Value), ((enc2 ps).set (j * 2) a).set (j * 2 + 1) b = enc2 (ps.set j (a, b))
  | [], j, a, b => by simp [enc2]
  | p :: ps, 0, a, b => by simp [enc2_cons]
  | p :: ps, j + 1, a, b => by
    have h := enc2_set ps j a b
    rw [enc2_cons, show (j + 1) * 2 = j * 2 + 1 + 1 by omega, List.set_cons_succ, List.set_cons_succ, List.set_cons_succ, List.set_cons_succ, h]
    rfl
abbrev pPr (s : S61) : Value × Value := (.string s.f0, .int .u64 s.f1)
def RowPr (w : World) (base : Nat) (v : Value) (xs : List (S61)) : Prop := w.ownsRow base 61 2 v xs.length (enc2 (xs.map pPr))
theorem RowPr.at_ {w : World} {base g n cap : Nat} {xs : List (S61)} (h : RowPr w base (.slice (some ⟨g, 0, none⟩) n cap) xs) (i : Nat) (s : S61) (hx : xs[i]? = some s) :
    w.cell? ⟨g, i * 2, none⟩ = some (.string s.f0) ∧ w.cell? ⟨g, i * 2 + 1, none⟩ = some (.int .u64 s.f1) ∧ w.frozen? ⟨g, i * 2, none⟩ = false ∧ w.frozen? ⟨g, i * 2 + 1, none⟩ = false := by
  obtain rfl : n = xs.length := by
    obtain ⟨_, _, e⟩ := own_slice h
    injection e
  have hl := (List.getElem?_eq_some_iff.1 hx).1
  have hE := enc2_at (xs.map pPr) i
  rw [List.getElem?_map, hx] at hE
  exact ⟨(World.ownsRow.cellAt h (i * 2) (by omega)).trans hE.1, (World.ownsRow.cellAt h (i * 2 + 1) (by omega)).trans hE.2, World.ownsRow.frozenAt h _, World.ownsRow.frozenAt h _⟩
theorem RowPr.store {w : World} {base g n cap : Nat} {xs : List (S61)} (h : RowPr w base (.slice (some ⟨g, 0, none⟩) n cap) xs) (i : Nat) (s : S61) :
    RowPr ((w.setCell ⟨g, i * 2, none⟩ (.string s.f0)).setCell ⟨g, i * 2 + 1, none⟩ (.int .u64 s.f1)) base (.slice (some ⟨g, 0, none⟩) n cap) (xs.set i s) := by
  obtain rfl : n = xs.length := by
    obtain ⟨_, _, e⟩ := own_slice h
    injection e
  have h1 := (World.ownsRow.stored h (i * 2) (.string s.f0)).1
  have h2 := (World.ownsRow.stored h1 (i * 2 + 1) (.int .u64 s.f1)).1
  rw [enc2_set] at h2
  unfold RowPr
  rw [List.length_set, List.map_set]
  exact h2
theorem reps_Pr {w : World} {b : Nat} {ok : Nat → Prop} : ∀ {xs : List S61} {cs : List Value}, Reps (k61.M w b ok) 2 xs cs → cs = enc2 (xs.map pPr)
  | [], cs, h => List.eq_nil_of_length_eq_zero (by simpa using h.1)
  | x :: xs, cs, h => by
    have h0 := k61_openM (h.2 0 x rfl)
    have hr : Reps (k61.M w b ok) 2 xs (cs.drop 2) := ⟨by rw [List.length_drop, h.1, List.length_cons]; omega, fun j p hj => by
      have := h.2 (j + 1) p hj
      rwa [List.drop_drop, show 2 + j * 2 = (j + 1) * 2 by omega]⟩
    have ih := reps_Pr hr
    rw [List.map_cons, enc2_cons, ← ih]
    rw [show 0 * 2 = 0 from rfl, List.drop_zero] at h0
    conv => lhs; rw [← List.take_append_drop 2 cs, h0]
    rfl
theorem Pr_reps (w : World) (b : Nat) (ok : Nat → Prop) : ∀ xs : List S61, Reps (k61.M w b ok) 2 xs (enc2 (xs.map pPr))
  | [] => ⟨rfl, fun j p h => by simp at h⟩
  | x :: xs => by
    have ih := Pr_reps w b ok xs
    refine ⟨by rw [enc2_len, List.length_map], fun j p hj => ?_⟩
    rcases j with _ | j
    · obtain rfl : x = p := by simpa using hj
      exact k61_mkM w b ok x
    · have := ih.2 j p (by simpa using hj)
      rw [List.map_cons, enc2_cons, show (j + 1) * 2 = j * 2 + 1 + 1 by omega, List.drop_succ_cons, List.drop_succ_cons]
      exact this
theorem RowPr.of_R {w : World} {b : Nat} {ok : Nat → Prop} {v : Value} {xs : List S61} (h : Kd.R k61 61 w b ok v xs) : RowPr w b v xs := by
  obtain ⟨_, inner, ho, hr⟩ := h
  have : inner = enc2 (xs.map pPr) := reps_Pr hr
  subst this
  exact ho
theorem RowPr.R {w : World} {b : Nat} {v : Value} {xs : List S61} (h : RowPr w b v xs) : Kd.R k61 61 w b (fun _ => True) v xs :=
  ⟨fun _ _ => trivial, _, h, Pr_reps w b _ xs⟩
theorem RowPr.lower {w : World} {b b' : Nat} {v : Value} {xs : List S61} (h : RowPr w b v xs) (hb : b' ≤ b) : RowPr w b' v xs :=
  ⟨h.1, h.2.imp id fun ⟨g, cap, cur, h1, h2, h3⟩ => ⟨g, cap, cur, h1, Nat.le_trans hb h2, h3⟩⟩
theorem own_lit0Pr (W : World) {b : Nat} (hb : b ≤ W.heap.size) : (W.alloc (.cells #[] 61)).ownsRow b 61 2 (.slice (some ⟨W.heap.size, 0, none⟩) 0 0) 0 [] :=
  ⟨rfl, .inr ⟨W.heap.size, 0, #[], rfl, hb, heap_alloc_new W _, Nat.le_refl _, Nat.zero_le _, rfl, rfl⟩⟩
set_option maxHeartbeats 1000000 in
theorem clonePr_any (A : Option Addr) (c : Nat) (xs : List S61) (w : World) (hr : Kd.C k61 w A xs.length xs) (hb : xs.length * 24 ≤ 140737488355328) :
    Calls Tryz.prog 75 #[.slice A xs.length c] w fun e w' => ∃ v, e = .returned v ∧ RowPr w' w.heap.size v xs ∧ Below w.heap.size w w' := by
  have q22 : ∀ (w : World) (a : Option Addr) (n c n' c' : Nat), (binOp .eql 39 (.slice a n c) (.slice none n' c')).run Tryz.prog w = .ok (.bool a.isNone) w := fun w a n c n' c' => Lib.run_eql_slice_nil w _ _ a n c n' c' Tryz.underlying39
  rcases A with _ | ad
  · have h0 : xs = [] := by
      rcases xs with _ | ⟨x, xs⟩
      · rfl
      · obtain ⟨_, h, _⟩ := hr.2.2 (by simp)
        cases h
    subst h0
    go_enter Tryz.func75, Tryz.ntmps75
    go_wp2
    go_ret
    exact ⟨_, rfl, own_nil _ _ _ _, Below.refl _ _⟩
  · have HR := Lib.hid hr; have HB := Lib.hid hb
    clear hr hb
    go_enter Tryz.func75, Tryz.ntmps75
    go_wp2_with (first | ((with_reducible refine gate_builtin (b := .append) (xs := #[.tmp 5, .tmp 6]) rfl ?_); at_builtin; refine stop_append rfl ?_))
    refine Lib.hid ?_
    refine Kd.R_append_rows k61 (w0 := w) (Rr := k61.K w) w.heap.size (by rfl) (.tmp 5) (.tmp 6) 39 61 (.agg #[.string ⟨#[]⟩, .int .u64 0]) 24 (by rfl) Tryz.underlying39 info61 rfl (by decide) (by decide) (.slice (some ⟨w.heap.size, 0, none⟩) 0 0) [] xs (some ad) xs.length c (fun _ => True) (fun _ => False) (by rfl) (by rfl) ⟨fun _ _ => trivial, [], own_lit0Pr w (Nat.le_refl _), Reps.none _ _⟩ (HR.out.imp_ ((Below.refl _ _).alloc (Nat.le_refl _) _) (fun _ _ h => h)) ?_ (fun _ h => h.elim) (fun _ _ => trivial) ((Below.refl _ _).alloc (Nat.le_refl _) _) (by simp) (by simpa using HB.out) ?_
    · intro x cs hK
      obtain rfl := k61_open hK
      exact k61_mkM _ _ _ x
    intro v1 w1 ho hbl _ _
    simp only [List.nil_append] at ho
    have HO := Lib.hid (And.intro (RowPr.of_R ho) hbl)
    obtain ⟨A1, c1, rfl⟩ := own_slice HO.out.1
    clear ho hbl
    go_wp2
    go_ret
    exact ⟨_, rfl, HO.out.1, HO.out.2⟩
abbrev pSp (s : S71) : Value × Value := (.string s.f0, .string s.f1)
def RowSp (w : World) (base : Nat) (v : Value) (xs : List (S71)) : Prop := w.ownsRow base 71 2 v xs.length (enc2 (xs.map pSp))
theorem RowSp.at_ {w : World} {base g n cap : Nat} {xs : List (S71)} (h : RowSp w base (.slice (some ⟨g, 0, none⟩) n cap) xs) (i : Nat) (s : S71) (hx : xs[i]? = some s) :
    w.cell? ⟨g, i * 2, none⟩ = some (.string s.f0) ∧ w.cell? ⟨g, i * 2 + 1, none⟩ = some (.string s.f1) ∧ w.frozen? ⟨g, i * 2, none⟩ = false ∧ w.frozen? ⟨g, i * 2 + 1, none⟩ = false := by
  obtain rfl : n = xs.length := by
    obtain ⟨_, _, e⟩ := own_slice h
    injection e
  have hl := (List.getElem?_eq_some_iff.1 hx).1
  have hE := enc2_at (xs.map pSp) i
  rw [List.getElem?_map, hx] at hE
  exact ⟨(World.ownsRow.cellAt h (i * 2) (by omega)).trans hE.1, (World.ownsRow.cellAt h (i * 2 + 1) (by omega)).trans hE.2, World.ownsRow.frozenAt h _, World.ownsRow.frozenAt h _⟩
theorem RowSp.store {w : World} {base g n cap : Nat} {xs : List (S71)} (h : RowSp w base (.slice (some ⟨g, 0, none⟩) n cap) xs) (i : Nat) (s : S71) :
    RowSp ((w.setCell ⟨g, i * 2, none⟩ (.string s.f0)).setCell ⟨g, i * 2 + 1, none⟩ (.string s.f1)) base (.slice (some ⟨g, 0, none⟩) n cap) (xs.set i s) := by
  obtain rfl : n = xs.length := by
    obtain ⟨_, _, e⟩ := own_slice h
    injection e
  have h1 := (World.ownsRow.stored h (i * 2) (.string s.f0)).1
  have h2 := (World.ownsRow.stored h1 (i * 2 + 1) (.string s.f1)).1
  rw [enc2_set] at h2
  unfold RowSp
  rw [List.length_set, List.map_set]
  exact h2
theorem reps_Sp {w : World} {b : Nat} {ok : Nat → Prop} : ∀ {xs : List S71} {cs : List Value}, Reps (k71.M w b ok) 2 xs cs → cs = enc2 (xs.map pSp)
  | [], cs, h => List.eq_nil_of_length_eq_zero (by simpa using h.1)
  | x :: xs, cs, h => by
    have h0 := k71_openM (h.2 0 x rfl)
    have hr : Reps (k71.M w b ok) 2 xs (cs.drop 2) := ⟨by rw [List.length_drop, h.1, List.length_cons]; omega, fun j p hj => by
      have := h.2 (j + 1) p hj
      rwa [List.drop_drop, show 2 + j * 2 = (j + 1) * 2 by omega]⟩
    have ih := reps_Sp hr
    rw [List.map_cons, enc2_cons, ← ih]
    rw [show 0 * 2 = 0 from rfl, List.drop_zero] at h0
    conv => lhs; rw [← List.take_append_drop 2 cs, h0]
    rfl
theorem Sp_reps (w : World) (b : Nat) (ok : Nat → Prop) : ∀ xs : List S71, Reps (k71.M w b ok) 2 xs (enc2 (xs.map pSp))
  | [] => ⟨rfl, fun j p h => by simp at h⟩
  | x :: xs => by
    have ih := Sp_reps w b ok xs
    refine ⟨by rw [enc2_len, List.length_map], fun j p hj => ?_⟩
    rcases j with _ | j
    · obtain rfl : x = p := by simpa using hj
      exact k71_mkM w b ok x
    · have := ih.2 j p (by simpa using hj)
      rw [List.map_cons, enc2_cons, show (j + 1) * 2 = j * 2 + 1 + 1 by omega, List.drop_succ_cons, List.drop_succ_cons]
      exact this
theorem RowSp.of_R {w : World} {b : Nat} {ok : Nat → Prop} {v : Value} {xs : List S71} (h : Kd.R k71 71 w b ok v xs) : RowSp w b v xs := by
  obtain ⟨_, inner, ho, hr⟩ := h
  have : inner = enc2 (xs.map pSp) := reps_Sp hr
  subst this
  exact ho
theorem RowSp.R {w : World} {b : Nat} {v : Value} {xs : List S71} (h : RowSp w b v xs) : Kd.R k71 71 w b (fun _ => True) v xs :=
  ⟨fun _ _ => trivial, _, h, Sp_reps w b _ xs⟩
theorem RowSp.lower {w : World} {b b' : Nat} {v : Value} {xs : List S71} (h : RowSp w b v xs) (hb : b' ≤ b) : RowSp w b' v xs :=
  ⟨h.1, h.2.imp id fun ⟨g, cap, cur, h1, h2, h3⟩ => ⟨g, cap, cur, h1, Nat.le_trans hb h2, h3⟩⟩
end Go.Proofs.YtgmlenpcchhmbaaGreat.P
end
section
set_option linter.unusedVariables false
set_option linter.unusedSimpArgs false
namespace Go.Proofs.YtgmlenpcchhmbaaGreat.P
open Go.RowKit Go.Proofs.YtgmlenpcchhmbaaGreatW.PrintWords Go.Proofs.YtgmlenpcchhmbaaGreatW.PrintLast Go.Proofs.YtgmlenpcchhmbaaGreatW.PrintMore
theorem Upd.then_newO {a b c : World} {S : Nat → Prop} (h : Upd a b S) (k : Upd b c (fun q => S q ∨ a.heap.size ≤ q)) : Upd a c S :=
  ⟨k.os.trans h.os, k.tape.trans h.tape, k.output.trans h.output, Nat.le_trans h.size k.size, fun q hq hs => (k.block q (Nat.lt_of_lt_of_le hq h.size) (fun e => by rcases e with e | e; exact hs e; omega)).trans (h.block q hq hs)⟩
def rLoopO : Nat → Int → Sight → List S63 × Sight
  | 0, _, s => ([], s)
  | k + 1, n, s => if 0 < n ∧ s.2 = false then ((sOp s).1 :: (rLoopO k (n - 1) (sOp s).2).1, (rLoopO k (n - 1) (sOp s).2).2) else ([], s)
section
variable {g ab : Nat} {B : List Int}
set_option maxHeartbeats 4000000 in
set_option maxRecDepth 100000 in
theorem rRead_any {w : World} (s : Sight) (h : RE w g ab B s) (hx : bytesOk s.1) (hBl : B.length ≤ 1000000000) (hsl : s.1.length ≤ 1000000000) : Calls Tryz.prog 54 #[ptr g] w fun e w' => ∃ v, e = .returned v ∧ Kd.R k63 63 w' w.heap.size (fun _ => True) v (rLoopO 9 (sInt s).1 (sInt s).2).1 ∧ RE w' g ab B (rLoopO 9 (sInt s).1 (sInt s).2).2 ∧ Upd w w' (· = g) := by
  have hI := rfInt_any h hx
  have hn0 := sInt_bnd hx
  have hx1 := sInt_bytes hx
  have hl1 := Nat.le_trans (sInt_le s) hsl
  have HG := Lib.hid (And.intro h.lt (And.intro h.oldb hBl))
  generalize sInt s = s0 at *
  obtain ⟨n0, s0⟩ := s0
  simp only at hn0 hx1 hl1 hI ⊢
  obtain ⟨PA, hPA⟩ : ∃ PA, rLoopO 9 n0 s0 = PA := ⟨_, rfl⟩
  rw [hPA]
  have HI := Lib.hid (And.intro hI (And.intro hx1 (And.intro hl1 hPA)))
  clear hI h hx hx1 hl1 hPA hBl hsl
  go_enter Tryz.func54, Tryz.ntmps54
  go_wp2_with fail
  refine HI.out.1.mono ?_
  rintro e w2 ⟨rfl, hE, hu⟩
  have HE := Lib.hid (And.intro hE hu)
  clear hE hu
  go_wp2
  go_loopw [4, 5, 6] (fun so si _ wr => ∃ (ds : List S63) (A' : Option Addr) (c' : Nat) (s : Sight), so = .slice A' ds.length c' ∧ si = .int .i64 (ds.length : Int) ∧ ds.length ≤ 9 ∧ RowKit.Hid (Kd.R k63 63 wr w.heap.size (fun q => w.heap.size ≤ q) (.slice A' ds.length c') ds ∧ RE wr g ab B s ∧ Upd w wr (· = g) ∧ bytesOk s.1 ∧ s.1.length ≤ 1000000000 ∧ ds ++ (rLoopO (9 - ds.length) (n0 - ds.length) s).1 = PA.1 ∧ (rLoopO (9 - ds.length) (n0 - ds.length) s).2 = PA.2)) (fun so _ _ _ => 10 - (lenV so))
  case atStart => exact ⟨[], none, 0, s0, rfl, rfl, by simp, Lib.hid ⟨Kd.R_nil _ _ _ _ _, HE.out.1, HE.out.2, HI.out.2.1, HI.out.2.2.1, by rw [← HI.out.2.2.2]; simp, by rw [← HI.out.2.2.2]; simp⟩⟩
  case round =>
    obtain ⟨ds, A', c', s, rfl, rfl, hk, HS⟩ := hrel
    have hbl := HS.out.2.1.blind
    by_cases hn : (ds.length : Int) < n0 ∧ s.2 = false ∧ ds.length ≤ 8
    · obtain ⟨hn, hs2, h8⟩ := hn
      obtain ⟨k, hk9⟩ : ∃ k, 9 - ds.length = k + 1 := ⟨8 - ds.length, by omega⟩
      obtain ⟨hS, hE, hB, hby, hle, hp1, hp2⟩ := HS.out
      rw [hk9, rLoopO, if_pos ⟨by omega, hs2⟩] at hp1 hp2
      unfold sOp at hp1 hp2
      have hI := rfInt_any hE hby
      have y1 := sInt_bytes hby
      have e1 := Nat.le_trans (sInt_le s) hle
      generalize sInt s = xI at *
      obtain ⟨x0, s1⟩ := xI
      simp only at hp1 hp2 hI y1 e1
      have hT1 := fun (W : World) (h : RE W g ab B s1) => rfText_any h y1 HG.out.2.2
      have y2 := sText_bytes y1
      have e2 := Nat.le_trans (sText_le s1) e1
      generalize sText s1 = xT at *
      obtain ⟨x1, s2'⟩ := xT
      simp only at hp1 hp2 hT1 y2 e2
      have hT2 := fun (W : World) (h : RE W g ab B s2') => rfText_any h y2 HG.out.2.2
      have y3 := sText_bytes y2
      have e3 := Nat.le_trans (sText_le s2') e2
      generalize sText s2' = xU at *
      obtain ⟨x2, s3⟩ := xU
      simp only at hp1 hp2 hT2 y3 e3
      have hI2 := fun (W : World) (h : RE W g ab B s3) => rfInt_any h y3
      have y4 := sInt_bytes y3
      have e4 := Nat.le_trans (sInt_le s3) e3
      generalize sInt s3 = xJ at *
      obtain ⟨x3, s4⟩ := xJ
      simp only at hp1 hp2 hI2 y4 e4
      have HY := Lib.hid (And.intro hS (And.intro hB (And.intro y4 (And.intro e4 (And.intro hp1 (And.intro hp2 hk9))))))
      have HC := Lib.hid (And.intro hI (And.intro hT1 (And.intro hT2 hI2)))
      have dn : decide ((ds.length : Int) < n0) = true := decide_eq_true hn
      have d8 : decide ((ds.length : Int) ≤ 8) = true := decide_eq_true (by omega)
      have d9 : decide (ds.length ≤ 8) = true := decide_eq_true h8
      rw [hs2] at hbl
      clear hS hE hB hby hle hp1 hp2 hI hT1 hT2 hI2 y1 y2 y3 y4 e1 e2 e3 e4 hk9 HS hs2
      go_wp2_with fail
      refine HC.out.1.mono ?_
      rintro e w3 ⟨rfl, hE3, hu3⟩
      have H3 := Lib.hid (And.intro (HC.out.2.1 w3 hE3) hu3)
      clear hE3 hu3
      go_wp2_with fail
      refine H3.out.1.mono ?_
      rintro e w4 ⟨rfl, hE4, hu4⟩
      have H4 := Lib.hid (And.intro (HC.out.2.2.1 w4 hE4) (H3.out.2.trans hu4))
      clear hE4 hu4 H3
      go_wp2_with fail
      refine H4.out.1.mono ?_
      rintro e w5 ⟨rfl, hE5, hu5⟩
      have H5 := Lib.hid (And.intro hE5 (H4.out.2.trans hu5))
      clear hE5 hu5 H4
      obtain ⟨wb, hwb⟩ : ∃ wb, w5.alloc (.cells #[.int .i64 x0, .string x1, .string x2, .int .u64 0] 63) = wb := ⟨_, rfl⟩
      have hBb : Below w5.heap.size w5 wb := hwb ▸ (Below.refl _ _).alloc (Nat.le_refl _) _
      have hT : Blk wb w5.heap.size 63 #[.int .i64 x0, .string x1, .string x2, .int .u64 0] := hwb ▸ Blk.new w5 63 _
      have H6 := Lib.hid (And.intro hwb (And.intro hT (And.intro hBb (HC.out.2.2.2 wb (H5.out.1.below hBb)))))
      clear hwb hT hBb
      go_wp2_with fail
      rw [H6.out.1]
      refine H6.out.2.2.2.mono ?_
      rintro e w7 ⟨rfl, hE7, hu7⟩
      have hg := HG.out.1
      have hab := HG.out.2.1
      have hsr := HY.out.2.1.size
      have hs5 := H5.out.2.size
      have hT7 := H6.out.2.1.upd hu7 (fun e => by omega)
      have huw : Upd wr w7 (· = g) := (H5.out.2.then_below H6.out.2.2.1).trans hu7
      have o0 : w7.cell? ⟨w5.heap.size, 0, none⟩ = some (.int .i64 x0) := hT7.cell 0
      have o1 : w7.cell? ⟨w5.heap.size, 1, none⟩ = some (.string x1) := hT7.cell 1
      have o2 : w7.cell? ⟨w5.heap.size, 2, none⟩ = some (.string x2) := hT7.cell 2
      have o3 : w7.cell? ⟨w5.heap.size, 3, none⟩ = some (.int .u64 0) := hT7.cell 3
      have oz := hT7.frozen 3
      obtain ⟨w8, hw8⟩ : ∃ w8, w7.setCell ⟨w5.heap.size, 3, none⟩ (.int .u64 (IntKind.u64.wrap x3)) = w8 := ⟨_, rfl⟩
      have hu8 : Upd wr w8 (· = g) := hw8 ▸ huw.setCell (p := ⟨w5.heap.size, 3, none⟩) (.inr hs5) _
      have hR8 : Kd.R k63 63 w8 w.heap.size (fun q => w.heap.size ≤ q) (.slice A' ds.length c') ds := Kd.R_step HY.out.1 (fun q hq hql => hu8.block q hql (by omega))
      have h78 : Upd w7 w8 (· = w5.heap.size) := hw8 ▸ (Upd.refl w7 (· = w5.heap.size)).setCell (p := ⟨w5.heap.size, 3, none⟩) (.inl rfl) _
      have hE8 : RE w8 g ab B s4 := hE7.upd h78 (by omega) (by omega)
      have hsz : w8.heap.size = w7.heap.size := by rw [← hw8]; simp [World.setCell]
      have H8 := Lib.hid (And.intro hw8 (And.intro (HY.out.2.1.trans hu8) (And.intro hR8 (And.intro hE8 hsz))))
      clear hE7 hu7 hT7 huw hw8 hu8 hR8 h78 hE8 hg hab hsr hs5 hsz
      go_wp2_with (first | ((with_reducible refine gate_builtin (b := .append) (xs := #[.tmp 36, .tmp 38]) rfl ?_); at_builtin; refine stop_append rfl ?_))
      refine Lib.hid ?_
      rw [H8.out.1]
      refine Kd.R_append k63 (w0 := w8) w.heap.size rfl (.tmp 36) (.tmp 38) 22 63 (.agg #[.int .i64 0, .string ⟨#[]⟩, .string ⟨#[]⟩, .int .u64 0]) 48 rfl Tryz.underlying22 info63 rfl (by decide) (by decide) (.slice A' ds.length c') ds ⟨x0, x1, x2, u64c x3⟩ [.int .i64 x0, .string x1, .string x2, .int .u64 (u64c x3)] (fun q => w.heap.size ≤ q) (fun _ => False) rfl (by rw [H8.out.2.2.2.2]; rfl) (k63_mkM _ _ _ _) (fun _ h => h.elim) (fun q hq => Nat.le_trans H8.out.2.1.size hq) H8.out.2.2.1 (Below.refl _ _) H8.out.2.1.size (by omega) ?_
      intro v9 w9 hS9 hB9 hg9 hat9
      have hln : (ds ++ [(⟨x0, x1, x2, u64c x3⟩ : S63)]).length = ds.length + 1 := by simp
      obtain ⟨A9, c9, e9⟩ := Kd.R_slice hS9
      have hu9 : Upd w8 w9 (fun q => w.heap.size ≤ q) := Upd.of_grown hg9 (fun q hq => H8.out.2.2.1.1 q hq)
      have hE9 : RE w9 g ab B s4 := H8.out.2.2.2.1.upd hu9 (by have := HG.out.1; omega) (by have := HG.out.2.1; omega)
      have HN9 := Lib.hid (And.intro hS9 (And.intro (H8.out.2.1.then_newO (hu9.mono fun q _ hq => .inr hq)) hE9))
      rw [e9, hln] at HN9
      rw [e9, hln]
      clear hS9 hB9 hg9 hat9 e9 hE9 hu9 o0 o1 o2 o3 oz
      go_wp2_with fail
      go_roundw
      case rel =>
        refine ⟨ds ++ [⟨x0, x1, x2, u64c x3⟩], A9, c9, s4, by rw [hln], by rw [hln]; go_num, by omega, Lib.hid ⟨by rw [hln]; exact HN9.out.1, HN9.out.2.2, HN9.out.2.1, HY.out.2.2.1, HY.out.2.2.2.1, ?_, ?_⟩⟩
        · rw [hln, show 9 - (ds.length + 1) = k by have := HY.out.2.2.2.2.2.2; omega, List.append_assoc, show n0 - ((ds.length + 1 : Nat) : Int) = n0 - ds.length - 1 by omega]; exact HY.out.2.2.2.2.1
        · rw [hln, show 9 - (ds.length + 1) = k by have := HY.out.2.2.2.2.2.2; omega, show n0 - ((ds.length + 1 : Nat) : Int) = n0 - ds.length - 1 by omega]; exact HY.out.2.2.2.2.2.1
      case measure => simp [lenV]; omega
    · obtain ⟨hS, hE, hB, hby, hle, hp1, hp2⟩ := HS.out
      have hz : rLoopO (9 - ds.length) (n0 - ds.length) s = ([], s) := by
        rcases Nat.lt_or_ge ds.length 9 with h | h
        · obtain ⟨k, hk9⟩ : ∃ k, 9 - ds.length = k + 1 := ⟨8 - ds.length, by omega⟩
          rw [hk9, rLoopO, if_neg (fun hh => hn ⟨by omega, hh.2, by omega⟩)]
        · rw [show 9 - ds.length = 0 by omega]; rfl
      rw [hz] at hp1 hp2
      simp only [List.append_nil] at hp1 hp2
      obtain ⟨D, F⟩ := PA
      simp only at hp1 hp2
      subst hp1 hp2
      have HF := Lib.hid (And.intro (Kd.R_mono hS (fun _ _ => trivial) : Kd.R k63 63 wr w.heap.size (fun _ => True) (.slice A' ds.length c') ds) (And.intro hE hB))
      obtain ⟨qs, hqs⟩ : ∃ q, s.2 = q := ⟨_, rfl⟩
      rw [hqs] at hbl hn
      clear hS hE hB hby hle hz HS hqs
      by_cases h1 : (ds.length : Int) < n0
      · have dn : decide ((ds.length : Int) < n0) = true := decide_eq_true h1
        cases qs with
        | true =>
          go_wp2
          go_ret
          exact ⟨_, rfl, HF.out⟩
        | false =>
          have h9 : ¬ ds.length ≤ 8 := fun h => hn ⟨h1, rfl, h⟩
          have d8 : decide ((ds.length : Int) ≤ 8) = false := decide_eq_false (by omega)
          have d9 : decide (ds.length ≤ 8) = false := decide_eq_false h9
          go_wp2
          go_ret
          exact ⟨_, rfl, HF.out⟩
      · have dn : decide ((ds.length : Int) < n0) = false := decide_eq_false h1
        go_wp2
        go_ret
        exact ⟨_, rfl, HF.out⟩
end
end Go.Proofs.YtgmlenpcchhmbaaGreat.P
end
section
set_option linter.unusedVariables false
set_option linter.unusedSimpArgs false
namespace Go.Proofs.YtgmlenpcchhmbaaGreat.P
open Go.RowKit Go.Proofs.YtgmlenpcchhmbaaGreatW.PrintWords Go.Proofs.YtgmlenpcchhmbaaGreatW.PrintLast Go.Proofs.YtgmlenpcchhmbaaGreatW.PrintMore
abbrev RowU (w : World) (base : Nat) (v : Value) (xs : List Int) : Prop := Kd.R (Kd.int .u8) 5 w base (fun k => base ≤ k) v xs
theorem rLow_ok (v : Value) (xs : List Int) (n many : Nat) (w0 w : World) (hB : Below w0.heap.size w0 w) (ho : RowU w w0.heap.size v xs) (hn : n < 18446744073709551616) (h8 : many ≤ 8) (hx : xs.length ≤ 1000000000000) :
    Calls Tryz.prog 107 #[v, .int .u64 (n : Int), .int .i64 (many : Int)] w fun e w' => ∃ v', e = .returned v' ∧ RowU w' w0.heap.size v' (xs ++ leBytes many n) ∧ Below w0.heap.size w0 w' ∧ Kept w w' (fun k => some k = v.ownBlock) ∧ (∀ k, v'.ownBlock = some k → some k = v.ownBlock ∨ w.heap.size ≤ k) := by
  have he : Ev (fun k => folkmootref02_low.f k xs (n : Int) (many : Int)) (xs ++ leBytes many n) := by
    unfold folkmootref02_low.f
    have := ev_low n hn many h8 xs hx many 0 (by omega)
    rw [show leBytes 0 n = [] from rfl, List.append_nil] at this
    exact this
  obtain ⟨k, hk⟩ := he.get
  exact (folkmootref02_low.calls k _ v xs n many _ w0 w hB (Kd.R_tight rfl ho) hk).mono fun e w' ⟨v', he, h, hb, hkp⟩ => ⟨v', he, Kd.R_mono h (fun k hk => hk.elim (fun h1 => ho.1 k h1.symm) fun h2 => Nat.le_trans hB.size h2), hb, hkp, fun k hk => h.1 k hk⟩
theorem rInt_any (v : Value) (xs : List Int) (x : Int) (w0 w : World) (hB : Below w0.heap.size w0 w) (ho : RowU w w0.heap.size v xs) (hx : xs.length ≤ 1000000000000) :
    Calls Tryz.prog 63 #[v, .int .i64 x] w fun e w' => ∃ v', e = .returned v' ∧ RowU w' w0.heap.size v' (xs ++ laidI x) ∧ Below w0.heap.size w0 w' ∧ Kept w w' (fun k => some k = v.ownBlock) := by
  obtain ⟨k, hk⟩ := (ev_rInt x xs hx).get
  exact (folkmootref02_Int.calls k _ v xs x _ w0 w hB (Kd.R_tight rfl ho) hk).mono fun e w' ⟨v', he, h, hb, hkp⟩ => ⟨v', he, Kd.R_mono h (fun k hk => hk.elim (fun h1 => ho.1 k h1.symm) fun h2 => Nat.le_trans hB.size h2), hb, hkp⟩
set_option maxHeartbeats 2000000 in
set_option maxRecDepth 100000 in
theorem rText_any (v : Value) (xs : List Int) (s : ByteArray) (w0 w : World) (hB : Below w0.heap.size w0 w) (ho : RowU w w0.heap.size v xs) (hs : s.size ≤ 1048576) (hx : xs.length ≤ 100000000000) :
    Calls Tryz.prog 64 #[v, .string s] w fun e w' => ∃ v', e = .returned v' ∧ RowU w' w0.heap.size v' (xs ++ laidT s) ∧ Below w0.heap.size w0 w' ∧ Kept w w' (fun k => some k = v.ownBlock) := by
  obtain ⟨A, c, rfl⟩ := Kd.R_slice ho
  have HLOW := Lib.hid (rLow_ok _ xs s.size 4 w0 w hB ho (by omega) (by omega) (by omega))
  have hcut : cutT s = s := by unfold cutT; rw [Nat.min_eq_left hs]; exact ByteArray.extract_zero_size
  have HT := Lib.hid (show laidT s = leBytes 4 s.size ++ bytesOf s by unfold laidT; rw [hcut, Nat.min_eq_left hs])
  have HX := Lib.hid hx
  have hs6 := hs
  clear hB ho hx hcut hs
  go_enter Tryz.func64, Tryz.ntmps64
  go_wp2_with fail
  refine HLOW.out.mono ?_
  rintro e w1 ⟨v1, rfl, ho1, hb1, hkp1, hok1⟩
  obtain ⟨Z, hZ⟩ : ∃ Z, xs ++ leBytes 4 s.size = Z := ⟨_, rfl⟩
  rw [hZ] at ho1
  have hlZ : Z.length + s.size ≤ 140737488355328 := by rw [← hZ, List.length_append, leBytes_len]; have := HX.out; omega
  obtain ⟨A1, c1, rfl⟩ := Kd.R_slice ho1
  have HO := Lib.hid (And.intro ho1 (And.intro hb1 (And.intro hlZ (And.intro hZ (And.intro hkp1 hok1)))))
  clear ho1 hb1 hZ hlZ HLOW hkp1 hok1
  go_wp2_with (first | ((with_reducible refine gate_builtin (b := .append) (xs := #[.tmp 14, .tmp 15]) rfl ?_); at_builtin; refine stop_append rfl ?_))
  refine Lib.hid ?_
  refine print_append_str (w0 := w0) w0.heap.size rfl (.tmp 14) (.tmp 15) 23 9 5 rfl Tryz.underlying23 Tryz.underlying9 infoB (.slice A1 Z.length c1) Z s rfl rfl (Kd.own_of_R HO.out.1) HO.out.2.1 HO.out.2.1.size HO.out.2.2.1 ?_
  intro v2 w2 ho2 hb2 hg2
  have hR2 : RowU w2 w0.heap.size v2 (Z ++ bytesOf s) := Kd.R_of_own (h1 := fun _ => rfl) (ok := fun k => w0.heap.size ≤ k) ho2 (fun k hk => own_base ho2 k hk)
  have hkp2 : Kept w w2 (fun k => some k = (Value.slice A xs.length c).ownBlock) := HO.out.2.2.2.2.1.then_ (S2 := fun k => some k = (Value.slice A1 Z.length c1).ownBlock) ⟨hg2.size, fun k hk hn => hg2.block k hk hn⟩ (fun k hk => HO.out.2.2.2.2.2 k hk.symm)
  have HR2 := Lib.hid (And.intro hR2 (And.intro hb2 hkp2))
  clear hkp2
  obtain ⟨A2, c2, rfl⟩ := own_slice ho2
  clear ho2 hb2 hg2 hR2
  go_wp2
  go_ret
  exact ⟨.slice A2 (Z ++ bytesOf s).length c2, by rw [List.length_append]; rfl, by rw [HT.out, ← List.append_assoc, HO.out.2.2.2.1]; exact HR2.out.1, HR2.out.2⟩
end Go.Proofs.YtgmlenpcchhmbaaGreat.P
end
section
set_option linter.unusedVariables false
set_option linter.unusedSimpArgs false
namespace Go.Proofs.YtgmlenpcchhmbaaGreat.P
open Go.RowKit
def lastOk2 (l : List Oper) (o : Oper) : Bool :=
  (List.range l.length).all (fun i => match l[i]? with
    | some x => x.after.toList.all (fun e => !Region.binds .any e || decide (e.on < i)) && (match x.guard with | none => true | some (j, _) => decide (j < l.length))
    | none => true) &&
  (List.range l.length).all (fun j => o.after.toList.any (fun e => e.on == j && Region.binds .any e) || (List.range l.length).any (fun k => decide (j < k) && (match l[k]? with | some x => x.after.toList.any (fun e => e.on == j && Region.binds .any e) | none => false))) &&
  o.after.toList.all (fun e => !Region.binds .any e || decide (e.on < l.length))
structure LastOk2 (l : List Oper) (o : Oper) : Prop where
  low : ∀ (i : Nat) (x : Oper), l[i]? = some x → ∀ e ∈ x.after, Region.binds .any e = true → e.on < i
  guard : ∀ (i : Nat) (x : Oper), l[i]? = some x → ∀ (j : Nat) (b : Bool), x.guard = some (j, b) → j < l.length
  all : ∀ j, j < l.length → (∃ e ∈ o.after, e.on = j ∧ Region.binds .any e = true) ∨ ∃ k x, j < k ∧ l[k]? = some x ∧ ∃ e ∈ x.after, e.on = j ∧ Region.binds .any e = true
  lt : ∀ e ∈ o.after, Region.binds .any e = true → e.on < l.length
theorem LastOk2.of {l : List Oper} {o : Oper} (h : lastOk2 l o = true) : LastOk2 l o := by
  simp only [lastOk2, Bool.and_eq_true, List.all_eq_true, List.any_eq_true, List.mem_range, Array.mem_toList_iff, decide_eq_true_eq, beq_iff_eq, Bool.or_eq_true] at h
  obtain ⟨⟨h1, h2⟩, h3⟩ := h
  refine ⟨fun i x hx => ?_, fun i x hx j b hg => ?_, fun j hj => ?_, fun e he hb => by have := h3 e he; simpa [hb] using this⟩
  · have := h1 i (List.getElem?_eq_some_iff.1 hx).1
    rw [hx] at this
    simp only [Bool.and_eq_true, List.all_eq_true, Array.mem_toList_iff] at this
    exact fun e he hb => by have := this.1 e he; simpa [hb] using this
  · have := h1 i (List.getElem?_eq_some_iff.1 hx).1
    rw [hx] at this
    simp only [Bool.and_eq_true, hg, decide_eq_true_eq] at this
    exact this.2
  · rcases h2 j hj with ⟨e, he, h, k⟩ | ⟨k, hk, hjk, hx⟩
    · exact .inl ⟨e, he, h, k⟩
    · right
      rw [List.getElem?_eq_getElem hk] at hx
      simp only [List.any_eq_true, Array.mem_toList_iff, Bool.and_eq_true, beq_iff_eq] at hx
      exact ⟨k, l[k], hjk, List.getElem?_eq_getElem hk, hx⟩
section
variable {P : Program} {l : List Oper} {o : Oper} {Q : Exit → Act → World → Prop}
theorem lastPost_out2 (h : LetsOut (LastPost P (l ++ [o]).toArray o Q)) : LetsOut Q := h
theorem oper_post2 {x : Oper} {a : Act} {w : World} {K : Act → World → Prop} {Q' : Exit → Act → World → Prop} (hp : ∀ c a w, Q' (.panic c) a w → Q (.panic c) a w) (ho : LetsOut Q' → LetsOut Q)
    (hh : x.wp P a w K Q') : x.wp P a w K Q := by
  unfold Oper.wp at *
  generalize (execOp a.eval x).run P w = r at *
  cases r with
  | ok n w' =>
    cases n <;> simp only [Oper.upon] at hh ⊢ <;>
      first
        | exact hh
        | exact Calls.mono hh (fun e w'' he => by cases e <;> first | exact he | exact hp _ _ _ he | exact ho he)
  | halt y w' => cases y <;> simp only [Oper.upon] at hh ⊢ <;> first | exact hh | exact hp _ _ _ hh
theorem all_listed2 (hok : LastOk2 l o) {listed : Array Bool} (hs : listed.size = l.length) (h : Region.ready .any l.toArray listed = []) : ∀ i, i < l.length → listed.getD i false = true := by
  intro i
  induction i using Nat.strongRecOn with
  | _ i ih =>
    intro hi
    by_cases hl : listed.getD i false = true
    · exact hl
    · have hx := List.getElem?_eq_getElem hi
      have : i ∈ Region.ready .any l.toArray listed := by
        rw [mem_ready]
        refine ⟨?_, l[i], (by simp [hi]), fun e he hb => ih e.on (hok.low i _ hx e he hb) (by have := hok.low i _ hx e he hb; omega)⟩
        simp only [Array.getD_eq_getD_getElem?, Array.getElem?_eq_getElem (show i < listed.size by omega), Option.getD_some] at hl ⊢
        simpa using hl
      rw [h] at this; cases this
theorem push_getD2 {listed : Array Bool} {i : Nat} (hi : i < listed.size) (b d : Bool) : (listed.push b).getD i d = listed.getD i d := by
  simp [Array.getD_eq_getD_getElem?, Array.getElem?_push, Nat.ne_of_lt hi]
theorem ready_old2 (hok : LastOk2 l o) {listed : Array Bool} (hs : listed.size = l.length) {i : Nat} (hi : i < l.length) (h : i ∈ Region.ready .any (l ++ [o]).toArray (listed.push false)) : i ∈ Region.ready .any l.toArray listed := by
  rw [mem_ready] at h ⊢
  obtain ⟨h1, x, hx, h2⟩ := h
  rw [push_getD2 (by omega)] at h1
  have hx' : l[i]? = some x := by simpa [List.getElem?_append_left hi] using hx
  refine ⟨h1, x, by simpa using hx', fun e he hb => ?_⟩
  have := h2 e he hb
  rwa [push_getD2 (by have := hok.low i x hx' e he hb; omega)] at this
theorem old_ready2 (hok : LastOk2 l o) {listed : Array Bool} (hs : listed.size = l.length) {i : Nat} (h : i ∈ Region.ready .any l.toArray listed) : i ∈ Region.ready .any (l ++ [o]).toArray (listed.push false) := by
  rw [mem_ready] at h ⊢
  obtain ⟨h1, x, hx, h2⟩ := h
  have hi : i < l.length := by have := (Array.getElem?_eq_some_iff.1 hx).1; simpa using this
  have hx' : l[i]? = some x := by simpa using hx
  refine ⟨by rw [push_getD2 (by omega)]; exact h1, x, by simpa [List.getElem?_append_left hi] using hx', fun e he hb => ?_⟩
  rw [push_getD2 (by have := hok.low i x hx' e he hb; omega)]
  exact h2 e he hb
def Closed2 (l : List Oper) (listed : Array Bool) : Prop := ∀ i x, l[i]? = some x → listed.getD i false = true → ∀ e ∈ x.after, Region.binds .any e = true → listed.getD e.on false = true
theorem closed_set2 {listed : Array Bool} (hc : Closed2 l listed) {i : Nat} (hi : i ∈ Region.ready .any l.toArray listed) : Closed2 l (listed.setIfInBounds i true) := by
  intro j x hx hj e he hb
  obtain ⟨_, y, hy, h2⟩ := mem_ready.1 hi
  have hy' : l[i]? = some y := by simpa using hy
  by_cases hij : i = j
  · subst hij
    rw [hx] at hy'
    injection hy' with hy'
    subst hy'
    exact getD_set_true (h2 e he hb)
  · rw [getD_set_ne false hij] at hj
    exact getD_set_true (hc j x hx hj e he hb)
theorem ready_last2 (hok : LastOk2 l o) {listed : Array Bool} (hs : listed.size = l.length) (hc : Closed2 l listed) : l.length ∈ Region.ready .any (l ++ [o]).toArray (listed.push false) ↔ ∀ i, i < l.length → listed.getD i false = true := by
  rw [mem_ready]
  constructor
  · rintro ⟨_, x, hx, h⟩
    have : x = o := by simp at hx; exact hx.symm
    subst this
    have key : ∀ d i, i < l.length → l.length - i ≤ d → listed.getD i false = true := by
      intro d
      induction d with
      | zero => intro i hi hd; omega
      | succ d ih =>
        intro i hi hd
        rcases hok.all i hi with ⟨e, he, rfl, hb⟩ | ⟨k, y, hk, hy, e, he, rfl, hb⟩
        · have := h e he hb
          rwa [push_getD2 (by omega)] at this
        · have hkl := (List.getElem?_eq_some_iff.1 hy).1
          exact hc k y hy (ih k hkl (by omega)) e he hb
    exact fun i hi => key _ i hi (Nat.le_refl _)
  · intro h
    refine ⟨by simp [Array.getD_eq_getD_getElem?, ← hs], o, by simp, fun e he hb => ?_⟩
    rw [push_getD2 (by have := hok.lt e he hb; omega)]
    exact h _ (hok.lt e he hb)
theorem ready_end2 {listed : Array Bool} (hs : listed.size = l.length) (h : ∀ i, i < l.length → listed.getD i false = true) : Region.ready .any (l ++ [o]).toArray ((listed.push false).setIfInBounds l.length true) = [] := by
  apply List.eq_nil_iff_forall_not_mem.2
  intro i hi
  rw [mem_ready] at hi
  obtain ⟨h1, x, hx, _⟩ := hi
  have hlt : i < l.length + 1 := by have := (Array.getElem?_eq_some_iff.1 hx).1; simpa using this
  have e : (listed.push false).setIfInBounds l.length true = listed.push true := by
    apply Array.ext_getElem?
    intro j
    simp only [Array.getElem?_setIfInBounds, Array.getElem?_push, Array.size_push]
    by_cases hj : l.length = j
    · subst hj; simp [hs]
    · simp [hj, show ¬ j = listed.size by omega]
  rw [e] at h1
  rcases Nat.lt_or_ge i l.length with hl | hl
  · rw [push_getD2 (by omega)] at h1
    have := h i hl
    simp only [Array.getD_eq_getD_getElem?, Array.getElem?_eq_getElem (show i < listed.size by omega), Option.getD_some] at h1 this
    rw [this] at h1; cases h1
  · have : i = listed.size := by omega
    subst this
    simp [Array.getD_eq_getD_getElem?] at h1
theorem wpOp_last2 {K : Act → World → Prop} {a : Act} {w : World} (h : wpList P (l ++ [o]).toArray Q [o] a w) (hK : ∀ a w, Q .normal a w → K a w) : wpOp P (l ++ [o]).toArray Q l.length K a w := by
  unfold wpOp
  have e : (l ++ [o]).toArray[l.length]? = some o := by simp
  rw [e]
  by_cases hw : Region.wanted o (yielded (l ++ [o]).toArray a.tmps) = true
  · simp only [wpList, hw, if_true] at h ⊢
    exact h.imp (Oper.wp_mono fun a w h => hK a w h) id
  · have hw' : Region.wanted o (yielded (l ++ [o]).toArray a.tmps) = false := by simpa using hw
    simp only [wpList, hw'] at h ⊢
    exact hK _ _ h
theorem wpOp_old2 (hok : LastOk2 l o) {K K' : Act → World → Prop} {a : Act} {w : World} {i : Nat} (hi : i < l.length) (hK : ∀ a w, K a w → K' a w) (h : wpOp P l.toArray (LastPost P (l ++ [o]).toArray o Q) i K a w) :
    wpOp P (l ++ [o]).toArray Q i K' a w := by
  unfold wpOp at h ⊢
  have hx := List.getElem?_eq_getElem hi
  have e1 : l.toArray[i]? = some l[i] := by simp [hi]
  have e2 : (l ++ [o]).toArray[i]? = some l[i] := by simp [List.getElem?_append_left hi, hi]
  rw [e1] at h
  rw [e2]
  have hy : Region.wanted l[i] (yielded (l ++ [o]).toArray a.tmps) = Region.wanted l[i] (yielded l.toArray a.tmps) := by
    unfold Region.wanted
    split
    · rfl
    · rename_i j b hg
      have hj := hok.guard i _ hx j b hg
      have : yielded (l ++ [o]).toArray a.tmps j = yielded l.toArray a.tmps j := by
        unfold yielded
        rw [show (l ++ [o]).toArray[j]? = l.toArray[j]? from by simp [List.getElem?_append_left hj]]
      rw [this]
  simp only [hy]
  split
  · rename_i hw
    simp only [hw, if_true] at h
    rcases h with h | h
    · exact .inl (oper_post2 (Q' := LastPost P (l ++ [o]).toArray o Q) (fun _ _ _ h => h) lastPost_out2 (Oper.wp_mono hK h))
    · exact .inr ⟨h.1, lastPost_out2 h.2⟩
  · rename_i hw
    simp only [hw] at h
    exact hK _ _ h
theorem wpAny_last2 (hok : LastOk2 l o) : ∀ (fuel : Nat) (listed : Array Bool) (a : Act) (w : World), listed.size = l.length → Closed2 l listed → wpAny P .any l.toArray (LastPost P (l ++ [o]).toArray o Q) fuel listed a w →
    wpAny P .any (l ++ [o]).toArray Q (fuel + 1) (listed.push false) a w := by
  intro fuel
  induction fuel with
  | zero =>
    intro listed a w hs hc h
    obtain ⟨h1, h2⟩ := h
    have hall := all_listed2 hok hs h1
    have hin := (ready_last2 hok hs hc).2 hall
    refine ⟨fun h0 => (by rw [h0] at hin; cases hin), fun i hi => ?_⟩
    have hlt : i < l.length + 1 := by
      obtain ⟨_, x, hx, _⟩ := mem_ready.1 hi
      have := (Array.getElem?_eq_some_iff.1 hx).1; simpa using this
    rcases Nat.lt_or_ge i l.length with hl | hl
    · have := ready_old2 hok hs hl hi
      rw [h1] at this; cases this
    · obtain rfl : i = l.length := by omega
      exact wpOp_last2 h2 (fun a w h => ⟨ready_end2 hs hall, h⟩)
  | succ fuel ih =>
    intro listed a w hs hc h
    obtain ⟨h1, h2⟩ := h
    refine ⟨fun h0 => ?_, fun i hi => ?_⟩
    · by_cases hr : Region.ready .any l.toArray listed = []
      · have hin := (ready_last2 hok hs hc).2 (all_listed2 hok hs hr)
        rw [h0] at hin; cases hin
      · obtain ⟨j, hj⟩ := List.exists_mem_of_ne_nil _ hr
        have := old_ready2 hok hs hj
        rw [h0] at this; cases this
    · have hlt : i < l.length + 1 := by
        obtain ⟨_, x, hx, _⟩ := mem_ready.1 hi
        have := (Array.getElem?_eq_some_iff.1 hx).1; simpa using this
      rcases Nat.lt_or_ge i l.length with hl | hl
      · refine wpOp_old2 hok hl (fun a w h => ?_) (h2 i (ready_old2 hok hs hl hi))
        have e : (listed.push false).setIfInBounds i true = (listed.setIfInBounds i true).push false := by
          apply Array.ext_getElem?
          intro j
          simp only [Array.getElem?_setIfInBounds, Array.getElem?_push, Array.size_push, Array.size_setIfInBounds]
          by_cases hj : i = j
          · subst hj; simp [show i < listed.size by omega, show ¬ i = listed.size by omega, show i < listed.size + 1 by omega]
          · simp [hj]
        rw [e]
        exact ih _ a w (by simpa using hs) (closed_set2 hc (ready_old2 hok hs hl hi)) h
      · obtain rfl : i = l.length := by omega
        have hall := (ready_last2 hok hs hc).1 hi
        have hr : Region.ready .any l.toArray listed = [] := by
          apply List.eq_nil_iff_forall_not_mem.2
          intro j hj
          obtain ⟨h0, x, hx, _⟩ := mem_ready.1 hj
          have hjl : j < l.length := by have := (Array.getElem?_eq_some_iff.1 hx).1; simpa using this
          have := hall j hjl
          simp only [Array.getD_eq_getD_getElem?, Array.getElem?_eq_getElem (show j < listed.size by omega), Option.getD_some] at h0 this
          rw [this] at h0; cases h0
        exact wpOp_last2 (h1 hr) (fun a w h => ⟨fun _ => h, fun j hj => by rw [ready_end2 hs hall] at hj; cases hj⟩)
theorem wpAny_last2' (hok : lastOk2 l o = true) {m : Nat} (hm : m = l.length + 1) {a : Act} {w : World} (h : wpAny P .any l.toArray (LastPost P (l ++ [o]).toArray o Q) l.length (Array.replicate l.length false) a w) : wpAny P .any (l ++ [o]).toArray Q m (Array.replicate m false) a w := by
  subst hm
  have := wpAny_last2 (LastOk2.of hok) l.length (Array.replicate l.length false) a _ (by simp) (fun i x hx hi => by simp [Array.getD_eq_getD_getElem?, Array.getElem?_replicate] at hi; split at hi <;> simp at hi) h
  have e : Array.replicate (l.length + 1) false = (Array.replicate l.length false).push false := by
    simp [Array.replicate_succ]
  rw [e]
  exact this
theorem wp_region_last1_held {id : Nat} {a : Act} {w : World} (S : World → Prop) (hm : P.follows .mixedOrders = true) (h1 : lastOk2 l o = true)
    (h : wpAnyH P .any l.toArray (LastPost P (l ++ [o]).toArray o Q) S l.length (Array.replicate l.length false) a w.drew) : (Code.region id (l ++ [o]).toArray true).wp P Q a w := by
  refine wp_region_any hm ?_
  refine wpAny_last2' h1 (by simp) ?_
  exact wpAny_of_held _ _ _ _ h
end
end Go.Proofs.YtgmlenpcchhmbaaGreat.P
end
section
set_option linter.unusedVariables false
set_option linter.unusedSimpArgs false
namespace Go.Proofs.YtgmlenpcchhmbaaGreat.P
open Go.RowKit Go.Proofs.YtgmlenpcchhmbaaGreatW.PrintWords Go.Proofs.YtgmlenpcchhmbaaGreatW.PrintLast Go.Proofs.YtgmlenpcchhmbaaGreatW.PrintMore
theorem laidTs_two (a b : ByteArray) : laidTs [a, b] = laidT a ++ laidT b := by unfold laidTs; simp
theorem wrap_i64 (x : Int) : IntKind.i64.wrap x = wrap64 x := by
  first | rfl | (unfold IntKind.wrap wrap64; simp [IntKind.bits, IntKind.signed]; done) | (unfold IntKind.wrap wrap64; simp [IntKind.bits, IntKind.signed]; omega)
theorem op_kept {w w' : World} {base g : Nat} {v : Value} {xs : List Int} {cs : Array Value} (ho : RowU w base v xs) (hT : Blk w g 63 cs) (hk : Kept w w' (fun k => some k = v.ownBlock)) : Blk w' g 63 cs := by
  refine (hk.2 g hT.lt (fun e => ?_)).trans hT
  obtain ⟨inner, hown⟩ := Kd.R_own ho
  obtain ⟨_, h⟩ := hown
  rcases h with ⟨e1, _⟩ | ⟨g', cap, cur, e1, h1, h2, _⟩
  · rw [e1] at e; cases e
  · rw [e1] at e
    have e2 : g = g' := by simpa [Value.ownBlock] using e
    subst e2
    have h3 : w.heap[g]? = some (.cells cs 63 (0, 0)) := hT
    rw [h2] at h3
    injection h3 with h3
    injection h3 with _ h3 _
    exact absurd h3 (by decide)
set_option maxHeartbeats 4000000 in
set_option maxRecDepth 100000 in
theorem rLayO_any (A : Option Addr) (c : Nat) (ds : List S63) (w : World) (hr : Kd.C k63 w A ds.length ds) (hn : ds.length ≤ 1000) (hs : ∀ o ∈ ds, o.f1.size ≤ 1048576 ∧ o.f2.size ≤ 1048576) :
    Calls Tryz.prog 23 #[.slice none 0 0, .slice A ds.length c] w fun e w' => ∃ v, e = .returned v ∧ Kd.R (Kd.int .u8) 5 w' w.heap.size (fun _ => True) v (laidOps ds) ∧ Below w.heap.size w w' := by
  have hmx := Kd.C_max hr
  have HR := Lib.hid (And.intro hr hs)
  clear hr hs
  go_enter Tryz.func23, Tryz.ntmps23
  go_wp2_with fail
  refine (rInt_any (.slice none 0 0) [] (ds.length : Int) w w (Below.refl _ _) (Kd.R_nil _ _ _ _ _) (by simp)).mono ?_
  rintro e w1 ⟨v1, rfl, ho1, hb1, _⟩
  rw [List.nil_append] at ho1
  obtain ⟨A1, c1, rfl⟩ := Kd.R_slice ho1
  have HO := Lib.hid (And.intro ho1 hb1)
  clear ho1 hb1
  go_wp2
  go_loopw [0, 5, 6] (fun so si _ wr => ∃ (k n : Nat) (A' : Option Addr) (c' : Nat), so = .slice A' n c' ∧ si = .int .i64 (k : Int) ∧ k ≤ ds.length ∧ RowKit.Hid (n = (laidI (ds.length : Int) ++ laidOs (ds.take k)).length ∧ RowU wr w.heap.size (.slice A' n c') (laidI (ds.length : Int) ++ laidOs (ds.take k)) ∧ Below w.heap.size w wr)) (fun _ si _ _ => ds.length - (intOf si).toNat)
  case atStart => exact ⟨0, _, _, _, rfl, rfl, by omega, Lib.hid ⟨by simp [laidOs], by simpa [laidOs] using HO.out.1, HO.out.2⟩⟩
  case round =>
    obtain ⟨k, n, A', c', rfl, rfl, hk, HS⟩ := hrel
    by_cases hlt : k < ds.length
    · obtain ⟨ad, rfl, d0, d1, d2, d3⟩ := C_atO (Kd.C_below HR.out.1 HS.out.2.2) k hlt
      have hsn := laidOs_snoc ds hlt
      obtain ⟨s1, s2⟩ := HR.out.2 ds[k] (List.getElem_mem hlt)
      have hlX : (laidI (ds.length : Int) ++ laidOs (ds.take k)).length ≤ 8 + 2097200 * 1000 := by
        rw [List.length_append, laidI_len]; have := laidOs_len (ds.take k); rw [List.length_take] at this; omega
      generalize ds[k] = x at *
      obtain ⟨x0, x1, x2, x3⟩ := x
      simp only at s1 s2 d0 d1 d2 d3
      obtain ⟨wb, hwb⟩ : ∃ wb, wr.alloc (.cells #[.int .i64 x0, .string x1, .string x2, .int .u64 x3] 63) = wb := ⟨_, rfl⟩
      have hBb : Below wr.heap.size wr wb := hwb ▸ (Below.refl _ _).alloc (Nat.le_refl _) _
      have hT : Blk wb wr.heap.size 63 #[.int .i64 x0, .string x1, .string x2, .int .u64 x3] := hwb ▸ Blk.new wr 63 _
      obtain ⟨Y, hY⟩ : ∃ Y, laidI (ds.length : Int) ++ laidOs (ds.take k) = Y := ⟨_, rfl⟩
      have hS2 : n = Y.length ∧ RowU wr w.heap.size (.slice A' n c') Y ∧ Below w.heap.size w wr := by rw [← hY]; exact HS.out
      have hnext : laidI (ds.length : Int) ++ laidOs (ds.take (k + 1)) = Y ++ laidI x0 ++ laidT x1 ++ laidT x2 ++ laidI (wrap64 x3) := by
        rw [hsn, ← List.append_assoc, hY]; unfold laidO; rw [laidTs_two]; simp only [List.append_assoc]
      rw [hY] at hlX
      have hbw : Below w.heap.size w wb := hS2.2.2.trans (hBb.mono hS2.2.2.size)
      have hRb : RowU wb w.heap.size (.slice A' n c') Y := Kd.R_step hS2.2.1 (fun q _ hq => hBb.block q hq)
      have HY := Lib.hid (And.intro hS2.1 (And.intro hRb (And.intro hbw (And.intro hnext (And.intro hlX (And.intro s1 (And.intro s2 hT)))))))
      have c0 : wb.cell? ⟨wr.heap.size, 0, none⟩ = some (.int .i64 x0) := hT.cell 0
      have c1 : wb.cell? ⟨wr.heap.size, 1, none⟩ = some (.string x1) := hT.cell 1
      have c2 : wb.cell? ⟨wr.heap.size, 2, none⟩ = some (.string x2) := hT.cell 2
      have c3 : wb.cell? ⟨wr.heap.size, 3, none⟩ = some (.int .u64 x3) := hT.cell 3
      have HW := Lib.hid hwb
      have hkl : (k : Int) < (ds.length : Int) := by omega
      have h0k : (0 : Int) ≤ (k : Int) := by omega
      have hkw : wrap64 ((k : Int) + 1) = (k : Int) + 1 := by unfold wrap64; omega
      clear hsn s1 s2 hlX hBb hT hY hS2 hnext hbw hRb hwb
      obtain ⟨Y1, hY1⟩ : ∃ Z, Y ++ laidI x0 = Z := ⟨_, rfl⟩
      obtain ⟨Y2, hY2⟩ : ∃ Z, Y1 ++ laidT x1 = Z := ⟨_, rfl⟩
      obtain ⟨Y3, hY3⟩ : ∃ Z, Y2 ++ laidT x2 = Z := ⟨_, rfl⟩
      obtain ⟨Y4, hY4⟩ : ∃ Z, Y3 ++ laidI (wrap64 x3) = Z := ⟨_, rfl⟩
      have l1 : Y1.length = Y.length + 8 := by rw [← hY1, List.length_append, laidI_len]
      have l2 : Y2.length ≤ Y1.length + 1048580 := by rw [← hY2, List.length_append, laidT_len]; omega
      have l3 : Y3.length ≤ Y2.length + 1048580 := by rw [← hY3, List.length_append, laidT_len]; omega
      have HZ := Lib.hid (And.intro hY1 (And.intro hY2 (And.intro hY3 (And.intro hY4 (And.intro l1 (And.intro l2 l3))))))
      clear hY1 hY2 hY3 hY4 l1 l2 l3
      go_upto_region 6 with fail
      rw [HW.out]
      refine wp_region_last1_held (S := (fun W => W.cell? ⟨wr.heap.size, 0, none⟩ = some (.int .i64 x0) ∧ W.cell? ⟨wr.heap.size, 1, none⟩ = some (.string x1) ∧ W.cell? ⟨wr.heap.size, 2, none⟩ = some (.string x2) ∧ W.cell? ⟨wr.heap.size, 3, none⟩ = some (.int .u64 x3))) (l := [_, _, _, _, _, _, _, _, _, _, _, _, _, _]) (o := _) (by kernel_rfl) (by kernel_rfl) ?_
      simp only [List.size_toArray, List.length_cons, List.length_nil, Nat.zero_add, Nat.reduceAdd]
      have hHeld : ((fun W => W.cell? ⟨wr.heap.size, 0, none⟩ = some (.int .i64 x0) ∧ W.cell? ⟨wr.heap.size, 1, none⟩ = some (.string x1) ∧ W.cell? ⟨wr.heap.size, 2, none⟩ = some (.string x2) ∧ W.cell? ⟨wr.heap.size, 3, none⟩ = some (.int .u64 x3))) wb.drew := ⟨c0, c1, c2, c3⟩
      refine tk_ 0 hHeld ?_
      refine tk_ 1 hHeld ?_
      refine tk_ 2 hHeld ?_
      refine tk_ 4 hHeld ?_
      refine tk_ 5 hHeld ?_
      refine tk_ 7 hHeld ?_
      refine tk_ 8 hHeld ?_
      refine tk_ 10 hHeld ?_
      refine tk_ 11 hHeld ?_
      refine tk_ 12 hHeld ?_
      refine wpAnyH_ready (rs := [3]) (by kernel_rfl) (by simp) ?_
      refine (AllReadyH.cons rfl (fun K hK => ?_) AllReadyH.nil)
      go_simp
      refine (rInt_any _ Y x0 w _ (below_drew HY.out.2.2.1) (Kd.R_drew HY.out.2.1) (by have := HY.out.2.2.2.2.1; omega)).mono ?_
      rintro e w2 ⟨v2, rfl, ho2, hb2, hk2⟩
      have hT2 : Blk w2 wr.heap.size 63 _ := op_kept HY.out.2.1 HY.out.2.2.2.2.2.2.2 hk2
      rw [HZ.out.1] at ho2
      obtain ⟨A2, q2, rfl⟩ := Kd.R_slice ho2
      have HO2 := Lib.hid (And.intro ho2 (And.intro hb2 hT2))
      refine hK.out _ _ ?_ (fun hHeld => ?_)
      · exact ⟨hT2.cell 0, hT2.cell 1, hT2.cell 2, hT2.cell 3⟩
      clear hK K
      clear ho2 hb2 hk2 hT2
      try simp only [List.getElem_toArray, List.getElem_cons_succ, List.getElem_cons_zero, Act.put, List.setIfInBounds_toArray, List.set_cons_zero, List.set_cons_succ]
      refine wpAnyH_ready (rs := [6]) (by kernel_rfl) (by simp) ?_
      refine (AllReadyH.cons rfl (fun K hK => ?_) AllReadyH.nil)
      go_simp
      refine (rText_any _ Y1 x1 w _ HO2.out.2.1 HO2.out.1 HY.out.2.2.2.2.2.1 (by have := HY.out.2.2.2.2.1; have := HZ.out.2.2.2.2.1; omega)).mono ?_
      rintro e w3 ⟨v3, rfl, ho3, hb3, hk3⟩
      have hT3 : Blk w3 wr.heap.size 63 _ := op_kept HO2.out.1 HO2.out.2.2 hk3
      rw [HZ.out.2.1] at ho3
      obtain ⟨A3, q3, rfl⟩ := Kd.R_slice ho3
      have HO3 := Lib.hid (And.intro ho3 (And.intro hb3 hT3))
      refine hK.out _ _ ?_ (fun hHeld => ?_)
      · exact ⟨hT3.cell 0, hT3.cell 1, hT3.cell 2, hT3.cell 3⟩
      clear hK K
      clear ho3 hb3 hk3 hT3
      try simp only [List.getElem_toArray, List.getElem_cons_succ, List.getElem_cons_zero, Act.put, List.setIfInBounds_toArray, List.set_cons_zero, List.set_cons_succ]
      refine wpAnyH_ready (rs := [9]) (by kernel_rfl) (by simp) ?_
      refine (AllReadyH.cons rfl (fun K hK => ?_) AllReadyH.nil)
      go_simp
      refine (rText_any _ Y2 x2 w _ HO3.out.2.1 HO3.out.1 HY.out.2.2.2.2.2.2.1 (by have := HY.out.2.2.2.2.1; have := HZ.out.2.2.2.2.1; have := HZ.out.2.2.2.2.2.1; omega)).mono ?_
      rintro e w4 ⟨v4, rfl, ho4, hb4, hk4⟩
      have hT4 : Blk w4 wr.heap.size 63 _ := op_kept HO3.out.1 HO3.out.2.2 hk4
      rw [HZ.out.2.2.1] at ho4
      obtain ⟨A4, q4, rfl⟩ := Kd.R_slice ho4
      have HO4 := Lib.hid (And.intro ho4 (And.intro hb4 hT4))
      refine hK.out _ _ ?_ (fun hHeld => ?_)
      · exact ⟨hT4.cell 0, hT4.cell 1, hT4.cell 2, hT4.cell 3⟩
      clear hK K
      clear ho4 hb4 hk4 hT4
      try simp only [List.getElem_toArray, List.getElem_cons_succ, List.getElem_cons_zero, Act.put, List.setIfInBounds_toArray, List.set_cons_zero, List.set_cons_succ]
      refine wpAnyH_ready (rs := [13]) (by kernel_rfl) (by simp) ?_
      refine (AllReadyH.cons rfl (fun K hK => ?_) AllReadyH.nil)
      go_simp
      refine (rInt_any _ Y3 (IntKind.i64.wrap x3) w _ HO4.out.2.1 HO4.out.1 (by have := HY.out.2.2.2.2.1; have := HZ.out.2.2.2.2.1; have := HZ.out.2.2.2.2.2.1; have := HZ.out.2.2.2.2.2.2; omega)).mono ?_
      rintro e w5 ⟨v5, rfl, ho5, hb5, hk5⟩
      have hT5 : Blk w5 wr.heap.size 63 _ := op_kept HO4.out.1 HO4.out.2.2 hk5
      rw [wrap_i64, HZ.out.2.2.2.1] at ho5
      obtain ⟨A5, q5, rfl⟩ := Kd.R_slice ho5
      have HO5 := Lib.hid (And.intro ho5 hb5)
      refine hK.out _ _ ?_ (fun hHeld => ?_)
      · exact ⟨hT5.cell 0, hT5.cell 1, hT5.cell 2, hT5.cell 3⟩
      clear hK K
      clear ho5 hb5 hk5 hT5
      try simp only [List.getElem_toArray, List.getElem_cons_succ, List.getElem_cons_zero, Act.put, List.setIfInBounds_toArray, List.set_cons_zero, List.set_cons_succ]
      refine wpAnyH_done (by kernel_rfl) ?_ _
      refine lastPost_wp ?_
      clear hHeld
      go_wp2_with fail
      go_roundw
      case rel =>
        refine ⟨k + 1, _, _, _, rfl, rfl, by omega, Lib.hid ?_⟩
        have e : laidI (ds.length : Int) ++ laidOs (ds.take (k + 1)) = Y4 := by rw [HY.out.2.2.2.1, HZ.out.1, HZ.out.2.1, HZ.out.2.2.1, HZ.out.2.2.2.1]
        rw [e]
        exact ⟨rfl, HO5.out.1, HO5.out.2⟩
      case measure => (show ds.length - ((k : Int) + 1).toNat < ds.length - ((k : Int)).toNat; omega)
    · obtain rfl : k = ds.length := by omega
      go_wp2
      go_ret
      have h := HS.out
      rw [List.take_length] at h
      exact ⟨_, rfl, Kd.R_mono h.2.1 (fun _ _ => trivial), h.2.2⟩
def folkmootref08_Lay.f (b : List Int) (ds : List S63) : Option (List Int) := if b = [] ∧ ds.length ≤ 1000 ∧ (∀ o ∈ ds, o.f1.size ≤ 1048576 ∧ o.f2.size ≤ 1048576) then some (laidOps ds) else none
theorem folkmootref08_Lay.calls (_A0 : Option Addr) (_c0 : Nat) (l0 : List Int) (A1 : Option Addr) (c1 : Nat) (l1 : List S63) (r : List Int) (w : World) (_hr0 : Kd.C (Kd.int .u8) w _A0 l0.length l0) (_hc0 : l0.length ≤ _c0) (hr1 : Kd.C k63 w A1 l1.length l1) (_hc1 : l1.length ≤ c1) (h : folkmootref08_Lay.f l0 l1 = some r) :
    Calls Tryz.prog 23 #[.slice none 0 0, .slice A1 l1.length c1] w fun e w' => ∃ v0_ : Value, e = .returned (v0_) ∧ Kd.R (Kd.int .u8) 5 w' w.heap.size (fun _ => True) v0_ r ∧ Below w.heap.size w w' := by
  unfold folkmootref08_Lay.f at h
  split at h
  · rename_i hc
    injection h with h
    subst h
    exact rLayO_any A1 c1 l1 w hr1 hc.2.1 hc.2.2
  · cases h
end Go.Proofs.YtgmlenpcchhmbaaGreat.P
end
section
set_option linter.unusedVariables false
set_option linter.unusedSimpArgs false
namespace Go.Proofs.YtgmlenpcchhmbaaGreat.P
open Go.RowKit Go.Proofs.YtgmlenpcchhmbaaGreatW.PrintWords Go.Proofs.YtgmlenpcchhmbaaGreatW.PrintLast Go.Proofs.YtgmlenpcchhmbaaGreatW.PrintMore
attribute [local go_sem] max2_int min2_int max_two min_two max_three min_three max_four min_four   -- for this text's walks alone
def folkmootref07_nan.f (a0 : Int) : Option (Bool) := some (decide ((Go.bits .andNot .u64 a0 9223372036854775808) > 9218868437227405312))
set_option maxHeartbeats 8000000 in
set_option maxRecDepth 100000 in
theorem folkmootref07_nan.calls (a0 : Int) (r : Bool) (w : World) (h : folkmootref07_nan.f a0 = some r) :
  Calls Tryz.prog 120 #[.int .u64 a0] w fun e w' => e = .returned (.bool r) ∧ Drawn0 w w' := by
 have H : (some (decide ((Go.bits .andNot .u64 a0 9223372036854775808) > 9218868437227405312))) = some r := h
 clear h
 obtain rfl := Option.some.inj H
 go_enter Tryz.func120, Tryz.ntmps120
 go_wp2
 go_ret
 exact ⟨by first | rfl | (simp; done) | (simp [*]; done), by repeat (first | exact Drawn0.refl _ | apply Drawn0.step)⟩
end Go.Proofs.YtgmlenpcchhmbaaGreat.P
end
section
set_option linter.unusedVariables false
set_option linter.unusedSimpArgs false
namespace Go.Proofs.YtgmlenpcchhmbaaGreat.P
open Go.RowKit Go.Proofs.YtgmlenpcchhmbaaGreatW.PrintWords Go.Proofs.YtgmlenpcchhmbaaGreatW.PrintLast Go.Proofs.YtgmlenpcchhmbaaGreatW.PrintMore
attribute [local go_sem] max2_int min2_int max_two min_two max_three min_three max_four min_four   -- for this text's walks alone
def folkmootref07_Right.f (a0 : Int) : Option (Int) := (folkmootref07_nan.f a0).bind fun t114 => (if t114 = true then (some 9221120237041090561) else (some a0))
set_option maxHeartbeats 8000000 in
set_option maxRecDepth 100000 in
theorem folkmootref07_Right.calls (a0 : Int) (r : Int) (w : World) (h : folkmootref07_Right.f a0 = some r) :
  Calls Tryz.prog 105 #[.int .u64 a0] w fun e w' => e = .returned (.int .u64 r) ∧ Drawn0 w w' := by
 have H : ((folkmootref07_nan.f a0).bind fun t114 => (if t114 = true then (some 9221120237041090561) else (some a0))) = some r := h
 clear h
 replace H := Option.bind_eq_some_iff.mp H
 obtain ⟨t114, A20, H⟩ := H
 replace H : (if t114 = true then (some 9221120237041090561) else (some a0)) = some r := H
 have A2 := Aside0.mk A20
 clear A20
 by_cases c3 : t114 = true
 ·subst c3
  have H1 : (some 9221120237041090561) = some r := by rw [if_pos rfl] at H; exact H
  clear H
  have H := H1
  clear H1
  obtain rfl := Option.some.inj H
  go_enter Tryz.func105, Tryz.ntmps105
  go_wp2_with (first | ((with_reducible refine gate_callee (f := 120) rfl ?_); refine goesL_ (some 4) rfl rfl Tryz.func120 (by kernel_rfl) rfl #[.int .u64 a0] rfl (by (try simp only [List.map_toArray, List.map_cons, List.map_nil]); first | done | rfl | (simp only [List.length_drop, List.length_take]; rfl)) ?_; (with_reducible refine (folkmootref07_nan.calls a0 true _ A2.out).mono ?_); rintro e w' ⟨rfl, ⟨nd, rfl⟩⟩; refine ⟨_, rfl, ?_⟩))
  go_ret
  exact ⟨by first | rfl | (simp; done) | (simp [*]; done), by repeat (first | exact Drawn0.refl _ | apply Drawn0.step)⟩
 ·replace c3 := Bool.eq_false_iff.mpr c3
  subst c3
  have H1 : (some a0) = some r := by rw [if_neg (show ¬ (false = true) by decide)] at H; exact H
  clear H
  have H := H1
  clear H1
  obtain rfl := Option.some.inj H
  go_enter Tryz.func105, Tryz.ntmps105
  go_wp2_with (first | ((with_reducible refine gate_callee (f := 120) rfl ?_); refine goesL_ (some 4) rfl rfl Tryz.func120 (by kernel_rfl) rfl #[.int .u64 a0] rfl (by (try simp only [List.map_toArray, List.map_cons, List.map_nil]); first | done | rfl | (simp only [List.length_drop, List.length_take]; rfl)) ?_; (with_reducible refine (folkmootref07_nan.calls a0 false _ A2.out).mono ?_); rintro e w' ⟨rfl, ⟨nd, rfl⟩⟩; refine ⟨_, rfl, ?_⟩))
  go_ret
  exact ⟨by first | rfl | (simp; done) | (simp [*]; done), by repeat (first | exact Drawn0.refl _ | apply Drawn0.step)⟩
end Go.Proofs.YtgmlenpcchhmbaaGreat.P
end
section
set_option linter.unusedVariables false
set_option linter.unusedSimpArgs false
namespace Go.Proofs.YtgmlenpcchhmbaaGreat.P
open Go.RowKit Go.Proofs.YtgmlenpcchhmbaaGreatW.PrintWords Go.Proofs.YtgmlenpcchhmbaaGreatW.PrintLast Go.Proofs.YtgmlenpcchhmbaaGreatW.PrintMore
def rOfN (n : Int) : Int := (floatOfInt .f64 n : Nat)
def folkmootref07_Of.f (a0 : Int) : Option Int := some (rOfN a0)
set_option maxRecDepth 100000 in
theorem folkmootref07_Of.calls (a0 : Int) (r : Int) (w : World) (h : folkmootref07_Of.f a0 = some r) : Calls Tryz.prog 36 #[.int .i64 a0] w fun e w' => e = .returned (.int .u64 r) ∧ Drawn0 w w' := by
  injection h with h
  subst h
  have hb := fb_run (floatOfInt .f64 a0)
  unfold rOfN
  have hc : ∀ w, (convert 2 129 (.int .i64 a0)).run Tryz.prog w = .ok (.float .f64 (floatOfInt .f64 a0)) w := fun w => run_convert_int_float w _ _ .i64 .f64 a0 (by kernel_rfl) (by kernel_rfl)
  generalize floatOfInt .f64 a0 = q at *
  go_enter Tryz.func36, Tryz.ntmps36
  go_wp2
  go_ret
  exact ⟨rfl, Drawn0.refl _⟩
theorem andNot_sign (n : Nat) (h : n < 18446744073709551616) : bits .andNot .u64 (n : Int) 9223372036854775808 = ((n % 9223372036854775808 : Nat) : Int) := by
  have hw : ∀ n : Int, 0 ≤ n → n < 2 ^ 64 → IntKind.u64.wrap n = n := fun n h0 h1 => Go.IntWalk.u64_in n (by omega)
  have hx : ∀ x : BitVec 64, (x &&& ~~~(9223372036854775808#64)).toNat = x.toNat % 9223372036854775808 := by
    intro x
    have : (x &&& ~~~(9223372036854775808#64)) = x &&& 9223372036854775807#64 := by rfl
    rw [this, BitVec.toNat_and]
    show x.toNat &&& 9223372036854775807 = _
    exact Nat.and_two_pow_sub_one_eq_mod x.toNat 63
  simp only [bits]
  show IntKind.u64.wrap (((BitVec.ofInt 64 (n : Int)) &&& ~~~(BitVec.ofInt 64 9223372036854775808)).toNat : Int) = _
  have e2 : BitVec.ofInt 64 9223372036854775808 = 9223372036854775808#64 := by rfl
  rw [e2, hx, BitVec.ofInt_natCast, BitVec.toNat_ofNat, Nat.mod_eq_of_lt h]
  exact hw _ (by omega) (by omega)
theorem nan_read (n : Nat) : (Ieee.double.read n).isNaN = decide (n % 9223372036854775808 > 9218868437227405312) := by
  have e1 : Ieee.double.signWeight = 9223372036854775808 := by decide
  have e2 : Ieee.double.binade = 4503599627370496 := by decide
  have e3 : Ieee.double.infRung = 9218868437227405312 := by decide
  unfold Ieee.Format.read
  simp only [e1, e2, e3]
  by_cases h1 : n % 9223372036854775808 < 4503599627370496
  · rw [if_pos h1, decide_eq_false (by omega)]; rfl
  · rw [if_neg h1]
    by_cases h2 : n % 9223372036854775808 < 9218868437227405312
    · rw [if_pos h2, decide_eq_false (by omega)]; rfl
    · rw [if_neg h2]
      by_cases h3 : n % 9223372036854775808 = 9218868437227405312
      · rw [if_pos h3, decide_eq_false (by omega)]; rfl
      · rw [if_neg h3, decide_eq_true (by omega)]; rfl
theorem rNan_f {n : Int} (h0 : 0 ≤ n) (h1 : n < 18446744073709551616) : folkmootref07_nan.f n = some (nanN n) := by
  obtain ⟨m, rfl⟩ := Int.eq_ofNat_of_zero_le h0
  unfold folkmootref07_nan.f nanN
  rw [andNot_sign m (by omega), Int.toNat_natCast, nan_read]
  congr 1
  exact decide_eq_decide.2 (by omega)
theorem rRight_f {n : Int} (h0 : 0 ≤ n) (h1 : n < 18446744073709551616) : folkmootref07_Right.f n = some (rightN n) := by
  unfold folkmootref07_Right.f rightN
  rw [rNan_f h0 h1, Option.bind_some]
  split <;> rfl
def u64ok (n : Int) : Prop := 0 ≤ n ∧ n < 18446744073709551616
instance (n : Int) : Decidable (u64ok n) := inferInstanceAs (Decidable (_ ∧ _))
end Go.Proofs.YtgmlenpcchhmbaaGreat.P
end
section
set_option linter.unusedVariables false
set_option linter.unusedSimpArgs false
namespace Go.Proofs.YtgmlenpcchhmbaaGreat.P
open Go.RowKit Go.Proofs.YtgmlenpcchhmbaaGreatW.PrintWords Go.Proofs.YtgmlenpcchhmbaaGreatW.PrintLast Go.Proofs.YtgmlenpcchhmbaaGreatW.PrintMore
attribute [local go_sem] max2_int min2_int max_two min_two max_three min_three max_four min_four   -- for this text's walks alone
def folkmootref03_Key.f (a0 : ByteArray) : Option (Bool) := if (a0.size : Int) ≥ 1 then (some (decide ((a0.size : Int) ≤ 16))) else (some false)
set_option maxHeartbeats 8000000 in
set_option maxRecDepth 100000 in
theorem folkmootref03_Key.calls (a0 : ByteArray) (r : Bool) (w : World) (h : folkmootref03_Key.f a0 = some r) :
  Calls Tryz.prog 37 #[.string a0] w fun e w' => e = .returned (.bool r) ∧ Drawn0 w w' := by
 have H : (if (a0.size : Int) ≥ 1 then (some (decide ((a0.size : Int) ≤ 16))) else (some false)) = some r := h
 clear h
 by_cases c2 : (a0.size : Int) ≥ 1
 ·rw [if_pos c2] at H
  have c2b0 : decide (1 ≤ (a0.size : Int)) = true := decide_eq_true c2
  have c2b1 : decide (1 ≤ a0.size) = true := decide_eq_true (by omega)
  clear c2
  obtain rfl := Option.some.inj H
  go_enter Tryz.func37, Tryz.ntmps37
  go_wp2
  go_ret
  exact ⟨by first | rfl | (simp; done) | (simp [*]; done), by repeat (first | exact Drawn0.refl _ | apply Drawn0.step)⟩
 ·rw [if_neg c2] at H
  have c2b0 : decide (1 ≤ (a0.size : Int)) = false := decide_eq_false c2
  have c2b1 : decide (1 ≤ a0.size) = false := decide_eq_false (by omega)
  clear c2
  obtain rfl := Option.some.inj H
  go_enter Tryz.func37, Tryz.ntmps37
  go_wp2
  go_ret
  exact ⟨by first | rfl | (simp; done) | (simp [*]; done), by repeat (first | exact Drawn0.refl _ | apply Drawn0.step)⟩
end Go.Proofs.YtgmlenpcchhmbaaGreat.P
end
section
set_option linter.unusedVariables false
set_option linter.unusedSimpArgs false
namespace Go.Proofs.YtgmlenpcchhmbaaGreat.P
open Go.RowKit Go.Proofs.YtgmlenpcchhmbaaGreatW.PrintWords Go.Proofs.YtgmlenpcchhmbaaGreatW.PrintLast Go.Proofs.YtgmlenpcchhmbaaGreatW.PrintMore
attribute [local go_sem] max2_int min2_int max_two min_two max_three min_three max_four min_four   -- for this text's walks alone
def folkmootref07_Is.f (a0 : Int) : Option (Bool) := (folkmootref07_Right.f a0).bind fun t115 => (some (t115 == a0))
set_option maxHeartbeats 8000000 in
set_option maxRecDepth 100000 in
theorem folkmootref07_Is.calls (a0 : Int) (r : Bool) (w : World) (h : folkmootref07_Is.f a0 = some r) :
  Calls Tryz.prog 59 #[.int .u64 a0] w fun e w' => e = .returned (.bool r) ∧ Drawn0 w w' := by
 have H : ((folkmootref07_Right.f a0).bind fun t115 => (some (t115 == a0))) = some r := h
 clear h
 replace H := Option.bind_eq_some_iff.mp H
 obtain ⟨t115, A20, H⟩ := H
 replace H : (some (t115 == a0)) = some r := H
 have A2 := Aside0.mk A20
 clear A20
 obtain rfl := Option.some.inj H
 go_enter Tryz.func59, Tryz.ntmps59
 go_wp2_with (first | ((with_reducible refine gate_callee (f := 105) rfl ?_); refine goesL_ (some 4) rfl rfl Tryz.func105 (by kernel_rfl) rfl #[.int .u64 a0] rfl (by (try simp only [List.map_toArray, List.map_cons, List.map_nil]); first | done | rfl | (simp only [List.length_drop, List.length_take]; rfl)) ?_; (with_reducible refine (folkmootref07_Right.calls a0 t115 _ A2.out).mono ?_); rintro e w' ⟨rfl, ⟨nd, rfl⟩⟩; refine ⟨_, rfl, ?_⟩))
 go_ret
 exact ⟨by first | rfl | (simp; done) | (simp [*]; done), by repeat (first | exact Drawn0.refl _ | apply Drawn0.step)⟩
end Go.Proofs.YtgmlenpcchhmbaaGreat.P
end
section
set_option linter.unusedVariables false
set_option linter.unusedSimpArgs false
namespace Go.Proofs.YtgmlenpcchhmbaaGreat.P
open Go.RowKit Go.Proofs.YtgmlenpcchhmbaaGreatW.PrintWords Go.Proofs.YtgmlenpcchhmbaaGreatW.PrintLast Go.Proofs.YtgmlenpcchhmbaaGreatW.PrintMore
attribute [local go_sem] max2_int min2_int max_two min_two max_three min_three max_four min_four   -- for this text's walks alone
end Go.Proofs.YtgmlenpcchhmbaaGreat.P
end
section
set_option linter.unusedVariables false
set_option linter.unusedSimpArgs false
namespace Go.Proofs.YtgmlenpcchhmbaaGreat.P
open Go.RowKit Go.Proofs.YtgmlenpcchhmbaaGreatW.PrintWords Go.Proofs.YtgmlenpcchhmbaaGreatW.PrintLast Go.Proofs.YtgmlenpcchhmbaaGreatW.PrintMore
attribute [local go_sem] max2_int min2_int max_two min_two max_three min_three max_four min_four   -- for this text's walks alone
theorem eqA61 (d : Nat) (w : World) (x0 y0 : ByteArray) (x1 y1 : Int) :
  (Op.equalIn (d + 2) 61 (.agg #[.string x0, .int .u64 x1]) (.agg #[.string y0, .int .u64 y1])).run Tryz.prog w = .ok (x0.toList == y0.toList && (x1 == y1)) w := by
 refine eqA_of Tryz.underlying61 (by kernel_rfl) ?_
 refine eqf_cons (by rfl) (by go_simp; rfl) (by go_simp; rfl) (by go_simp) ?_
 exact eqf_last (by rfl) (by go_simp; rfl) (by go_simp; rfl) (by go_simp)
end Go.Proofs.YtgmlenpcchhmbaaGreat.P
end
section
set_option linter.unusedVariables false
set_option linter.unusedSimpArgs false
namespace Go.Proofs.YtgmlenpcchhmbaaGreat.P
open Go.RowKit Go.Proofs.YtgmlenpcchhmbaaGreatW.PrintWords Go.Proofs.YtgmlenpcchhmbaaGreatW.PrintLast Go.Proofs.YtgmlenpcchhmbaaGreatW.PrintMore
attribute [local go_sem] max2_int min2_int max_two min_two max_three min_three max_four min_four   -- for this text's walks alone
attribute [local go_sem high] eqA61
def folkmootref08_Pairs.l0 : Nat → List (S61) → List (S61) → Int → Option (Bool)
 | 0, _, _, _ => none
 | k + 1, x0, x1, x5 => if x5 < (x0.length : Int) then (if 0 ≤ x5 then (if x5 < (x1.length : Int) then (if (!((((rd_T61 x0 x5).f0).toList) == (((rd_T61 x1 x5).f0).toList)) || (!(((rd_T61 x0 x5).f1) == ((rd_T61 x1 x5).f1)))) = true then (some false) else (folkmootref08_Pairs.l0 k x0 x1 (wrap64 (x5 + 1)))) else (none)) else (none)) else (some true)
def folkmootref08_Pairs.f (k : Nat) (l0 : List (S61)) (l1 : List (S61)) : Option (Bool) := if (l0.length : Int) = (l1.length : Int) then (folkmootref08_Pairs.l0 k l0 l1 0) else (some false)
set_option maxHeartbeats 8000000 in
set_option maxRecDepth 100000 in
theorem folkmootref08_Pairs.calls (k : Nat) (A0 : Option Addr) (c0 : Nat) (l0 : List (S61)) (A1 : Option Addr) (c1 : Nat) (l1 : List (S61)) (r : Bool) (w : World) (hr0 : Kd.C k61 w A0 l0.length l0) (hc0 : l0.length ≤ c0) (hr1 : Kd.C k61 w A1 l1.length l1) (hc1 : l1.length ≤ c1) (h : folkmootref08_Pairs.f k l0 l1 = some r) :
  Calls Tryz.prog 31 #[.slice A0 l0.length c0, .slice A1 l1.length c1] w fun e w' => e = .returned (.bool r) ∧ Drawn0 w w' := by
 have hu61 := Tryz.underlying61
 have HR0 := Aside0.mk hr0
 have HC0 := Aside0.mk hc0
 clear hr0 hc0
 have HR1 := Aside0.mk hr1
 have HC1 := Aside0.mk hc1
 clear hr1 hc1
 have H : (if (l0.length : Int) = (l1.length : Int) then (folkmootref08_Pairs.l0 k l0 l1 0) else (some false)) = some r := h
 clear h
 by_cases c3 : (l0.length : Int) = (l1.length : Int)
 ·rw [if_pos c3] at H
  have c3b0 : ((l0.length : Int) == (l1.length : Int)) = true := beq_iff_eq.mpr c3
  have c3b1 : ((l0.length : Int) != (l1.length : Int)) = false := bne_eq_false_iff_eq.mpr c3
  have c3b2 : (l0.length == l1.length) = true := by first | simpa using c3 | (simp at c3 ⊢; omega)
  clear c3
  have H' := Aside0.mk H
  clear H
  go_enter Tryz.func31, Tryz.ntmps31
  go_wp2
  repeat (go_quiet (fail); try go_wp2)
  go_loopg [5] k (fun kq v5 w' => ∃ (x5_1 : Int), v5 = .int .i64 x5_1 ∧ Aside0 (folkmootref08_Pairs.l0 kq l0 l1 x5_1 = some r) ∧ Aside0 (kq ≤ k) ∧ Drawn0 w w')
  case atStart => exact ⟨(0), (by first | rfl | (rw [bl_gt] <;> rfl) | (simp; done) | (simp [*]; done)), H', ⟨Nat.le_refl _⟩, by repeat (first | exact Drawn0.refl _ | apply Drawn0.step)⟩
  case round =>
   clear H'
   try clear c1
   try clear p2
   try clear c3
   try clear c3b0
   try clear c3b1
   try clear c3b2
   obtain ⟨x5_1, rfl, HA, HK1, ⟨m1, rfl⟩⟩ := hrel
   cases gk with
   | zero => exact absurd HA.out (by simp [folkmootref08_Pairs.l0])
   | succ k1 =>
    have H := HA.out
    clear HA
    simp only [folkmootref08_Pairs.l0] at H
    by_cases c4 : x5_1 < (l0.length : Int)
    ·rw [if_pos c4] at H
     have c4b0 : decide (x5_1 < (l0.length : Int)) = true := decide_eq_true c4
     clear c4
     by_cases c5 : 0 ≤ x5_1
     ·rw [if_pos c5] at H
      have c5b0 : decide (0 ≤ x5_1) = true := decide_eq_true c5
      clear c5
      by_cases c6 : x5_1 < (l1.length : Int)
      ·rw [if_pos c6] at H
       have c6b0 : decide (x5_1 < (l1.length : Int)) = true := decide_eq_true c6
       clear c6
       by_cases c7 : (!((((rd_T61 l0 x5_1).f0).toList) == (((rd_T61 l1 x5_1).f0).toList)) || (!(((rd_T61 l0 x5_1).f1) == ((rd_T61 l1 x5_1).f1)))) = true
       ·rw [if_pos c7] at H
        have c7b0 : (!((((rd_T61 l0 x5_1).f0).toList) == (((rd_T61 l1 x5_1).f0).toList)) || (!(((rd_T61 l0 x5_1).f1) == ((rd_T61 l1 x5_1).f1)))) = true := c7
        clear c7
        obtain rfl := Option.some.inj H
        have p122 : 0 ≤ (x5_1 : Int) := of_decide_eq_true (by first | (with_reducible assumption) | assumption)
        have q122 : x5_1 < (l0.length : Int) := of_decide_eq_true (by first | (with_reducible assumption) | assumption)
        obtain ⟨ad122, e122, hx122_0, hx122_1⟩ := at_T61 HR0.out x5_1 p122 q122
        cases e122
        replace p122 := eq_true p122
        replace q122 := eq_true q122
        have p123 : 0 ≤ (x5_1 : Int) := of_decide_eq_true (by first | (with_reducible assumption) | assumption)
        have q123 : x5_1 < (l1.length : Int) := of_decide_eq_true (by first | (with_reducible assumption) | assumption)
        obtain ⟨ad123, e123, hx123_0, hx123_1⟩ := at_T61 HR1.out x5_1 p123 q123
        cases e123
        replace p123 := eq_true p123
        replace q123 := eq_true q123
        go_wp2
        repeat (go_quiet (fail); try go_wp2)
        go_ret
        exact ⟨by first | rfl | (simp; done) | (simp [*]; done), by repeat (first | exact Drawn0.refl _ | apply Drawn0.step)⟩
       ·rw [if_neg c7] at H
        have c7b0 : (!((((rd_T61 l0 x5_1).f0).toList) == (((rd_T61 l1 x5_1).f0).toList)) || (!(((rd_T61 l0 x5_1).f1) == ((rd_T61 l1 x5_1).f1)))) = false := by simpa using c7
        clear c7
        have H' := Aside0.mk H
        clear H
        have p122 : 0 ≤ (x5_1 : Int) := of_decide_eq_true (by first | (with_reducible assumption) | assumption)
        have q122 : x5_1 < (l0.length : Int) := of_decide_eq_true (by first | (with_reducible assumption) | assumption)
        obtain ⟨ad122, e122, hx122_0, hx122_1⟩ := at_T61 HR0.out x5_1 p122 q122
        cases e122
        replace p122 := eq_true p122
        replace q122 := eq_true q122
        have p123 : 0 ≤ (x5_1 : Int) := of_decide_eq_true (by first | (with_reducible assumption) | assumption)
        have q123 : x5_1 < (l1.length : Int) := of_decide_eq_true (by first | (with_reducible assumption) | assumption)
        obtain ⟨ad123, e123, hx123_0, hx123_1⟩ := at_T61 HR1.out x5_1 p123 q123
        cases e123
        replace p123 := eq_true p123
        replace q123 := eq_true q123
        go_wp2
        repeat (go_quiet (fail); try go_wp2)
        go_roundg k1
        case measure => have := HK1.out; omega
        case rel => exact ⟨(wrap64 (x5_1 + 1)), (by first | rfl | (rw [bl_gt] <;> rfl) | (simp; done) | (simp [*]; done)), H', ⟨by have := HK1.out; omega⟩, by repeat (first | exact Drawn0.refl _ | apply Drawn0.step)⟩
      ·rw [if_neg c6] at H
       exact absurd H (by simp)
     ·rw [if_neg c5] at H
      exact absurd H (by simp)
    ·rw [if_neg c4] at H
     have c4b0 : decide (x5_1 < (l0.length : Int)) = false := decide_eq_false c4
     clear c4
     obtain rfl := Option.some.inj H
     go_wp2
     repeat (go_quiet (fail); try go_wp2)
     go_ret
     exact ⟨by first | rfl | (simp; done) | (simp [*]; done), by repeat (first | exact Drawn0.refl _ | apply Drawn0.step)⟩
 ·rw [if_neg c3] at H
  have c3b0 : ((l0.length : Int) == (l1.length : Int)) = false := beq_eq_false_iff_ne.mpr c3
  have c3b1 : ((l0.length : Int) != (l1.length : Int)) = true := bne_iff_ne.mpr c3
  have c3b2 : (l0.length == l1.length) = false := by first | simpa using c3 | (simp at c3 ⊢; omega)
  obtain rfl := Option.some.inj H
  go_enter Tryz.func31, Tryz.ntmps31
  go_wp2
  repeat (go_quiet (fail); try go_wp2)
  go_ret
  exact ⟨by first | rfl | (simp; done) | (simp [*]; done), by repeat (first | exact Drawn0.refl _ | apply Drawn0.step)⟩
end Go.Proofs.YtgmlenpcchhmbaaGreat.P
end
section
set_option linter.unusedVariables false
set_option linter.unusedSimpArgs false
namespace Go.Proofs.YtgmlenpcchhmbaaGreat.P
open Go.RowKit Go.Proofs.YtgmlenpcchhmbaaGreatW.PrintWords Go.Proofs.YtgmlenpcchhmbaaGreatW.PrintLast Go.Proofs.YtgmlenpcchhmbaaGreatW.PrintMore
attribute [local go_sem] max2_int min2_int max_two min_two max_three min_three max_four min_four   -- for this text's walks alone
mutual
def folkmootlaw08_small.j1 : Nat → List (S63) → List (S61) → Int → Option (Bool)
 | 0, _, _, _ => none
 | k + 1, x0, x1, x5 => folkmootlaw08_small.l1 k x0 x1 x5 0
def folkmootlaw08_small.l1 : Nat → List (S63) → List (S61) → Int → Int → Option (Bool)
 | 0, _, _, _, _ => none
 | k + 1, x0, x1, x5, x7 => if x7 < (x1.length : Int) then (if x7 ≤ 60 then (if 0 ≤ x7 then (folkmootlaw08_small.l1 k x0 x1 (wrap64 (x5 + (((rd_T61 x1 x7).f0).size : Int))) (wrap64 (x7 + 1))) else (none)) else (if (x0.length : Int) ≤ 60 then (if (x1.length : Int) ≤ 60 then (some (decide (x5 ≤ 6000))) else (some false)) else (some false))) else (if (x0.length : Int) ≤ 60 then (if (x1.length : Int) ≤ 60 then (some (decide (x5 ≤ 6000))) else (some false)) else (some false))
def folkmootlaw08_small.l0 : Nat → List (S63) → List (S61) → Int → Int → Option (Bool)
 | 0, _, _, _, _ => none
 | k + 1, x0, x1, x5, x6 => if x6 < (x0.length : Int) then (if x6 ≤ 60 then (if 0 ≤ x6 then (folkmootlaw08_small.l0 k x0 x1 (wrap64 ((wrap64 (x5 + (((rd_T63 x0 x6).f1).size : Int))) + (((rd_T63 x0 x6).f2).size : Int))) (wrap64 (x6 + 1))) else (none)) else (folkmootlaw08_small.j1 k x0 x1 x5)) else (folkmootlaw08_small.j1 k x0 x1 x5)
end
def folkmootlaw08_small.f (k : Nat) (l0 : List (S63)) (l1 : List (S61)) : Option (Bool) := folkmootlaw08_small.l0 k l0 l1 0 0
set_option maxHeartbeats 8000000 in
set_option maxRecDepth 100000 in
theorem folkmootlaw08_small.calls (k : Nat) (A0 : Option Addr) (c0 : Nat) (l0 : List (S63)) (A1 : Option Addr) (c1 : Nat) (l1 : List (S61)) (r : Bool) (w : World) (hr0 : Kd.C k63 w A0 l0.length l0) (hc0 : l0.length ≤ c0) (hr1 : Kd.C k61 w A1 l1.length l1) (hc1 : l1.length ≤ c1) (h : folkmootlaw08_small.f k l0 l1 = some r) :
  Calls Tryz.prog 13 #[.slice A0 l0.length c0, .slice A1 l1.length c1] w fun e w' => e = .returned (.bool r) ∧ Drawn0 w w' := by
 have HR0 := Aside0.mk hr0
 have HC0 := Aside0.mk hc0
 clear hr0 hc0
 have HR1 := Aside0.mk hr1
 have HC1 := Aside0.mk hc1
 clear hr1 hc1
 have H : (folkmootlaw08_small.l0 k l0 l1 0 0) = some r := h
 clear h
 have HC3 := Aside0.mk H
 clear H
 go_enter Tryz.func13, Tryz.ntmps13
 go_upto_block 0 with (fail)
 repeat (go_quiet (fail); go_upto_block 0 with (fail))
 go_cut [5] (fun v5 wc => ∃ (kq : Nat) (x5_2 : Int), v5 = .int .i64 x5_2 ∧ Aside0 (folkmootlaw08_small.j1 kq l0 l1 x5_2 = some r) ∧ Aside0 (kq ≤ k) ∧ Drawn0 w wc)
 case first =>
  have H := HC3.out
  clear HC3
  have H' := Aside0.mk H
  clear H
  go_wp2
  repeat (go_quiet (fail); try go_wp2)
  go_loopg [5, 6] k (fun kq v5 v6 w' => ∃ (x5_1 : Int) (x6_1 : Int), v5 = .int .i64 x5_1 ∧ v6 = .int .i64 x6_1 ∧ Aside0 (folkmootlaw08_small.l0 kq l0 l1 x5_1 x6_1 = some r) ∧ Aside0 (kq ≤ k) ∧ Drawn0 w w')
  case atStart => exact ⟨(0), (0), (by first | rfl | (rw [bl_gt] <;> rfl) | (simp; done) | (simp [*]; done)), (by first | rfl | (rw [bl_gt] <;> rfl) | (simp; done) | (simp [*]; done)), H', ⟨Nat.le_refl _⟩, by repeat (first | exact Drawn0.refl _ | apply Drawn0.step)⟩
  case round =>
   clear H'
   try clear c1
   try clear p2
   obtain ⟨x5_1, x6_1, rfl, rfl, HA, HK1, ⟨m1, rfl⟩⟩ := hrel
   cases gk with
   | zero => exact absurd HA.out (by simp [folkmootlaw08_small.l0])
   | succ k1 =>
    have H := HA.out
    clear HA
    simp only [folkmootlaw08_small.l0] at H
    by_cases c4 : x6_1 < (l0.length : Int)
    ·rw [if_pos c4] at H
     have c4b0 : decide (x6_1 < (l0.length : Int)) = true := decide_eq_true c4
     clear c4
     (first | rw [c4b0] | (simp only [i64_w, i32_w]; rw [c4b0]) | skip)
     by_cases c5 : x6_1 ≤ 60
     ·rw [if_pos c5] at H
      have c5b0 : decide (x6_1 ≤ 60) = true := decide_eq_true c5
      clear c5
      by_cases c6 : 0 ≤ x6_1
      ·rw [if_pos c6] at H
       have c6b0 : decide (0 ≤ x6_1) = true := decide_eq_true c6
       clear c6
       have H' := Aside0.mk H
       clear H
       have p111 : 0 ≤ (x6_1 : Int) := of_decide_eq_true (by first | (with_reducible assumption) | assumption)
       have q111 : x6_1 < (l0.length : Int) := of_decide_eq_true (by first | (with_reducible assumption) | assumption)
       obtain ⟨ad111, e111, hx111_0, hx111_1, hx111_2, hx111_3⟩ := at_T63 HR0.out x6_1 p111 q111
       cases e111
       replace p111 := eq_true p111
       replace q111 := eq_true q111
       have p112 : 0 ≤ (x6_1 : Int) := of_decide_eq_true (by first | (with_reducible assumption) | assumption)
       have q112 : x6_1 < (l0.length : Int) := of_decide_eq_true (by first | (with_reducible assumption) | assumption)
       obtain ⟨ad112, e112, hx112_0, hx112_1, hx112_2, hx112_3⟩ := at_T63 HR0.out x6_1 p112 q112
       obtain rfl : ad111 = ad112 := (by injection e112)
       replace p112 := eq_true p112
       replace q112 := eq_true q112
       go_wp2
       repeat (go_quiet (fail); try go_wp2)
       go_roundg k1
       case measure => have := HK1.out; omega
       case rel => exact ⟨(wrap64 ((wrap64 (x5_1 + (((rd_T63 l0 x6_1).f1).size : Int))) + (((rd_T63 l0 x6_1).f2).size : Int))), (wrap64 (x6_1 + 1)), (by first | rfl | (rw [bl_gt] <;> rfl) | (simp; done) | (simp [*]; done)), (by first | rfl | (rw [bl_gt] <;> rfl) | (simp; done) | (simp [*]; done)), H', ⟨by have := HK1.out; omega⟩, by repeat (first | exact Drawn0.refl _ | apply Drawn0.step)⟩
      ·rw [if_neg c6] at H
       exact absurd H (by simp)
     ·rw [if_neg c5] at H
      have c5b0 : decide (x6_1 ≤ 60) = false := decide_eq_false c5
      clear c5
      have H' := Aside0.mk H
      clear H
      go_wp2
      repeat (go_quiet (fail); try go_wp2)
      go_meet
      case rel => exact ⟨_, (x5_1), (by first | rfl | (rw [bl_gt] <;> rfl) | (simp; done) | (simp [*]; done)), H', ⟨by have := HK1.out; first | omega | exact Nat.le_refl _⟩, by repeat (first | exact Drawn0.refl _ | apply Drawn0.step)⟩
    ·rw [if_neg c4] at H
     have c4b0 : decide (x6_1 < (l0.length : Int)) = false := decide_eq_false c4
     clear c4
     (first | rw [c4b0] | (simp only [i64_w, i32_w]; rw [c4b0]) | skip)
     have H' := Aside0.mk H
     clear H
     go_wp2
     repeat (go_quiet (fail); try go_wp2)
     go_meet
     case rel => exact ⟨_, (x5_1), (by first | rfl | (rw [bl_gt] <;> rfl) | (simp; done) | (simp [*]; done)), H', ⟨by have := HK1.out; first | omega | exact Nat.le_refl _⟩, by repeat (first | exact Drawn0.refl _ | apply Drawn0.step)⟩
 case rest =>
  clear HC3
  try clear c1
  try clear p1
  try clear q1
  try clear hx1
  try clear p2
  try clear c4
  try clear c4b0
  try clear c5
  try clear c5b0
  try clear c6
  try clear c6b0
  try clear p6
  try clear hx111_0
  try clear hx111_1
  try clear hx111_2
  try clear hx111_3
  try clear hx112_0
  try clear hx112_1
  try clear hx112_2
  try clear hx112_3
  try clear p111
  try clear p112
  try clear p2
  try clear q111
  try clear q112
  obtain ⟨kq, x5_2, rfl, HA, HJ2, ⟨mc2, rfl⟩⟩ := hcut
  cases kq with
  | zero => exact absurd HA.out (by simp [folkmootlaw08_small.j1])
  | succ kj2 =>
   have H := HA.out
   clear HA
   simp only [folkmootlaw08_small.j1] at H
   have H' := Aside0.mk H
   clear H
   go_wp2
   repeat (go_quiet (fail); try go_wp2)
   go_loopg [5, 7] kj2 (fun kq v5 v7 w' => ∃ (x5_2 : Int) (x7_2 : Int), v5 = .int .i64 x5_2 ∧ v7 = .int .i64 x7_2 ∧ Aside0 (folkmootlaw08_small.l1 kq l0 l1 x5_2 x7_2 = some r) ∧ Aside0 (kq ≤ kj2) ∧ Drawn0 w w')
   case atStart => exact ⟨(x5_2), (0), (by first | rfl | (rw [bl_gt] <;> rfl) | (simp; done) | (simp [*]; done)), (by first | rfl | (rw [bl_gt] <;> rfl) | (simp; done) | (simp [*]; done)), H', ⟨Nat.le_refl _⟩, by repeat (first | exact Drawn0.refl _ | apply Drawn0.step)⟩
   case round =>
    clear H'
    try clear c1
    try clear p1
    try clear q1
    try clear hx1
    try clear c2
    try clear p2
    try clear c4
    try clear c4b0
    try clear c5
    try clear c5b0
    try clear c6
    try clear c6b0
    try clear p6
    try clear hx111_0
    try clear hx111_1
    try clear hx111_2
    try clear hx111_3
    try clear hx112_0
    try clear hx112_1
    try clear hx112_2
    try clear hx112_3
    try clear p1
    try clear p111
    try clear p112
    try clear p2
    try clear p6
    try clear q1
    try clear q111
    try clear q112
    obtain ⟨x5_2, x7_2, rfl, rfl, HA, HK2, ⟨m2, rfl⟩⟩ := hrel
    cases gk with
    | zero => exact absurd HA.out (by simp [folkmootlaw08_small.l1])
    | succ k2 =>
     have H := HA.out
     clear HA
     simp only [folkmootlaw08_small.l1] at H
     by_cases c7 : x7_2 < (l1.length : Int)
     ·rw [if_pos c7] at H
      have c7b0 : decide (x7_2 < (l1.length : Int)) = true := decide_eq_true c7
      clear c7
      by_cases c8 : x7_2 ≤ 60
      ·rw [if_pos c8] at H
       have c8b0 : decide (x7_2 ≤ 60) = true := decide_eq_true c8
       clear c8
       by_cases c9 : 0 ≤ x7_2
       ·rw [if_pos c9] at H
        have c9b0 : decide (0 ≤ x7_2) = true := decide_eq_true c9
        clear c9
        have H' := Aside0.mk H
        clear H
        have p113 : 0 ≤ (x7_2 : Int) := of_decide_eq_true (by first | (with_reducible assumption) | assumption)
        have q113 : x7_2 < (l1.length : Int) := of_decide_eq_true (by first | (with_reducible assumption) | assumption)
        obtain ⟨ad113, e113, hx113_0, hx113_1⟩ := at_T61 HR1.out x7_2 p113 q113
        cases e113
        replace p113 := eq_true p113
        replace q113 := eq_true q113
        go_wp2
        repeat (go_quiet (fail); try go_wp2)
        go_roundg k2
        case measure => have := HJ2.out; have := HK2.out; omega
        case rel => exact ⟨(wrap64 (x5_2 + (((rd_T61 l1 x7_2).f0).size : Int))), (wrap64 (x7_2 + 1)), (by first | rfl | (rw [bl_gt] <;> rfl) | (simp; done) | (simp [*]; done)), (by first | rfl | (rw [bl_gt] <;> rfl) | (simp; done) | (simp [*]; done)), H', ⟨by have := HJ2.out; have := HK2.out; omega⟩, by repeat (first | exact Drawn0.refl _ | apply Drawn0.step)⟩
       ·rw [if_neg c9] at H
        exact absurd H (by simp)
      ·rw [if_neg c8] at H
       have c8b0 : decide (x7_2 ≤ 60) = false := decide_eq_false c8
       clear c8
       by_cases c10 : (l0.length : Int) ≤ 60
       ·rw [if_pos c10] at H
        have c10b0 : decide ((l0.length : Int) ≤ 60) = true := decide_eq_true c10
        have c10b1 : decide (l0.length ≤ 60) = true := decide_eq_true (by omega)
        clear c10
        by_cases c11 : (l1.length : Int) ≤ 60
        ·rw [if_pos c11] at H
         have c11b0 : decide ((l1.length : Int) ≤ 60) = true := decide_eq_true c11
         have c11b1 : decide (l1.length ≤ 60) = true := decide_eq_true (by omega)
         clear c11
         obtain rfl := Option.some.inj H
         go_wp2
         repeat (go_quiet (fail); try go_wp2)
         go_ret
         exact ⟨by first | rfl | (simp; done) | (simp [*]; done), by repeat (first | exact Drawn0.refl _ | apply Drawn0.step)⟩
        ·rw [if_neg c11] at H
         have c11b0 : decide ((l1.length : Int) ≤ 60) = false := decide_eq_false c11
         have c11b1 : decide (l1.length ≤ 60) = false := decide_eq_false (by omega)
         clear c11
         obtain rfl := Option.some.inj H
         go_wp2
         repeat (go_quiet (fail); try go_wp2)
         go_ret
         exact ⟨by first | rfl | (simp; done) | (simp [*]; done), by repeat (first | exact Drawn0.refl _ | apply Drawn0.step)⟩
       ·rw [if_neg c10] at H
        have c10b0 : decide ((l0.length : Int) ≤ 60) = false := decide_eq_false c10
        have c10b1 : decide (l0.length ≤ 60) = false := decide_eq_false (by omega)
        clear c10
        obtain rfl := Option.some.inj H
        go_wp2
        repeat (go_quiet (fail); try go_wp2)
        go_ret
        exact ⟨by first | rfl | (simp; done) | (simp [*]; done), by repeat (first | exact Drawn0.refl _ | apply Drawn0.step)⟩
     ·rw [if_neg c7] at H
      have c7b0 : decide (x7_2 < (l1.length : Int)) = false := decide_eq_false c7
      clear c7
      by_cases c12 : (l0.length : Int) ≤ 60
      ·rw [if_pos c12] at H
       have c12b0 : decide ((l0.length : Int) ≤ 60) = true := decide_eq_true c12
       have c12b1 : decide (l0.length ≤ 60) = true := decide_eq_true (by omega)
       clear c12
       by_cases c13 : (l1.length : Int) ≤ 60
       ·rw [if_pos c13] at H
        have c13b0 : decide ((l1.length : Int) ≤ 60) = true := decide_eq_true c13
        have c13b1 : decide (l1.length ≤ 60) = true := decide_eq_true (by omega)
        clear c13
        obtain rfl := Option.some.inj H
        go_wp2
        repeat (go_quiet (fail); try go_wp2)
        go_ret
        exact ⟨by first | rfl | (simp; done) | (simp [*]; done), by repeat (first | exact Drawn0.refl _ | apply Drawn0.step)⟩
       ·rw [if_neg c13] at H
        have c13b0 : decide ((l1.length : Int) ≤ 60) = false := decide_eq_false c13
        have c13b1 : decide (l1.length ≤ 60) = false := decide_eq_false (by omega)
        clear c13
        obtain rfl := Option.some.inj H
        go_wp2
        repeat (go_quiet (fail); try go_wp2)
        go_ret
        exact ⟨by first | rfl | (simp; done) | (simp [*]; done), by repeat (first | exact Drawn0.refl _ | apply Drawn0.step)⟩
      ·rw [if_neg c12] at H
       have c12b0 : decide ((l0.length : Int) ≤ 60) = false := decide_eq_false c12
       have c12b1 : decide (l0.length ≤ 60) = false := decide_eq_false (by omega)
       clear c12
       obtain rfl := Option.some.inj H
       go_wp2
       repeat (go_quiet (fail); try go_wp2)
       go_ret
       exact ⟨by first | rfl | (simp; done) | (simp [*]; done), by repeat (first | exact Drawn0.refl _ | apply Drawn0.step)⟩
end Go.Proofs.YtgmlenpcchhmbaaGreat.P
end
section
set_option linter.unusedVariables false
set_option linter.unusedSimpArgs false
namespace Go.Proofs.YtgmlenpcchhmbaaGreat.P
open Go.RowKit Go.Proofs.YtgmlenpcchhmbaaGreatW.PrintWords Go.Proofs.YtgmlenpcchhmbaaGreatW.PrintLast
theorem small_end (l : List S63) (d : List S61) (n : Int) : ∃ b, (if (l.length : Int) ≤ 60 then (if (d.length : Int) ≤ 60 then (some (decide (n ≤ 6000))) else (some false)) else (some false)) = some b ∧ (b = true → l.length ≤ 60 ∧ d.length ≤ 60) := by
  by_cases h1 : (l.length : Int) ≤ 60
  · by_cases h2 : (d.length : Int) ≤ 60
    · exact ⟨_, by rw [if_pos h1, if_pos h2], fun _ => ⟨by omega, by omega⟩⟩
    · exact ⟨false, by rw [if_pos h1, if_neg h2], fun h => by cases h⟩
  · exact ⟨false, by rw [if_neg h1], fun h => by cases h⟩
theorem small_l1 (l : List S63) (d : List S61) : ∀ (m i : Nat) (n : Int), i + m = 61 → ∃ b, Ev (fun k => folkmootlaw08_small.l1 k l d n (i : Int)) b ∧ (b = true → l.length ≤ 60 ∧ d.length ≤ 60)
  | 0, i, n, h => by
    obtain ⟨b, e, hb⟩ := small_end l d n
    refine ⟨b, Ev.succ ?_, hb⟩
    simp only [folkmootlaw08_small.l1]
    exact Ev.cond (fun _ => Ev.no (by omega) (Ev.of _ fun _ => e)) (fun _ => Ev.of _ fun _ => e)
  | m + 1, i, n, h => by
    by_cases hl : (i : Int) < (d.length : Int)
    · obtain ⟨b, e, hb⟩ := small_l1 l d m (i + 1) (wrap64 (n + (((rd_T61 d (i : Int)).f0).size : Int))) (by omega)
      refine ⟨b, Ev.succ ?_, hb⟩
      simp only [folkmootlaw08_small.l1]
      rw [w64_succ (by omega)]
      exact Ev.yes hl (Ev.yes (by omega) (Ev.yes (by omega) e))
    · obtain ⟨b, e, hb⟩ := small_end l d n
      refine ⟨b, Ev.succ ?_, hb⟩
      simp only [folkmootlaw08_small.l1]
      exact Ev.no hl (Ev.of _ fun _ => e)
theorem small_j1 (l : List S63) (d : List S61) (n : Int) : ∃ b, Ev (fun k => folkmootlaw08_small.j1 k l d n) b ∧ (b = true → l.length ≤ 60 ∧ d.length ≤ 60) := by
  obtain ⟨b, e, hb⟩ := small_l1 l d 61 0 n rfl
  refine ⟨b, Ev.succ ?_, hb⟩
  simp only [folkmootlaw08_small.j1]
  exact e
theorem small_l0 (l : List S63) (d : List S61) : ∀ (m i : Nat) (n : Int), i + m = 61 → ∃ b, Ev (fun k => folkmootlaw08_small.l0 k l d n (i : Int)) b ∧ (b = true → l.length ≤ 60 ∧ d.length ≤ 60)
  | 0, i, n, h => by
    obtain ⟨b, e, hb⟩ := small_j1 l d n
    refine ⟨b, Ev.succ ?_, hb⟩
    simp only [folkmootlaw08_small.l0]
    exact Ev.cond (fun _ => Ev.no (by omega) e) (fun _ => e)
  | m + 1, i, n, h => by
    by_cases hl : (i : Int) < (l.length : Int)
    · obtain ⟨b, e, hb⟩ := small_l0 l d m (i + 1) (wrap64 ((wrap64 (n + (((rd_T63 l (i : Int)).f1).size : Int))) + (((rd_T63 l (i : Int)).f2).size : Int))) (by omega)
      refine ⟨b, Ev.succ ?_, hb⟩
      simp only [folkmootlaw08_small.l0]
      rw [w64_succ (by omega)]
      exact Ev.yes hl (Ev.yes (by omega) (Ev.yes (by omega) e))
    · obtain ⟨b, e, hb⟩ := small_j1 l d n
      refine ⟨b, Ev.succ ?_, hb⟩
      simp only [folkmootlaw08_small.l0]
      exact Ev.no hl e
theorem ev_small (l : List S63) (d : List S61) : ∃ b, Ev (fun k => folkmootlaw08_small.f k l d) b ∧ (b = true → l.length ≤ 60 ∧ d.length ≤ 60) := small_l0 l d 61 0 0 rfl
def pairT (p : S61) : Prop := 1 ≤ p.f0.size ∧ p.f0.size ≤ 16 ∧ rightN p.f1 = p.f1
def dataT (d : List S61) : Prop := SortK (d.map toA) ∧ ∀ p ∈ d, pairT p
end Go.Proofs.YtgmlenpcchhmbaaGreat.P
end
