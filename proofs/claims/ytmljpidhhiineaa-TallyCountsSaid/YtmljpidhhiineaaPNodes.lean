/- topo.Nodes. -/
import Derived.Test.YtmljpidhhiineaaPRow
import Derived.Laws.Rows
namespace Go.Proofs.Ytmljpidhhiineaa.P
open Go.RowKit Go.Proofs.YtmljpidhhiineaaW.PrintWords Go.Proofs.YtmljpidhhiineaaW.PrintLast
def arrB (h : Nat → Bool) : Array Value := #[.bool (h 0), .bool (h 1), .bool (h 2), .bool (h 3), .bool (h 4), .bool (h 5), .bool (h 6), .bool (h 7)]
theorem lt8 {n : Nat} (h : n < 8) : n = 0 ∨ n = 1 ∨ n = 2 ∨ n = 3 ∨ n = 4 ∨ n = 5 ∨ n = 6 ∨ n = 7 := by omega
theorem arrB_congr {f g : Nat → Bool} (h : ∀ n, n < 8 → f n = g n) : arrB f = arrB g := by
  unfold arrB
  rw [h 0 (by omega), h 1 (by omega), h 2 (by omega), h 3 (by omega), h 4 (by omega), h 5 (by omega), h 6 (by omega), h 7 (by omega)]
theorem arrB_set (h : Nat → Bool) {n : Nat} (hn : n < 8) : (arrB h).setIfInBounds n (.bool true) = arrB (fun m => decide (m = n) || h m) := by
  rcases lt8 hn with rfl | rfl | rfl | rfl | rfl | rfl | rfl | rfl <;> simp [arrB]
theorem arrB_at (h : Nat → Bool) {n : Nat} (hn : n < 8) : (arrB h)[n]? = some (.bool (h n)) := by
  rcases lt8 hn with rfl | rfl | rfl | rfl | rfl | rfl | rfl | rfl <;> rfl
/-- is n a node of one of the first k shards named? -/
def shB (l : List S40) (n : Nat) (i : Int) : Bool := decide (0 ≤ i) && decide (i < l.length) && (Go.Proofs.Ytmljpidhhiineaa.P.rd_T40 l i).f1.contains (n : Int)
def hasN (l : List S40) (sh : List Int) (n : Nat) : Bool := decide (0 < n) && sh.any (shB l n)
def nodesP (l : List S40) (sh : List Int) : List Int := ((List.range 8).filter (hasN l sh)).map (fun n : Nat => (n : Int))
def NodeAt (w : World) (ab : Nat) (h : Nat → Bool) (wr : World) : Prop := Blk wr ab 60 (arrB h) ∧ Below w.heap.size w wr
theorem NodeAt.cell {w wr : World} {ab : Nat} {h : Nat → Bool} (hN : NodeAt w ab h wr) {n : Nat} (hn : n < 8) : wr.cell? ⟨ab, n, none⟩ = some (.bool (h n)) := (hN.1.cell n).trans (arrB_at h hn)
theorem NodeAt.set_ {w wr : World} {ab : Nat} {h : Nat → Bool} (hN : NodeAt w ab h wr) (hw : w.heap.size ≤ ab) {n : Nat} (hn : n < 8) : NodeAt w ab (fun m => decide (m = n) || h m) (wr.setCell ⟨ab, n, none⟩ (.bool true)) :=
  ⟨by rw [← arrB_set h hn]; exact hN.1.set_ n _, hN.2.setCell (p := ⟨ab, n, none⟩) hw _⟩
theorem NodeAt.congr {w wr : World} {ab : Nat} {f g : Nat → Bool} (hN : NodeAt w ab f wr) (h : ∀ n, n < 8 → f n = g n) : NodeAt w ab g wr := ⟨by rw [← arrB_congr h]; exact hN.1, hN.2⟩
theorem hasN_snoc (l : List S40) (sh : List Int) (i : Int) (n : Nat) : hasN l (sh ++ [i]) n = (hasN l sh n || (decide (0 < n) && shB l n i)) := by
  unfold hasN
  rw [List.any_append, List.any_cons, List.any_nil, Bool.or_false]
  cases decide (0 < n) <;> simp
theorem take_snocI {α : Type} (xs : List α) {k : Nat} (h : k < xs.length) : xs.take (k + 1) = xs.take k ++ [xs[k]] := List.take_succ_eq_append_getElem h
def N1 (w : World) (l : List S40) (sh : List Int) (kv : Value) (wr : World) : Prop := ∃ k : Nat, kv = .int .i64 k ∧ k ≤ sh.length ∧ NodeAt w w.heap.size (hasN l (sh.take k)) wr
def N2 (w : World) (l : List S40) (sh : List Int) (ns : List Int) (k : Nat) (jv : Value) (wr : World) : Prop := ∃ j : Nat, jv = .int .i64 j ∧ j ≤ ns.length ∧ NodeAt w w.heap.size (fun n => hasN l (sh.take k) n || (decide (0 < n) && (ns.take j).contains (n : Int))) wr
def N3 (w : World) (h : Nat → Bool) (ov kv : Value) (wr : World) : Prop := ∃ k : Nat, kv = .int .i64 k ∧ k ≤ 8 ∧ wr.ownsRow w.heap.size 3 1 ov (((List.range k).filter h).map (fun n : Nat => (n : Int))).length (nums .i64 (((List.range k).filter h).map (fun n : Nat => (n : Int)))) ∧ Below w.heap.size w wr
theorem index8 (h : Nat → Bool) {k : Nat} (hk : k < 8) (w : World) : (Instr.index 60 (.agg (arrB h)) (.int .i64 (k : Int))).run Try.prog w = .ok (.bool (h k)) w := by
  rcases lt8 hk with rfl | rfl | rfl | rfl | rfl | rfl | rfl | rfl <;> kernel_rfl
theorem nodes_len (k : Nat) (h : Nat → Bool) : (((List.range k).filter h).map (fun n : Nat => (n : Int))).length ≤ k := by
  rw [List.length_map]
  exact Nat.le_trans (List.length_filter_le _ _) (by simp)
set_option maxHeartbeats 4000000 in
theorem topoNodes_any (A : Option Addr) (c : Nat) (l : List S40) (B : Option Addr) (d : Nat) (sh : List Int) (w : World) (hr : Kd.C k40 w A l.length l) (hs : Kd.C (Kd.int .i64) w B sh.length sh) :
    Calls Try.prog 31 #[.slice A l.length c, .slice B sh.length d] w fun e w' => ∃ v, e = .returned v ∧ w'.ownsRow w.heap.size 3 1 v (nodesP l sh).length (nums .i64 (nodesP l sh)) ∧ Below w.heap.size w w' := by
  have hm1 := hr.2.1
  have hm2 := hs.2.1
  have HR := Lib.hid hr; clear hr
  have HS := Lib.hid hs; clear hs
  go_enter Try.func31, Try.ntmps31
  go_wp2
  go_loopw [7, 14] (fun _ kv wr => N1 w l sh kv wr) (fun _ k _ => sh.length - (intOf k).toNat)
  case atStart => exact ⟨0, rfl, Nat.zero_le _, ⟨Blk.new w 60 (arrB (hasN l [])), (Below.refl _ _).alloc (Nat.le_refl _) _⟩⟩
  case round =>
    obtain ⟨k, rfl, hk, hN⟩ := hrel
    by_cases hlt : k < sh.length
    · obtain ⟨ad, rfl, hcell⟩ := Kd.at_int HS.out (k : Int) (by omega) (by omega)
      have hcell2 := pw_cell_below hN.2 hcell
      rw [rd_nat sh hlt] at hcell2
      simp only [Int.toNat_natCast] at hcell2
      clear hcell
      have hsn := take_snocI sh hlt
      generalize hu : sh[k] = u at *
      clear hu
      have HSN := Lib.hid hsn; clear hsn
      by_cases hv : 0 ≤ u ∧ u < l.length
      · obtain ⟨hv0, hv1⟩ := hv
        obtain ⟨ae, A2, c2, rfl, hx0, hx1, hx2, hl2, hi2⟩ := at_T40 HR.out u hv0 hv1
        have hx2' := pw_cell_below hN.2 hx2
        clear hx0 hx1 hx2
        have hi3 := hi2.2.1
        have HI := Lib.hid hi2; clear hi2
        have hshB : ∀ n : Nat, shB l n u = (Go.Proofs.Ytmljpidhhiineaa.P.rd_T40 l u).f1.contains (n : Int) := fun n => by simp [shB, hv0, hv1]
        have HSB := Lib.hid hshB; clear hshB
        generalize hns : (Go.Proofs.Ytmljpidhhiineaa.P.rd_T40 l u).f1 = ns at *
        clear hns
        go_wp2
        go_loopw [9, 32] (fun _ jv w2 => N2 w l sh ns k jv w2) (fun _ j _ => ns.length - (intOf j).toNat)
        case atStart => exact ⟨0, rfl, Nat.zero_le _, hN.congr (fun n _ => by simp)⟩
        case round =>
          obtain ⟨j, rfl, hj, hN2⟩ := hrel
          by_cases hjl : j < ns.length
          · obtain ⟨ab, rfl, hcj⟩ := Kd.at_int HI.out (j : Int) (by omega) (by omega)
            have hcj2 := pw_cell_below hN2.2 hcj
            rw [rd_nat ns hjl] at hcj2
            simp only [Int.toNat_natCast] at hcj2
            clear hcj
            have hsj := take_snocI ns hjl
            generalize hq : ns[j] = q at *
            clear hq
            have HSJ := Lib.hid hsj; clear hsj
            by_cases hq1 : 0 < q ∧ q < 8
            · obtain ⟨hq0, hq8⟩ := hq1
              obtain ⟨m, rfl⟩ := Int.eq_ofNat_of_zero_le (Int.le_of_lt hq0)
              have hm8 : m < 8 := by omega
              have hcell8 := hN2.cell hm8
              have hfz8 := hN2.1.frozen m
              generalize (fun n => hasN l (sh.take k) n || (decide (0 < n) && (ns.take j).contains (n : Int))) m = old at hcell8
              go_wp2
              go_roundw
              case rel => exact ⟨j + 1, by go_num, by omega, (hN2.set_ (Nat.le_refl _) hm8).congr (fun n hn => by
                rw [HSJ.out]
                by_cases e : n = m
                · subst e
                  have : 0 < n := by omega
                  simp [this]
                · have e2 : (n : Int) ≠ (m : Int) := by omega
                  simp [e, List.contains_eq_mem, e2])⟩
              case measure => simp [intOf]; omega
            · have hskip : NodeAt w w.heap.size (fun n => hasN l (sh.take k) n || (decide (0 < n) && (ns.take (j + 1)).contains (n : Int))) wr := hN2.congr (fun n hn => by
                rw [HSJ.out]
                by_cases h0 : 0 < n
                · have e2 : (n : Int) ≠ q := by omega
                  simp [List.contains_eq_mem, e2]
                · simp [h0])
              have HSK := Lib.hid hskip; clear hskip
              by_cases hq0 : 0 < q
              · have hq8 : ¬ q < 8 := by omega
                clear hq1
                go_wp2
                go_roundw
                case rel => exact ⟨j + 1, by go_num, by omega, HSK.out⟩
                case measure => simp [intOf]; omega
              · clear hq1
                go_wp2
                go_roundw
                case rel => exact ⟨j + 1, by go_num, by omega, HSK.out⟩
                case measure => simp [intOf]; omega
          · obtain rfl : j = ns.length := by omega
            go_wp2
            go_roundw
            case rel => exact ⟨k + 1, by go_num, by omega, hN2.congr (fun n hn => by rw [HSN.out, hasN_snoc, HSB.out, List.take_length])⟩
            case measure => simp [intOf]; omega
      · have hskip : NodeAt w w.heap.size (hasN l (sh.take (k + 1))) wr := hN.congr (fun n hn => by
          have e : shB l n u = false := by
            unfold shB
            by_cases h0 : 0 ≤ u
            · have : ¬ u < l.length := fun h => hv ⟨h0, h⟩
              simp [this]
            · simp [h0]
          rw [HSN.out, hasN_snoc, e]
          simp)
        have HSK := Lib.hid hskip; clear hskip
        by_cases hv0 : 0 ≤ u
        · have hv1 : ¬ u < l.length := fun h => hv ⟨hv0, h⟩
          clear hv
          go_wp2
          go_roundw
          case rel => exact ⟨k + 1, by go_num, by omega, HSK.out⟩
          case measure => simp [intOf]; omega
        · clear hv
          go_wp2
          go_roundw
          case rel => exact ⟨k + 1, by go_num, by omega, HSK.out⟩
          case measure => simp [intOf]; omega
    · obtain rfl : k = sh.length := by omega
      rw [List.take_length] at hN
      obtain ⟨hBk, hBl⟩ := hN
      have HNP : RowKit.Hid (nodesP l sh = ((List.range 8).filter (hasN l sh)).map (fun n : Nat => (n : Int))) := Lib.hid rfl
      generalize hasN l sh = h at *
      have e0 : wr.cell? ⟨w.heap.size, 0, none⟩ = some (.bool (h 0)) := hBk.cell 0
      have e1 : wr.cell? ⟨w.heap.size, 1, none⟩ = some (.bool (h 1)) := hBk.cell 1
      have e2 : wr.cell? ⟨w.heap.size, 2, none⟩ = some (.bool (h 2)) := hBk.cell 2
      have e3 : wr.cell? ⟨w.heap.size, 3, none⟩ = some (.bool (h 3)) := hBk.cell 3
      have e4 : wr.cell? ⟨w.heap.size, 4, none⟩ = some (.bool (h 4)) := hBk.cell 4
      have e5 : wr.cell? ⟨w.heap.size, 5, none⟩ = some (.bool (h 5)) := hBk.cell 5
      have e6 : wr.cell? ⟨w.heap.size, 6, none⟩ = some (.bool (h 6)) := hBk.cell 6
      have e7 : wr.cell? ⟨w.heap.size, 7, none⟩ = some (.bool (h 7)) := hBk.cell 7
      have HB := Lib.hid hBk; clear hBk
      go_wp2
      clear e0 e1 e2 e3 e4 e5 e6 e7
      go_loopw [4, 47] (fun ov kv w2 => N3 w h ov kv w2) (fun _ k _ => 8 - (intOf k).toNat)
      case atStart => exact ⟨0, rfl, by omega, own_nil _ _ _ _, hBl⟩
      case round =>
        obtain ⟨k, rfl, hk, hO, hB3⟩ := hrel
        by_cases hk8 : k < 8
        · have hix := index8 h hk8
          unfold arrB at hix
          have hle := nodes_len k h
          have hsn : ((List.range (k + 1)).filter h).map (fun n : Nat => (n : Int)) = ((List.range k).filter h).map (fun n : Nat => (n : Int)) ++ (if h k then [(k : Int)] else []) := by
            rw [List.range_succ, List.filter_append, List.map_append]
            congr 1
            by_cases e : h k <;> simp [e]
          have HSN := Lib.hid hsn; clear hsn
          generalize hL : ((List.range k).filter h).map (fun n : Nat => (n : Int)) = L at *
          clear hL
          cases hq : h k with
          | true =>
            rw [hq] at hix
            have HQ := Lib.hid hq; clear hq
            go_wp2_with (at_builtin; refine print_append_num (w0 := w) w.heap.size rfl (.tmp 52) (.tmp 54) 23 3 .i64 8 rfl Try.underlying23 rowInfo (by decide) _ L (k : Int) rfl rfl hO hB3 hB3.size (by omega) ?_; intro v1 w1 ho hbl _ _)
            go_roundw
            case rel => exact ⟨k + 1, by go_num, by omega, by rw [HSN.out, HQ.out]; exact ho, hbl⟩
            case measure => simp [intOf]; omega
          | false =>
            rw [hq] at hix
            have HQ := Lib.hid hq; clear hq
            go_wp2
            go_roundw
            case rel => exact ⟨k + 1, by go_num, by omega, by rw [HSN.out, HQ.out]; simpa using hO, hB3⟩
            case measure => simp [intOf]; omega
        · obtain rfl : k = 8 := by omega
          go_wp2
          go_ret
          exact ⟨_, rfl, by rw [HNP.out]; exact hO, hB3⟩
end Go.Proofs.Ytmljpidhhiineaa.P
