/- Bytes added part by part are as added at once: the walk of the statement. -/
import Derived.Test.YtnimghkkhiacfaaDTwo
import Derived.Test.YtnimghkkhiacfaaDSafe
namespace Go.Proofs.Ytnimghkkhiacfaa.P
open Go.RowKit Go.Proofs.YtnimghkkhiacfaaW.PrintWords Go.Proofs.YtnimghkkhiacfaaW.PrintLast Go.Proofs.YtnimghkkhiacfaaW.PrintMore
theorem whole_l0 (l : List (List Int)) (hl : l.flatten.length < 140737488355328) (hlen : l.length ≤ 1000000) : ∀ (d i : Nat), i + d = l.length → ∀ k, d < k → folkmootlaw14_whole.l0 k l (l.take i).flatten (i : Int) = some l.flatten := by
  intro d
  induction d with
  | zero =>
    intro i hi k hk
    obtain ⟨k, rfl⟩ : ∃ m, k = m + 1 := ⟨k - 1, by omega⟩
    unfold folkmootlaw14_whole.l0
    rw [if_neg (by omega), List.take_of_length_le (by omega)]
  | succ d ih =>
    intro i hi k hk
    obtain ⟨k, rfl⟩ : ∃ m, k = m + 1 := ⟨k - 1, by omega⟩
    have hlt : i < l.length := by omega
    have e1 : rd_L1 l (i : Int) = l[i] := rdB_nat l hlt
    have hfs := flat_snoc l hlt
    have hfl := flat_le l (i + 1)
    rw [hfs, List.length_append] at hfl
    unfold folkmootlaw14_whole.l0
    rw [if_pos (by omega), if_pos (by omega), e1, if_pos (by omega), ← hfs, w64 (by omega) (by omega)]
    exact ih (i + 1) (by omega) k (by omega)
theorem whole_any (A : Option Addr) (c : Nat) (l : List (List Int)) (w : World) (hC : Kd.C kBs w A l.length l) (hc : l.length ≤ c) (hl : l.flatten.length < 140737488355328) (hlen : l.length ≤ 1000000) :
    Calls Try.prog 22 #[.slice A l.length c] w fun e w' => ∃ v, e = .returned v ∧ RowB w' w.heap.size v l.flatten ∧ Below w.heap.size w w' := by
  refine (folkmootlaw14_whole.calls (l.length + 1) A c l l.flatten w hC hc (whole_l0 l hl hlen l.length 0 (by omega) _ (by omega))).mono ?_
  rintro e w' ⟨v, rfl, hR, hb⟩
  exact ⟨v, rfl, Kd.own_of_R hR, hb⟩
def partF (file : Int) (l : List (List Int)) (k : Nat) : Files := if k = 0 then fun _ => none else oneF' file [] (l.take k).flatten
theorem partF_step (file : Int) (l : List (List Int)) {k : Nat} (hk : k < l.length) : upF (partF file l k) file (some ((getF (partF file l k) file).1, (getF (partF file l k) file).2 ++ [l[k]].flatten)) = partF file l (k + 1) := by
  unfold partF
  rw [if_neg (Nat.succ_ne_zero k), flat_snoc l hk]
  by_cases h : k = 0
  · subst h
    rw [if_pos rfl]
    simp [getF, oneF']
  · rw [if_neg h, getF_one, upF_upF]
    simp
theorem partF_sum {file : Int} (h1 : 1 ≤ file ∧ file ≤ 1000) (l : List (List Int)) (k : Nat) : sumF (partF file l k) = (l.take k).flatten.length := by
  unfold partF
  by_cases h : k = 0
  · subst h
    rw [if_pos rfl, sumF_none]; rfl
  · rw [if_neg h, sumF_one (by omega) (by omega)]; simp
theorem partF_all {file : Int} {l : List (List Int)} (h : l.length ≠ 0) : partF file l l.length = oneF' file [] l.flatten := by
  unfold partF
  rw [if_neg h, List.take_length]
def PartA (l : List (List Int)) (w : World) (nv iv : Value) (wr : World) : Prop := ∃ k : Nat, nv = .int .i64 (l.take k).flatten.length ∧ iv = .int .i64 k ∧ k ≤ l.length ∧ k ≤ 61 ∧ wr = w
def PartB (file : Int) (l : List (List Int)) (w : World) (ga ma gb mb N : Nat) (iv : Value) (wr : World) : Prop := ∃ k : Nat, iv = .int .i64 k ∧ k ≤ l.length ∧ TwoD w wr ga ma (oneF' file [] l.flatten) N (-1) false 1 gb mb (partF file l k) N (-1) false k
theorem flat_cap {l : List (List Int)} {B : Nat} (h : ∀ xs ∈ l, xs.length ≤ B) : ∀ k, (l.take k).flatten.length ≤ k * B := by
  intro k
  induction k with
  | zero => simp
  | succ k ih =>
    by_cases hk : k < l.length
    · rw [flat_snoc l hk, List.length_append]
      have := h l[k] (List.getElem_mem hk)
      rw [Nat.succ_mul]
      omega
    · rw [List.take_of_length_le (by omega)] at ih ⊢
      rw [Nat.succ_mul]
      omega
theorem sum_of_part {l : List (List Int)} {k : Nat} (h : l.flatten.length ≤ 20000) : (l.take k).flatten.length ≤ 20000 := Nat.le_trans (flat_le l k) h
theorem ss_step {W W' : World} {base bx by_ : Nat} {Ax Ay : Option Addr} {cx cy : Nat} {Q : List Int} (hx : base ≤ bx) (hy : base ≤ by_)
    (h : RowB W bx (.slice Ax Q.length cx) Q ∧ RowB W by_ (.slice Ay Q.length cy) Q ∧ (convert 22 9 (.slice Ax Q.length cx)).run Try.prog W = .ok (.string (strOfNums Q)) W ∧ (convert 22 9 (.slice Ay Q.length cy)).run Try.prog W = .ok (.string (strOfNums Q)) W) (hu : Upd W W' (fun k => k < base)) :
    RowB W' bx (.slice Ax Q.length cx) Q ∧ RowB W' by_ (.slice Ay Q.length cy) Q ∧ (convert 22 9 (.slice Ax Q.length cx)).run Try.prog W' = .ok (.string (strOfNums Q)) W' ∧ (convert 22 9 (.slice Ay Q.length cy)).run Try.prog W' = .ok (.string (strOfNums Q)) W' := by
  have h1 := h.1.upd hu (fun k hk hlt => by have := (h.1.ge k hk).1; omega)
  have h2 := h.2.1.upd hu (fun k hk hlt => by have := (h.2.1.ge k hk).1; omega)
  exact ⟨h1, h2, h1.str, h2.str⟩
theorem TwoD.append_fullU {w W W1 : World} {ga ma gb mb : Nat} {Fa Fb : Files} {ra rb : Nat} {la lb pa pb : Int} {db : Bool} (h : TwoD w W ga ma Fa ra la false pa gb mb Fb rb lb db pb) (hb : Below W.heap.size W W1) {n : Int} (hn : 1 ≤ n ∧ n ≤ 1000) (hl : la ≠ 0) (hl2 : -9223372036854775808 ≤ la) (hl3 : la ≤ 9223372036854775807) (ho1 : 0 ≤ pa) (ho2 : pa ≤ 1000000000) {A : Option Addr} {c : Nat} {l : List (List Int)} {ok : Nat → Prop}
    (hF : Kd.F kBs W1 ok A l.length l) (hok : ∀ k, ok k → k < w.heap.size ∨ W.heap.size ≤ k) (hm : l.flatten.length ≤ 1099511627776) (hf : ra < sumF Fa + l.flatten.length) :
    Calls Try.prog 11 #[dptr ga, .int .i64 n, .slice A l.length c] W1 fun e w' => e = .returned (.int .i64 5) ∧ TwoD w w' ga ma Fa ra (decL la) false pa gb mb Fb rb lb db pb ∧ Upd W1 w' (fun k => k < W.heap.size) := by
  obtain ⟨oa, ob, h1, h2, h3⟩ := h
  refine (drAppend_full (h2.below hb) hn hl hl2 hl3 ho1 ho2 (Dr.arg h2 h1.fa hF hok) hm hf).mono ?_
  rintro e w' ⟨he, hd⟩
  refine ⟨he, TwoD.did ⟨h1.below.trans (hb.mono h1.below.size), h1.fa, h1.fb, h1.ab⟩ (h3.below hb) hd, ?_⟩
  obtain ⟨o', _, _, hu⟩ := hd
  exact hu.mono fun k _ hm => Nat.lt_of_not_le fun hle => h2.fresh hle hm
set_option maxHeartbeats 8000000 in
set_option maxRecDepth 100000 in
theorem drumParts_any (A : Option Addr) (c : Nat) (l : List (List Int)) (file : Int) (w : World) (hC : Kd.C kBs w A l.length l) (hc : l.length ≤ c) (hlm : l.length ≤ 140737488355328) (hxs : ∀ xs ∈ l, xs.length ≤ 140737488355328) :
    Calls Try.prog 7 #[.slice A l.length c, .int .i64 file] w fun e w' => e = .returned (.bool true) ∧ Below w.heap.size w w' := by
  have HC := Lib.hid hC; clear hC
  have HCAP := Lib.hid (flat_cap hxs); clear hxs
  by_cases h60 : l.length ≤ 60
  · have hsum := HCAP.out l.length
    rw [List.take_length] at hsum
    have hle := flat_le l
    obtain ⟨Q, hQ⟩ : ∃ Q, l.flatten = Q := ⟨_, rfl⟩
    rw [hQ] at hsum hle
    have HLE := Lib.hid hle; clear hle
    have HQ := Lib.hid hQ; clear hQ
    have hcap : Q.length ≤ 8444249301319680 := by omega
    clear hsum
    go_enter Try.func7, Try.ntmps7
    go_wp2
    go_loopw [5, 6] (fun nv iv wr => PartA l w nv iv wr) (fun _ i _ => l.length - (intOf i).toNat)
    case atStart => exact ⟨0, rfl, rfl, Nat.zero_le _, Nat.zero_le _, rfl⟩
    case round =>
      obtain ⟨k, rfl, rfl, hk, hk61, hw⟩ := hrel
      replace hw := hw.symm
      subst hw
      by_cases hlt : k < l.length
      · obtain ⟨ad, A0, c0, rfl, hx, hl0, hi0⟩ := at_B HC.out (k : Int) (by omega) (by omega)
        rw [rdB_nat l hlt] at hx
        simp only [Int.toNat_natCast] at hx
        have hfs := flat_snoc l hlt
        have hfl := HLE.out (k + 1)
        rw [hfs, List.length_append] at hfl
        generalize (l.take k).flatten = P at *
        generalize l[k] = u at *
        have HFS := Lib.hid hfs; clear hfs
        have e1 : wrap64 ((P.length : Int) + u.length) = (P.length : Int) + u.length := w64 (by omega) (by omega)
        clear hi0
        go_wp2
        go_roundw
        case rel => exact ⟨k + 1, by rw [HFS.out, List.length_append, Int.natCast_add], by go_num, by omega, by omega, rfl⟩
        case measure => simp [intOf]; omega
      · obtain rfl : k = l.length := by omega
        rw [List.take_length, HQ.out]
        by_cases hok : Q.length ≤ 20000 ∧ 1 ≤ file ∧ file ≤ 1000
        · obtain ⟨a1, a2, a3⟩ := hok
          obtain ⟨N, hN⟩ : ∃ N, Q.length = N := ⟨_, rfl⟩
          rw [hN] at a1 hcap ⊢
          have HN := Lib.hid hN; clear hN
          have d1 : decide ((60 : Int) < (l.length : Int)) = false := decide_eq_false (by omega)
          have d2 : decide ((20000 : Int) < (N : Int)) = false := decide_eq_false (by omega)
          have d3 : decide (file < 1) = false := decide_eq_false (by omega)
          have d4 : decide (1000 < file) = false := decide_eq_false (by omega)
          go_wp2_with fail
          clear d1 d2 d3 d4
          refine (dr_new (Below.refl _ w) N (by omega)).mono ?_
          rintro e w1 ⟨ga, ma, rfl, h1⟩
          go_wp2_with fail
          refine (twoD_new h1 N (by omega)).mono ?_
          rintro e w2 ⟨gb, mb, rfl, h2⟩
          clear h1
          go_wp2_with fail
          refine (num_any 0 w2).mono ?_
          rintro e w3 ⟨rfl, hd3⟩
          have h3 := h2.below hd3.below
          clear h2 hd3
          go_wp2_with fail
          refine (num_any 0 w3).mono ?_
          rintro e w4 ⟨rfl, hd4⟩
          have h4 := h3.below hd4.below
          clear h3 hd4
          have hap := h4.append_ok (Below.refl _ _) (n := file) ⟨a2, a3⟩ (by omega) (by omega) (by omega) (by omega) (by omega) (c := c) (Kd.F_below (Kd.C_F (Kd.heap_slice _ (Kd.heap_int _)) HC.out) h4.dr.1) (fun k hk => .inl hk) (by rw [sumF_none, HQ.out, HN.out]; omega)
          rw [HQ.out] at hap
          have hap : Calls Try.prog 11 #[dptr ga, .int .i64 file, .slice A l.length c] w4 fun e w' => e = .returned (.int .i64 0) ∧ TwoD w w' ga ma (oneF' file [] Q) N (-1) false 1 gb mb (fun _ => none) N (-1) false 0 := hap
          have HAP := Lib.hid hap; clear hap
          go_wp2_with fail
          refine HAP.out.mono ?_
          rintro e w5 ⟨rfl, h5⟩
          clear HAP h4
          go_wp2_with fail
          refine (num_any 0 w5).mono ?_
          rintro e w6 ⟨rfl, hd6⟩
          have h6 := h5.below hd6.below
          clear h5 hd6
          go_wp2
          go_loopw [11] (fun iv wr => PartB file l w ga ma gb mb N iv wr) (fun i _ => l.length - (intOf i).toNat)
          case atStart => exact ⟨0, rfl, Nat.zero_le _, by rw [HQ.out]; exact h6⟩
          case round =>
            clear h6
            obtain ⟨k, rfl, hk, h7⟩ := hrel
            rw [HQ.out] at h7
            by_cases hlt2 : k < l.length
            · obtain ⟨ad, A0, c0, rfl, hx, hl0, hi0⟩ := at_B HC.out (k : Int) (by omega) (by omega)
              rw [rdB_nat l hlt2] at hx hi0 hl0
              simp only [Int.toNat_natCast] at hx
              have hx' := pw_cell_below h7.dr.1 hx
              clear hx
              have hst := partF_step file l hlt2
              have hfs := flat_snoc l hlt2
              have hfl := HLE.out (k + 1)
              rw [hfs, List.length_append, HN.out] at hfl
              have hps := partF_sum ⟨a2, a3⟩ l k
              generalize l[k] = u at *
              have HPS := Lib.hid hps; have HST := Lib.hid hst; have HFL := Lib.hid hfl
              clear hps hst hfl hfs
              obtain ⟨w8, hw8⟩ : ∃ w8, wr.alloc (.cells #[.slice A0 u.length c0] 22) = w8 := ⟨_, rfl⟩
              obtain ⟨hF8, hb8⟩ := lit_arg hi0 hl0 h7.dr.1 hw8
              have hap := h7.swap.append_ok hb8 (n := file) ⟨a2, a3⟩ (by omega) (by omega) (by omega) (by omega) (by omega) (c := 1) hF8 (fun k hk => hk) (by rw [HPS.out]; have := HFL.out; simp only [List.flatten_cons, List.flatten_nil, List.append_nil]; omega)
              rw [HST.out] at hap
              have hap : Calls Try.prog 11 #[dptr gb, .int .i64 file, .slice (some ⟨wr.heap.size, 0, none⟩) 1 1] w8 fun e w' => e = .returned (.int .i64 0) ∧ TwoD w w' gb mb (partF file l (k + 1)) N (-1) false ((k + 1 : Nat) : Int) ga ma (oneF' file [] Q) N (-1) false 1 := hap
              have HAP := Lib.hid hap
              clear hap hF8 hi0 hl0 HPS HST HFL
              go_wp2_with fail
              refine HAP.out.mono ?_
              rintro e w9 ⟨rfl, h9⟩
              clear HAP hw8 hb8 h7
              go_wp2_with fail
              refine (num_any 0 w9).mono ?_
              rintro e w10 ⟨rfl, hd10⟩
              have h10 := h9.swap.below hd10.below
              clear h9 hd10
              go_wp2_with fail
              go_roundw
              case rel => exact ⟨k + 1, by go_num, by omega, by rw [HQ.out]; exact h10⟩
              case measure => simp [intOf]; omega
            · obtain rfl : k = l.length := by omega
              by_cases hl0 : l.length = 0
              · have hl : l = [] := List.eq_nil_of_length_eq_zero hl0
                obtain rfl : Q = [] := by rw [← HQ.out, hl]; rfl
                obtain rfl : N = 0 := HN.out.symm
                have dz : decide ((l.length : Int) = 0) = true := decide_eq_true (by omega)
                have hfr := h7.dr.free
                rw [sumF_one (by omega) (by omega)] at hfr
                have hfr : Calls Try.prog 29 #[dptr ga] wr fun e w' => e = .returned (.int .i64 0) ∧ w' = wr := hfr
                have HFR := Lib.hid hfr; clear hfr
                go_wp2_with fail
                refine HFR.out.mono ?_
                rintro e w11 ⟨rfl, rfl⟩
                go_wp2_with fail
                refine h7.dr.files.mono ?_
                rintro e w12 ⟨v, rfl, ho, hb12⟩
                have hk1 : (keysF (oneF' file [] [])).length = 1 := by rw [keysF_len, cardF_put _ (by omega) (by omega) rfl, cardF_none]
                rw [hk1] at ho
                obtain ⟨A12, c12, rfl⟩ := own_slice ho
                have h12 := h7.dr.1.trans (hb12.mono h7.dr.1.size)
                clear ho hb12 h7 HFR
                go_wp2_with fail
                refine (live14_any _).mono ?_
                rintro e w13 ⟨rfl, hb13⟩
                go_wp2_with fail
                go_ret
                exact ⟨rfl, h12.trans (hb13.mono h12.size)⟩
              · rw [partF_all hl0, HQ.out] at h7
                go_wp2_with fail
                refine (h7.dr.read_ok (n := file) ⟨a2, a3⟩ (upF_same _ _ _)).mono ?_
                rintro e w11 ⟨vx, rfl, hvx, hb11, _⟩
                rw [List.nil_append] at hvx
                have h11 := h7.below hb11
                go_wp2_with fail
                refine (h11.swap.dr.read_ok (n := file) ⟨a2, a3⟩ (upF_same _ _ _)).mono ?_
                rintro e w12 ⟨vy, rfl, hvy, hb12, _⟩
                rw [List.nil_append] at hvy
                obtain ⟨Ax, cx, rfl, _⟩ := own_reads hvx
                obtain ⟨Ay, cy, rfl, _⟩ := own_reads hvy
                have hvx := hvx.upd (Upd.of_below hb12 (fun _ => False)) (fun _ _ h => h)
                have hSS := ss_step (Nat.le_refl _) hb11.size ⟨hvx, hvy, hvx.str, hvy.str⟩ ((Upd.refl w12 _).drew)
                have hBq : Below wr.heap.size wr w12.drew := below_drew (hb11.trans (hb12.mono hb11.size))
                have hyb := hb11.size
                have hfr : ∀ W, Below wr.heap.size wr W → Calls Try.prog 29 #[dptr ga] W fun e w' => e = .returned (.int .i64 0) ∧ w' = W := fun W hB => by
                  have := (h7.below hB).dr.free
                  rw [sumF_one (by omega) (by omega), show ((N : Int) - ((([] : List Int).length + Q.length : Nat) : Int)) = 0 by rw [HN.out]; simp] at this
                  exact this
                have HFR := Lib.hid hfr; have H7 := Lib.hid h7
                clear hfr h7 h11 hvx hvy hb11 hb12
                have hc' := hc
                have hq47 : Q.length < 140737488355328 := by rw [HN.out]; omega
                have HQ47 := Lib.hid hq47; clear hq47
                have hw0 : IntKind.i64.wrap 0 = 0 := by kernel_rfl
                go_upto_region 21 with fail
                refine wp_region_last1_held (S := (fun W => RowB W wr.heap.size (.slice Ax Q.length cx) Q ∧ RowB W w11.heap.size (.slice Ay Q.length cy) Q ∧ (convert 22 9 (.slice Ax Q.length cx)).run Try.prog W = .ok (.string (strOfNums Q)) W ∧ (convert 22 9 (.slice Ay Q.length cy)).run Try.prog W = .ok (.string (strOfNums Q)) W)) (l := [_, _, _, _, _, _, _, _, _, _, _, _, _, _, _, _, _, _, _, _, _, _, _, _, _, _, _, _, _, _, _, _, _, _, _]) (o := _) (by kernel_rfl) (by kernel_rfl) ?_
                simp only [List.size_toArray, List.length_cons, List.length_nil, Nat.zero_add, Nat.reduceAdd]
                have hHeld : ((fun W => RowB W wr.heap.size (.slice Ax Q.length cx) Q ∧ RowB W w11.heap.size (.slice Ay Q.length cy) Q ∧ (convert 22 9 (.slice Ax Q.length cx)).run Try.prog W = .ok (.string (strOfNums Q)) W ∧ (convert 22 9 (.slice Ay Q.length cy)).run Try.prog W = .ok (.string (strOfNums Q)) W)) w12.drew := hSS
                refine wpAnyH_take (i := 0) (v := ?_) rfl (by kernel_rfl) (by kernel_rfl) (by kernel_rfl) (fun _ _ _ h => h) (Or.inl ⟨by rfl, ?_⟩) (by assumption) ?_
                rotate_left
                · (intro w hSw; (try dsimp only at hSw); go_split_ands; go_simp; try with_reducible rfl)
                try simp only [List.getElem_toArray, List.getElem_cons_succ, List.getElem_cons_zero, Act.put, List.setIfInBounds_toArray, List.set_cons_zero, List.set_cons_succ]
                refine wpAnyH_take (i := 2) (v := ?_) rfl (by kernel_rfl) (by kernel_rfl) (by kernel_rfl) (fun _ _ _ h => h) (Or.inl ⟨by rfl, ?_⟩) (by assumption) ?_
                rotate_left
                · (intro w hSw; (try dsimp only at hSw); go_split_ands; go_simp; try with_reducible rfl)
                try simp only [List.getElem_toArray, List.getElem_cons_succ, List.getElem_cons_zero, Act.put, List.setIfInBounds_toArray, List.set_cons_zero, List.set_cons_succ]
                refine wpAnyH_ready (rs := [1]) (by kernel_rfl) (by simp) ?_
                refine (AllReadyH.cons rfl (fun K hK => ?_) AllReadyH.nil)
                go_simp
                refine (num_any 0 _).mono ?_
                rintro e w13 ⟨rfl, hd13⟩
                refine hK.out _ _ ?_ (fun hHeld => ?_)
                · exact ss_step (Nat.le_refl _) hyb hHeld (Upd.of_below hd13.below _)
                clear hK K
                have hBq := hBq.trans (hd13.below.mono hBq.size)
                clear hd13
                try simp only [List.getElem_toArray, List.getElem_cons_succ, List.getElem_cons_zero, Act.put, List.setIfInBounds_toArray, List.set_cons_zero, List.set_cons_succ]
                refine wpAnyH_ready (rs := [3]) (by kernel_rfl) (by simp) ?_
                refine (AllReadyH.cons rfl (fun K hK => ?_) AllReadyH.nil)
                go_simp
                refine (num_any 0 _).mono ?_
                rintro e w14 ⟨rfl, hd14⟩
                refine hK.out _ _ ?_ (fun hHeld => ?_)
                · exact ss_step (Nat.le_refl _) hyb hHeld (Upd.of_below hd14.below _)
                clear hK K
                have hBq := hBq.trans (hd14.below.mono hBq.size)
                clear hd14
                try simp only [List.getElem_toArray, List.getElem_cons_succ, List.getElem_cons_zero, Act.put, List.setIfInBounds_toArray, List.set_cons_zero, List.set_cons_succ]
                refine wpAnyH_take (i := 4) (v := ?_) rfl (by kernel_rfl) (by kernel_rfl) (by kernel_rfl) (fun _ _ _ h => h) (Or.inl ⟨by rfl, ?_⟩) (by assumption) ?_
                rotate_left
                · (intro w hSw; (try dsimp only at hSw); go_split_ands; go_simp; try with_reducible rfl)
                try simp only [List.getElem_toArray, List.getElem_cons_succ, List.getElem_cons_zero, Act.put, List.setIfInBounds_toArray, List.set_cons_zero, List.set_cons_succ]
                refine wpAnyH_take (i := 5) (v := ?_) rfl (by kernel_rfl) (by kernel_rfl) (by kernel_rfl) (fun _ _ _ h => h) (Or.inl ⟨by rfl, ?_⟩) (by assumption) ?_
                rotate_left
                · (intro w hSw; (try dsimp only at hSw); go_split_ands; go_simp; try with_reducible rfl)
                try simp only [List.getElem_toArray, List.getElem_cons_succ, List.getElem_cons_zero, Act.put, List.setIfInBounds_toArray, List.set_cons_zero, List.set_cons_succ]
                refine wpAnyH_take (i := 6) (v := ?_) rfl (by kernel_rfl) (by kernel_rfl) (by kernel_rfl) (fun _ _ _ h => h) (Or.inl ⟨by rfl, ?_⟩) (by assumption) ?_
                rotate_left
                · (intro w hSw; (try dsimp only at hSw); go_split_ands; go_simp; try with_reducible rfl)
                try simp only [List.getElem_toArray, List.getElem_cons_succ, List.getElem_cons_zero, Act.put, List.setIfInBounds_toArray, List.set_cons_zero, List.set_cons_succ]
                refine wpAnyH_take (i := 7) (v := ?_) rfl (by kernel_rfl) (by kernel_rfl) (by kernel_rfl) (fun _ _ _ h => h) (Or.inl ⟨by rfl, ?_⟩) (by assumption) ?_
                rotate_left
                · (intro w hSw; (try dsimp only at hSw); go_split_ands; go_simp; try with_reducible rfl)
                try simp only [List.getElem_toArray, List.getElem_cons_succ, List.getElem_cons_zero, Act.put, List.setIfInBounds_toArray, List.set_cons_zero, List.set_cons_succ]
                refine wpAnyH_take (i := 8) (v := ?_) rfl (by kernel_rfl) (by kernel_rfl) (by kernel_rfl) (fun _ _ _ h => h) (Or.inl ⟨by rfl, ?_⟩) (by assumption) ?_
                rotate_left
                · (intro w hSw; (try dsimp only at hSw); go_split_ands; go_simp; try with_reducible rfl)
                try simp only [List.getElem_toArray, List.getElem_cons_succ, List.getElem_cons_zero, Act.put, List.setIfInBounds_toArray, List.set_cons_zero, List.set_cons_succ]
                refine wpAnyH_take (i := 9) (v := ?_) rfl (by kernel_rfl) (by kernel_rfl) (by kernel_rfl) (fun _ _ _ h => h) (Or.inl ⟨by rfl, ?_⟩) (by assumption) ?_
                rotate_left
                · (intro w hSw; (try dsimp only at hSw); go_split_ands; go_simp; try with_reducible rfl)
                try simp only [List.getElem_toArray, List.getElem_cons_succ, List.getElem_cons_zero, Act.put, List.setIfInBounds_toArray, List.set_cons_zero, List.set_cons_succ]
                refine wpAnyH_ready (rs := [10]) (by kernel_rfl) (by simp) ?_
                refine (AllReadyH.cons rfl (fun K hK => ?_) AllReadyH.nil)
                go_simp
                refine (whole_any A c l w14 (Kd.C_below HC.out (H7.out.dr.1.trans (hBq.mono H7.out.dr.1.size))) hc (by rw [HQ.out]; exact HQ47.out) (by omega)).mono ?_
                rintro e w15 ⟨vz, rfl, hvz, hb15⟩
                refine hK.out _ _ ?_ (fun hHeld => ?_)
                · exact ss_step (Nat.le_refl _) hyb hHeld (Upd.of_below hb15 _)
                clear hK K
                have hBq := hBq.trans (hb15.mono hBq.size)
                rw [HQ.out] at hvz
                obtain ⟨Az, cz, rfl, _⟩ := own_reads hvz
                have hsz := hvz.str
                clear hb15 hvz
                try simp only [List.getElem_toArray, List.getElem_cons_succ, List.getElem_cons_zero, Act.put, List.setIfInBounds_toArray, List.set_cons_zero, List.set_cons_succ]
                refine wpAnyH_ready (rs := [11]) (by kernel_rfl) (by simp) ?_
                refine (AllReadyH.cons rfl (fun K hK => ?_) AllReadyH.nil)
                go_simp
                refine hK.out _ _ ?_ (fun hHeld => ?_)
                · exact hHeld
                clear hK K
                try simp only [List.getElem_toArray, List.getElem_cons_succ, List.getElem_cons_zero, Act.put, List.setIfInBounds_toArray, List.set_cons_zero, List.set_cons_succ]
                refine wpAnyH_take (i := 12) (v := ?_) rfl (by kernel_rfl) (by kernel_rfl) (by kernel_rfl) (fun _ _ _ h => h) (Or.inl ⟨by rfl, ?_⟩) (by assumption) ?_
                rotate_left
                · (intro w hSw; (try dsimp only at hSw); go_split_ands; go_simp; try with_reducible rfl)
                try simp only [List.getElem_toArray, List.getElem_cons_succ, List.getElem_cons_zero, Act.put, List.setIfInBounds_toArray, List.set_cons_zero, List.set_cons_succ]
                refine wpAnyH_take (i := 13) (v := ?_) rfl (by kernel_rfl) (by kernel_rfl) (by kernel_rfl) (fun _ _ _ h => h) (Or.inl ⟨by rfl, ?_⟩) (by assumption) ?_
                rotate_left
                · (intro w hSw; (try dsimp only at hSw); go_split_ands; go_simp; try with_reducible rfl)
                try simp only [List.getElem_toArray, List.getElem_cons_succ, List.getElem_cons_zero, Act.put, List.setIfInBounds_toArray, List.set_cons_zero, List.set_cons_succ]
                refine wpAnyH_take (i := 14) (v := ?_) rfl (by kernel_rfl) (by kernel_rfl) (by kernel_rfl) (fun _ _ _ h => h) (Or.inl ⟨by rfl, ?_⟩) (by assumption) ?_
                rotate_left
                · (intro w hSw; (try dsimp only at hSw); go_split_ands; go_simp; try with_reducible rfl)
                try simp only [List.getElem_toArray, List.getElem_cons_succ, List.getElem_cons_zero, Act.put, List.setIfInBounds_toArray, List.set_cons_zero, List.set_cons_succ]
                refine wpAnyH_take (i := 15) (v := ?_) rfl (by kernel_rfl) (by kernel_rfl) (by kernel_rfl) (fun _ _ _ h => h) (Or.inl ⟨by rfl, ?_⟩) (by assumption) ?_
                rotate_left
                · (intro w hSw; (try dsimp only at hSw); go_split_ands; go_simp; try with_reducible rfl)
                try simp only [List.getElem_toArray, List.getElem_cons_succ, List.getElem_cons_zero, Act.put, List.setIfInBounds_toArray, List.set_cons_zero, List.set_cons_succ]
                refine wpAnyH_take (i := 16) (v := ?_) rfl (by kernel_rfl) (by kernel_rfl) (by kernel_rfl) (fun _ _ _ h => h) (Or.inl ⟨by rfl, ?_⟩) (by assumption) ?_
                rotate_left
                · (intro w hSw; (try dsimp only at hSw); go_split_ands; go_simp; try with_reducible rfl)
                try simp only [List.getElem_toArray, List.getElem_cons_succ, List.getElem_cons_zero, Act.put, List.setIfInBounds_toArray, List.set_cons_zero, List.set_cons_succ]
                refine wpAnyH_take (i := 17) (v := ?_) rfl (by kernel_rfl) (by kernel_rfl) (by kernel_rfl) (fun _ _ _ h => h) (Or.inl ⟨by rfl, ?_⟩) (by assumption) ?_
                rotate_left
                · (intro w hSw; (try dsimp only at hSw); go_split_ands; go_simp; try with_reducible rfl)
                try simp only [List.getElem_toArray, List.getElem_cons_succ, List.getElem_cons_zero, Act.put, List.setIfInBounds_toArray, List.set_cons_zero, List.set_cons_succ]
                refine wpAnyH_take (i := 18) (v := ?_) rfl (by kernel_rfl) (by kernel_rfl) (by kernel_rfl) (fun _ _ _ h => h) (Or.inl ⟨by rfl, ?_⟩) (by assumption) ?_
                rotate_left
                · (intro w hSw; (try dsimp only at hSw); go_split_ands; go_simp; try with_reducible rfl)
                try simp only [List.getElem_toArray, List.getElem_cons_succ, List.getElem_cons_zero, Act.put, List.setIfInBounds_toArray, List.set_cons_zero, List.set_cons_succ]
                refine wpAnyH_take (i := 19) (v := ?_) rfl (by kernel_rfl) (by kernel_rfl) (by kernel_rfl) (fun _ _ _ h => h) (Or.inl ⟨by rfl, ?_⟩) (by assumption) ?_
                rotate_left
                · (intro w hSw; (try dsimp only at hSw); go_split_ands; go_simp; try with_reducible rfl)
                try simp only [List.getElem_toArray, List.getElem_cons_succ, List.getElem_cons_zero, Act.put, List.setIfInBounds_toArray, List.set_cons_zero, List.set_cons_succ]
                refine wpAnyH_take (i := 20) (v := ?_) rfl (by kernel_rfl) (by kernel_rfl) (by kernel_rfl) (fun _ _ _ h => h) (Or.inl ⟨by rfl, ?_⟩) (by assumption) ?_
                rotate_left
                · (intro w hSw; (try dsimp only at hSw); go_split_ands; go_simp; try with_reducible rfl)
                try simp only [List.getElem_toArray, List.getElem_cons_succ, List.getElem_cons_zero, Act.put, List.setIfInBounds_toArray, List.set_cons_zero, List.set_cons_succ]
                refine wpAnyH_take (i := 21) (v := ?_) rfl (by kernel_rfl) (by kernel_rfl) (by kernel_rfl) (fun _ _ _ h => h) (Or.inl ⟨by rfl, ?_⟩) (by assumption) ?_
                rotate_left
                · (intro w hSw; (try dsimp only at hSw); go_split_ands; go_simp; try with_reducible rfl)
                try simp only [List.getElem_toArray, List.getElem_cons_succ, List.getElem_cons_zero, Act.put, List.setIfInBounds_toArray, List.set_cons_zero, List.set_cons_succ]
                refine wpAnyH_take (i := 22) (v := ?_) rfl (by kernel_rfl) (by kernel_rfl) (by kernel_rfl) (fun _ _ _ h => h) (Or.inl ⟨by rfl, ?_⟩) (by assumption) ?_
                rotate_left
                · (intro w hSw; (try dsimp only at hSw); go_split_ands; go_simp; try with_reducible rfl)
                try simp only [List.getElem_toArray, List.getElem_cons_succ, List.getElem_cons_zero, Act.put, List.setIfInBounds_toArray, List.set_cons_zero, List.set_cons_succ]
                refine wpAnyH_ready (rs := [23]) (by kernel_rfl) (by simp) ?_
                refine (AllReadyH.cons rfl (fun K hK => ?_) AllReadyH.nil)
                go_simp
                refine (HFR.out _ hBq).mono ?_
                rintro e w16 ⟨rfl, rfl⟩
                refine hK.out _ _ ?_ (fun hHeld => ?_)
                · exact hHeld
                clear hK K
                have hSS16 := hHeld
                have kc1 := Joins.run_convert_bytes_const_at (P := Try.prog) w16 22 5 #[.int .u8 120] 1 1 w16.heap.size rfl Try.underlying22 Try.underlying5
                try simp only [List.getElem_toArray, List.getElem_cons_succ, List.getElem_cons_zero, Act.put, List.setIfInBounds_toArray, List.set_cons_zero, List.set_cons_succ]
                refine wpAnyH_take (i := 24) (v := ?_) rfl (by kernel_rfl) (by kernel_rfl) (by kernel_rfl) (fun _ _ _ h => h) (Or.inl ⟨by rfl, ?_⟩) (by assumption) ?_
                rotate_left
                · (intro w hSw; (try dsimp only at hSw); go_split_ands; go_simp; try with_reducible rfl)
                try simp only [List.getElem_toArray, List.getElem_cons_succ, List.getElem_cons_zero, Act.put, List.setIfInBounds_toArray, List.set_cons_zero, List.set_cons_succ]
                refine wpAnyH_take (i := 25) (v := ?_) rfl (by kernel_rfl) (by kernel_rfl) (by kernel_rfl) (fun _ _ _ h => h) (Or.inl ⟨by rfl, ?_⟩) (by assumption) ?_
                rotate_left
                · (intro w hSw; (try dsimp only at hSw); go_split_ands; go_simp; try with_reducible rfl)
                try simp only [List.getElem_toArray, List.getElem_cons_succ, List.getElem_cons_zero, Act.put, List.setIfInBounds_toArray, List.set_cons_zero, List.set_cons_succ]
                refine wpAnyH_take (i := 26) (v := ?_) rfl (by kernel_rfl) (by kernel_rfl) (by kernel_rfl) (fun _ _ _ h => h) (Or.inl ⟨by rfl, ?_⟩) (by assumption) ?_
                rotate_left
                · (intro w hSw; (try dsimp only at hSw); go_split_ands; go_simp; try with_reducible rfl)
                try simp only [List.getElem_toArray, List.getElem_cons_succ, List.getElem_cons_zero, Act.put, List.setIfInBounds_toArray, List.set_cons_zero, List.set_cons_succ]
                refine wpAnyH_take (i := 27) (v := ?_) rfl (by kernel_rfl) (by kernel_rfl) (by kernel_rfl) (fun _ _ _ h => h) (Or.inl ⟨by rfl, ?_⟩) (by assumption) ?_
                rotate_left
                · (intro w hSw; (try dsimp only at hSw); go_split_ands; go_simp; try with_reducible rfl)
                try simp only [List.getElem_toArray, List.getElem_cons_succ, List.getElem_cons_zero, Act.put, List.setIfInBounds_toArray, List.set_cons_zero, List.set_cons_succ]
                refine wpAnyH_take (i := 28) (v := ?_) rfl (by kernel_rfl) (by kernel_rfl) (by kernel_rfl) (fun _ _ _ h => h) (Or.inl ⟨by rfl, ?_⟩) (by assumption) ?_
                rotate_left
                · (intro w hSw; (try dsimp only at hSw); go_split_ands; go_simp; try with_reducible rfl)
                try simp only [List.getElem_toArray, List.getElem_cons_succ, List.getElem_cons_zero, Act.put, List.setIfInBounds_toArray, List.set_cons_zero, List.set_cons_succ]
                refine wpAnyH_ready (rs := [29]) (by kernel_rfl) (by simp) ?_
                refine (AllReadyH.cons rfl (fun K hK => ?_) AllReadyH.nil)
                go_simp
                refine hK.out _ _ ?_ (fun hHeld => ?_)
                · exact ss_step (Nat.le_refl _) hyb hSS16 ((Upd.refl _ _).alloc _)
                clear hK K
                try simp only [List.getElem_toArray, List.getElem_cons_succ, List.getElem_cons_zero, Act.put, List.setIfInBounds_toArray, List.set_cons_zero, List.set_cons_succ]
                refine wpAnyH_ready (rs := [30]) (by kernel_rfl) (by simp) ?_
                refine (AllReadyH.cons rfl (fun K hK => ?_) AllReadyH.nil)
                go_simp
                refine hK.out _ _ ?_ (fun hHeld => ?_)
                · exact ss_step (Nat.le_refl _) hyb hSS16 ((Upd.refl _ _).alloc _)
                clear hK K
                try simp only [List.getElem_toArray, List.getElem_cons_succ, List.getElem_cons_zero, Act.put, List.setIfInBounds_toArray, List.set_cons_zero, List.set_cons_succ]
                refine wpAnyH_ready (rs := [31]) (by kernel_rfl) (by simp) ?_
                refine (AllReadyH.cons rfl (fun K hK => ?_) AllReadyH.nil)
                go_simp
                refine hK.out _ _ ?_ (fun hHeld => ?_)
                · exact ss_step (Nat.le_refl _) hyb hSS16 (((Upd.refl _ _).alloc _).alloc _)
                clear hK K
                obtain ⟨w17, hw17⟩ : ∃ w17, (w16.alloc (.cells (nums .u8 [120]).toArray 5 (1, 2))).alloc (.cells #[.slice (some ⟨w16.heap.size, 0, none⟩) [120].length [120].length] 22) = w17 := ⟨_, rfl⟩
                obtain ⟨hF17, hb17⟩ := lit1 w16 (1, 2) [120] (by decide) hw17
                have hw17' : (w16.alloc (.cells #[.int .u8 120] 5 (1, 2))).alloc (.cells #[.slice (some ⟨w16.heap.size, 0, none⟩) 1 1] 22) = w17 := hw17
                have hap := H7.out.append_fullU (hBq.trans (hb17.mono hBq.size)) (n := file) ⟨a2, a3⟩ (by omega) (by omega) (by omega) (by omega) (by omega) (c := 1) hF17 (fun k hk => .inr (Nat.le_trans hBq.size hk)) (by decide) (by rw [sumF_one (by omega) (by omega), HN.out]; show N < 0 + N + 1; omega)
                have hap : Calls Try.prog 11 #[dptr ga, .int .i64 file, .slice (some ⟨w16.heap.size + 1, 0, none⟩) 1 1] w17 _ := hap
                have HAP := Lib.hid hap
                have hu17 : Upd w16 w17 (fun k => k < wr.heap.size) := Upd.of_below hb17 _
                clear hap hF17 hw17
                rw [hw17'] at hHeld ⊢
                try simp only [List.getElem_toArray, List.getElem_cons_succ, List.getElem_cons_zero, Act.put, List.setIfInBounds_toArray, List.set_cons_zero, List.set_cons_succ]
                refine wpAnyH_ready (rs := [32]) (by kernel_rfl) (by simp) ?_
                refine (AllReadyH.cons rfl (fun K hK => ?_) AllReadyH.nil)
                go_simp
                refine HAP.out.mono ?_
                rintro e w18 ⟨rfl, h18, hu18⟩
                refine hK.out _ _ ?_ (fun hHeld => ?_)
                · exact ss_step (Nat.le_refl _) hyb hSS16 (hu17.trans hu18)
                clear hK K
                clear HAP hw17' hb17
                try simp only [List.getElem_toArray, List.getElem_cons_succ, List.getElem_cons_zero, Act.put, List.setIfInBounds_toArray, List.set_cons_zero, List.set_cons_succ]
                refine wpAnyH_ready (rs := [33]) (by kernel_rfl) (by simp) ?_
                refine (AllReadyH.cons rfl (fun K hK => ?_) AllReadyH.nil)
                go_simp
                refine (num_any 5 _).mono ?_
                rintro e w19 ⟨rfl, hd19⟩
                refine hK.out _ _ ?_ (fun hHeld => ?_)
                · exact ss_step (Nat.le_refl _) hyb hHeld (Upd.of_below hd19.below _)
                clear hK K
                try simp only [List.getElem_toArray, List.getElem_cons_succ, List.getElem_cons_zero, Act.put, List.setIfInBounds_toArray, List.set_cons_zero, List.set_cons_succ]
                refine wpAnyH_take (i := 34) (v := ?_) rfl (by kernel_rfl) (by kernel_rfl) (by kernel_rfl) (fun _ _ _ h => h) (Or.inl ⟨by rfl, ?_⟩) (by assumption) ?_
                rotate_left
                · (intro w hSw; (try dsimp only at hSw); go_split_ands; go_simp; try with_reducible rfl)
                try simp only [List.getElem_toArray, List.getElem_cons_succ, List.getElem_cons_zero, Act.put, List.setIfInBounds_toArray, List.set_cons_zero, List.set_cons_succ]
                refine wpAnyH_done (by kernel_rfl) ?_ _
                refine lastPost_wp ?_
                have h19 := h18.below hd19.below
                clear hd19 hHeld hSS16 h18 hu18 hu17 kc1 hBq H7 HFR
                have hrd : ∃ q : Int, (q = 2 ∨ q = 7) ∧ Calls Try.prog 14 #[dptr ga, .int .i64 (file + 1)] w19 fun e w' => e = .returned (.tuple #[.slice none 0 0, .int .i64 q]) ∧ w' = w19 := by
                  by_cases hf : file = 1000
                  · exact ⟨2, .inl rfl, h19.dr.read_arg (.inr (by omega))⟩
                  · exact ⟨7, .inr rfl, h19.dr.read_none ⟨by omega, by omega⟩ (upF_other _ _ (by omega))⟩
                obtain ⟨q, hq, hrd⟩ := hrd
                have HRD := Lib.hid hrd; clear hrd
                rcases hq with rfl | rfl
                all_goals
                  go_wp2_with fail
                  refine HRD.out.mono ?_
                  rintro e w20 ⟨rfl, rfl⟩
                  clear HRD
                  have hdel := h19.dr.delete_ok ⟨a2, a3⟩ (by decide) (by decide) (by decide) (by omega) (by omega) (upF_same _ _ _)
                  have hno : upF (oneF' file [] Q) file none = fun _ => none := by
                    funext y
                    unfold oneF'
                    rw [upF_upF]
                    unfold upF
                    split <;> rfl
                  rw [hno] at hdel
                  have HDEL := Lib.hid hdel; clear hdel hno
                  go_wp2_with fail
                  refine HDEL.out.mono ?_
                  rintro e w21 ⟨rfl, h21⟩
                  clear HDEL h19
                  go_wp2_with fail
                  refine (num_any 0 w21).mono ?_
                  rintro e w22 ⟨rfl, hd22⟩
                  have h22 := h21.below hd22.below
                  clear h21 hd22
                  have hfr := h22.free
                  rw [sumF_none, show ((N : Int) - ((0 : Nat) : Int)) = N by omega] at hfr
                  have HFR := Lib.hid hfr; clear hfr
                  go_wp2_with fail
                  refine HFR.out.mono ?_
                  rintro e w23 ⟨rfl, rfl⟩
                  clear HFR
                  go_wp2_with fail
                  refine h22.files.mono ?_
                  rintro e w24 ⟨v, rfl, ho, hb24⟩
                  have hk0 : (keysF (fun _ => none : Files)).length = 0 := by rw [keysF_len, cardF_none]
                  rw [hk0] at ho
                  obtain ⟨A24, c24, rfl⟩ := own_slice ho
                  have h24 := h22.below hb24
                  clear ho hb24 h22 hk0
                  have hdel := h24.delete_none ⟨a2, a3⟩ (by decide) (by decide) (by decide) (by omega) (by omega) rfl
                  have HDEL := Lib.hid hdel; clear hdel
                  go_wp2_with fail
                  refine HDEL.out.mono ?_
                  rintro e w25 ⟨rfl, h25⟩
                  clear HDEL h24
                  go_wp2_with fail
                  refine (num_any 7 w25).mono ?_
                  rintro e w26 ⟨rfl, hd26⟩
                  have h26 := h25.1.trans (hd26.below.mono h25.1.size)
                  clear h25 hd26
                  go_wp2_with fail
                  refine (num_any _ w26).mono ?_
                  rintro e w27 ⟨rfl, hd27⟩
                  have h27 := h26.trans (hd27.below.mono h26.size)
                  clear h26 hd27
                  go_wp2_with fail
                  refine (live14_any _).mono ?_
                  rintro e w28 ⟨rfl, hb28⟩
                  go_wp2_with fail
                  go_ret
                  exact ⟨rfl, h27.trans (hb28.mono h27.size)⟩
        · have d1 : decide ((60 : Int) < (l.length : Int)) = false := decide_eq_false (by omega)
          by_cases b2 : 20000 < Q.length
          · have d2 : decide ((20000 : Int) < (Q.length : Int)) = true := decide_eq_true (by omega)
            go_wp2_with fail
            refine (live14_any _).mono ?_
            rintro e w2 ⟨rfl, hb2⟩
            go_wp2_with fail
            go_ret
            exact ⟨rfl, hb2⟩
          · have d2 : decide ((20000 : Int) < (Q.length : Int)) = false := decide_eq_false (by omega)
            by_cases b3 : file < 1
            · have d3 : decide (file < 1) = true := decide_eq_true b3
              go_wp2_with fail
              refine (live14_any _).mono ?_
              rintro e w2 ⟨rfl, hb2⟩
              go_wp2_with fail
              go_ret
              exact ⟨rfl, hb2⟩
            · have d3 : decide (file < 1) = false := decide_eq_false b3
              have d4 : decide (1000 < file) = true := decide_eq_true (by omega)
              go_wp2_with fail
              refine (live14_any _).mono ?_
              rintro e w2 ⟨rfl, hb2⟩
              go_wp2_with fail
              go_ret
              exact ⟨rfl, hb2⟩
  · go_enter Try.func7, Try.ntmps7
    go_wp2
    go_loopw [5, 6] (fun nv iv wr => PartA l w nv iv wr) (fun _ i _ => 61 - (intOf i).toNat)
    case atStart => exact ⟨0, rfl, rfl, Nat.zero_le _, Nat.zero_le _, rfl⟩
    case round =>
      obtain ⟨k, rfl, rfl, hk, hk61, hw⟩ := hrel
      replace hw := hw.symm
      subst hw
      by_cases hlt : k ≤ 60
      · have hlt' : k < l.length := by omega
        obtain ⟨ad, A0, c0, rfl, hx, hl0, hi0⟩ := at_B HC.out (k : Int) (by omega) (by omega)
        rw [rdB_nat l hlt'] at hx
        simp only [Int.toNat_natCast] at hx
        have hfs := flat_snoc l hlt'
        have hfl := HCAP.out (k + 1)
        rw [hfs, List.length_append] at hfl
        have hfl2 : (k + 1) * 140737488355328 ≤ 61 * 140737488355328 := Nat.mul_le_mul_right _ (by omega)
        generalize (l.take k).flatten = P at *
        generalize l[k] = u at *
        have HFS := Lib.hid hfs; clear hfs
        have e1 : wrap64 ((P.length : Int) + u.length) = (P.length : Int) + u.length := w64 (by omega) (by omega)
        have hfl3 : P.length + u.length ≤ 8584987481554944 := by omega
        clear hi0 hfl hfl2
        go_wp2
        go_roundw
        case rel => exact ⟨k + 1, by rw [HFS.out, List.length_append, Int.natCast_add], by go_num, by omega, by omega, rfl⟩
        case measure => simp [intOf]; omega
      · obtain rfl : k = 61 := by omega
        have d1 : decide ((60 : Int) < (l.length : Int)) = true := decide_eq_true (by omega)
        by_cases b61 : 61 < l.length
        · have d0 : decide ((61 : Int) < (l.length : Int)) = true := decide_eq_true (by omega)
          go_wp2_with fail
          refine (live14_any _).mono ?_
          rintro e w2 ⟨rfl, hb2⟩
          go_wp2_with fail
          go_ret
          exact ⟨rfl, hb2⟩
        · have d0 : decide ((61 : Int) < (l.length : Int)) = false := decide_eq_false (by omega)
          go_wp2_with fail
          refine (live14_any _).mono ?_
          rintro e w2 ⟨rfl, hb2⟩
          go_wp2_with fail
          go_ret
          exact ⟨rfl, hb2⟩
end Go.Proofs.Ytnimghkkhiacfaa.P
