/- The law's first line: live. -/
import Derived.Test.YtnimghkkhiacfaaDLit
import Derived.Lib.SmallJoins
namespace Go.Proofs.Ytnimghkkhiacfaa.P
open Go.RowKit Go.Proofs.YtnimghkkhiacfaaW.PrintWords Go.Proofs.YtnimghkkhiacfaaW.PrintLast Go.Proofs.YtnimghkkhiacfaaW.PrintMore
/-- [][]byte{{..}, {..}} as an argument. -/
theorem lit2 (W : World) (m : Nat × Nat) (p q : List Int) (hp : p.length ≤ 1000000) (hq : q.length ≤ 1000000) {W1 : World} (hW : ((W.alloc (.cells (nums .u8 p).toArray 5 m)).alloc (.cells (nums .u8 q).toArray 5 m)).alloc (.cells #[.slice (some ⟨W.heap.size, 0, none⟩) p.length p.length, .slice (some ⟨W.heap.size + 1, 0, none⟩) q.length q.length] 22) = W1) :
    Kd.F kBs W1 (fun k => W.heap.size ≤ k) (some ⟨W.heap.size + 2, 0, none⟩) [p, q].length [p, q] ∧ Below W.heap.size W W1 := by
  have e1 : (W.alloc (.cells (nums .u8 p).toArray 5 m)).heap.size = W.heap.size + 1 := by simp
  have e2 : ((W.alloc (.cells (nums .u8 p).toArray 5 m)).alloc (.cells (nums .u8 q).toArray 5 m)).heap.size = W.heap.size + 2 := by simp
  have b0 := ((BlkM.new W (nums .u8 p).toArray 5 m).alloc (.cells (nums .u8 q).toArray 5 m)).alloc (.cells #[.slice (some ⟨W.heap.size, 0, none⟩) p.length p.length, .slice (some ⟨W.heap.size + 1, 0, none⟩) q.length q.length] 22)
  have b1 := (BlkM.new (W.alloc (.cells (nums .u8 p).toArray 5 m)) (nums .u8 q).toArray 5 m).alloc (.cells #[.slice (some ⟨W.heap.size, 0, none⟩) p.length p.length, .slice (some ⟨W.heap.size + 1, 0, none⟩) q.length q.length] 22)
  have b2 := Blk.new ((W.alloc (.cells (nums .u8 p).toArray 5 m)).alloc (.cells (nums .u8 q).toArray 5 m)) 22 #[.slice (some ⟨W.heap.size, 0, none⟩) p.length p.length, .slice (some ⟨W.heap.size + 1, 0, none⟩) q.length q.length]
  have hbel : Below W.heap.size W W1 := hW ▸ ((((Below.refl _ W).alloc (Nat.le_refl _) _).alloc (by omega) _).alloc (by omega) _)
  rw [hW] at b0 b1 b2
  rw [e1] at b1
  rw [e2] at b2
  refine ⟨F_lits b2 (by omega) (by show 2 ≤ _; omega) fun j x hj => ?_, hbel⟩
  rcases j with _ | _ | j
  · simp only [List.getElem?_cons_zero, Option.some.injEq] at hj
    subst hj
    exact ⟨_, _, rfl, Nat.le_refl _, Nat.le_refl _, hp, b0⟩
  · simp only [List.getElem?_cons_succ, List.getElem?_cons_zero, Option.some.injEq] at hj
    subst hj
    exact ⟨_, _, rfl, Nat.le_refl _, Nat.le_succ _, hq, b1⟩
  · simp at hj
/-- [][]byte{{..}} as an argument. -/
theorem lit1 (W : World) (m : Nat × Nat) (p : List Int) (hp : p.length ≤ 1000000) {W1 : World} (hW : (W.alloc (.cells (nums .u8 p).toArray 5 m)).alloc (.cells #[.slice (some ⟨W.heap.size, 0, none⟩) p.length p.length] 22) = W1) :
    Kd.F kBs W1 (fun k => W.heap.size ≤ k) (some ⟨W.heap.size + 1, 0, none⟩) [p].length [p] ∧ Below W.heap.size W W1 := by
  have e1 : (W.alloc (.cells (nums .u8 p).toArray 5 m)).heap.size = W.heap.size + 1 := by simp
  have b0 := (BlkM.new W (nums .u8 p).toArray 5 m).alloc (.cells #[.slice (some ⟨W.heap.size, 0, none⟩) p.length p.length] 22)
  have b2 := Blk.new (W.alloc (.cells (nums .u8 p).toArray 5 m)) 22 #[.slice (some ⟨W.heap.size, 0, none⟩) p.length p.length]
  have hbel : Below W.heap.size W W1 := hW ▸ (((Below.refl _ W).alloc (Nat.le_refl _) _).alloc (by omega) _)
  rw [hW] at b0 b2
  rw [e1] at b2
  refine ⟨F_lits b2 (by omega) (by show 1 ≤ _; omega) fun j x hj => ?_, hbel⟩
  rcases j with _ | j
  · simp only [List.getElem?_cons_zero, Option.some.injEq] at hj
    subst hj
    exact ⟨_, _, rfl, Nat.le_refl _, Nat.le_refl _, hp, b0⟩
  · simp at hj
/-- []api.Tail{..} as an argument: tails in a block of their own. -/
theorem F_tails {W : World} {g : Nat} {t : TypeId} {cs : Array Value} {l : List S33} {ok : Nat → Prop} (hb : Blk W g t cs) (hg : ok g) (hn : l.length ≤ 1000000)
    (h : ∀ (j : Nat) x, l[j]? = some x → cs[j * 3]? = some (.int .i64 x.f0) ∧ cs[j * 3 + 1]? = some (.int .i64 x.f1) ∧ cs[j * 3 + 2]? = some (.int .u8 x.f2)) : Kd.F k33 W ok (some ⟨g, 0, none⟩) l.length l :=
  fun W' hW' => ⟨rfl, by omega, fun _ => ⟨_, rfl, fun j x hj => by
    obtain ⟨h0, h1, h2⟩ := h j x hj
    refine ⟨_, rfl, k33_mk W' x, fun i u hu => ?_⟩
    have hb' := hb.foot hW' hg
    show W'.cell? ((⟨g, 0, none⟩ : Addr).add (j * 3 + i)) = some u
    rw [add_plain, hb'.cell]
    rcases i with _ | _ | _ | i
    · simp at hu; subst hu; exact h0
    · simp at hu; subst hu; exact h1
    · simp at hu; subst hu; exact h2
    · simp at hu⟩⟩
theorem upF_upF {α : Type} (f : Int → Option α) (n : Int) (a b : Option α) : upF (upF f n a) n b = upF f n b := by
  funext y
  unfold upF
  split <;> rfl
abbrev oneF' (n : Int) (s r : List Int) : Files := upF (fun _ => none) n (some (s, r))
theorem sumF_one {n : Int} (h0 : 0 ≤ n) (h1 : n ≤ 1000) (s r : List Int) : sumF (oneF' n s r) = s.length + r.length := by
  have := sumF_up (fun _ => none) h0 h1 (some (s, r))
  rw [sumF_none] at this
  simpa [szF] using this
theorem getF_one (n : Int) (s r : List Int) : getF (oneF' n s r) n = (s, r) := by unfold getF oneF'; rw [upF_same]; rfl
theorem crashF_one (l : List S33) (n : Int) (s r : List Int) : crashF l (oneF' n s r) = oneF' n (crashX (tailOf l n) (s, r)).1 [] := by
  funext y
  by_cases e : y = n
  · subst e
    unfold crashF oneF'
    rw [upF_same, upF_same]
    rfl
  · unfold crashF oneF'
    rw [upF_other _ _ e, upF_other _ _ e]
    rfl
theorem live_tail : (crashX (tailOf [(⟨1, 1, 0⟩ : S33)] 1) ([97, 98], [99, 100])).1 = [97, 98, 99] := by kernel_rfl
set_option maxHeartbeats 4000000 in
set_option maxRecDepth 100000 in
theorem live14_any (w : World) : Calls Try.prog 8 #[] w fun e w' => e = .returned (.bool true) ∧ Below w.heap.size w w' := by
  have kc := fun (w : World) (C : Array Value) (n c g : Nat) (hg : g = w.heap.size) => Joins.run_convert_bytes_const_at (P := Try.prog) w 22 5 C n c g hg Try.underlying22 Try.underlying5
  go_enter Try.func8, Try.ntmps8
  go_wp2_with fail
  refine (dr_new (Below.refl _ w) 100 (by omega)).mono ?_
  rintro e w1 ⟨g, mb, rfl, h1⟩
  go_wp2_with fail
  refine (num_any 0 w1).mono ?_
  rintro e w2 ⟨rfl, hd2⟩
  have h2 := h1.below hd2.below
  obtain ⟨w3, hw3⟩ : ∃ w3, ((w2.alloc (.cells (nums .u8 [97]).toArray 5 (1, 2))).alloc (.cells (nums .u8 [98]).toArray 5 (1, 2))).alloc (.cells #[.slice (some ⟨w2.heap.size, 0, none⟩) [97].length [97].length, .slice (some ⟨w2.heap.size + 1, 0, none⟩) [98].length [98].length] 22) = w3 := ⟨_, rfl⟩
  obtain ⟨hF3, hb3⟩ := lit2 w2 (1, 2) [97] [98] (by decide) (by decide) hw3
  have hw3' : ((w2.alloc (.cells #[.int .u8 97] 5 (1, 2))).alloc (.cells #[.int .u8 98] 5 (1, 2))).alloc (.cells #[.slice (some ⟨w2.heap.size, 0, none⟩) 1 1, .slice (some ⟨w2.heap.size + 1, 0, none⟩) 1 1] 22) = w3 := hw3
  have hap := h2.append_ok hb3 (n := 1) (by omega) (by omega) (by omega) (by omega) (by omega) (by omega) (c := 2) hF3 (fun k hk => .inr hk) (by rw [sumF_none]; decide)
  have hap : Calls Try.prog 11 #[dptr g, .int .i64 1, .slice (some ⟨w2.heap.size + 2, 0, none⟩) 2 2] w3 _ := hap
  have HAP := Lib.hid hap
  clear hap hF3 hw3 h1 hd2
  go_wp2_with fail
  refine HAP.out.mono ?_
  rintro e w4 ⟨rfl, h4⟩
  have h4 : Dr w w4 g mb (oneF' 1 [] [97, 98]) 100 (-1) false 1 := h4
  clear HAP hw3' h2 hb3
  go_wp2_with fail
  refine (num_any 0 w4).mono ?_
  rintro e w5 ⟨rfl, hd5⟩
  have h5 := h4.below hd5.below
  clear h4 hd5
  go_wp2_with fail
  refine (h5.sync_ok (n := 1) (by omega) (by omega) (by omega) (by omega) (by omega) (by omega) (upF_same _ _ _)).mono ?_
  rintro e w6 ⟨rfl, h6⟩
  rw [upF_upF] at h6
  have h6 : Dr w w6 g mb (oneF' 1 [97, 98] []) 100 (-1) false 2 := h6
  clear h5
  go_wp2_with fail
  refine (num_any 0 w6).mono ?_
  rintro e w7 ⟨rfl, hd7⟩
  have h7 := h6.below hd7.below
  clear h6 hd7
  obtain ⟨w8, hw8⟩ : ∃ w8, (w7.alloc (.cells (nums .u8 [99, 100]).toArray 5 (2, 3))).alloc (.cells #[.slice (some ⟨w7.heap.size, 0, none⟩) [99, 100].length [99, 100].length] 22) = w8 := ⟨_, rfl⟩
  obtain ⟨hF8, hb8⟩ := lit1 w7 (2, 3) [99, 100] (by decide) hw8
  have hw8' : (w7.alloc (.cells #[.int .u8 99, .int .u8 100] 5 (2, 3))).alloc (.cells #[.slice (some ⟨w7.heap.size, 0, none⟩) 2 2] 22) = w8 := hw8
  have hap := h7.append_ok hb8 (n := 1) (by omega) (by omega) (by omega) (by omega) (by omega) (by omega) (c := 1) hF8 (fun k hk => .inr hk) (by rw [sumF_one (by omega) (by omega)]; decide)
  rw [getF_one, upF_upF] at hap
  have hap : Calls Try.prog 11 #[dptr g, .int .i64 1, .slice (some ⟨w7.heap.size + 1, 0, none⟩) 1 1] w8 fun e w' => e = .returned (.int .i64 0) ∧ Dr w w' g mb (oneF' 1 [97, 98] [99, 100]) 100 (-1) false 3 := hap
  have HAP := Lib.hid hap
  clear hap hF8 hw8
  go_wp2_with fail
  refine HAP.out.mono ?_
  rintro e w9 ⟨rfl, h9⟩
  clear HAP hw8' h7 hb8
  go_wp2_with fail
  refine (num_any 0 w9).mono ?_
  rintro e w10 ⟨rfl, hd10⟩
  have h10 := h9.below hd10.below
  clear h9 hd10
  obtain ⟨w11, hw11⟩ : ∃ w11, w10.alloc (.cells #[.int .i64 1, .int .i64 1, .int .u8 0] 33) = w11 := ⟨_, rfl⟩
  have hb11 : Below w10.heap.size w10 w11 := hw11 ▸ (Below.refl _ _).alloc (Nat.le_refl _) _
  have hB11 : Blk w11 w10.heap.size 33 #[.int .i64 1, .int .i64 1, .int .u8 0] := hw11 ▸ Blk.new w10 33 _
  have hF11 : Kd.F k33 w11 (fun k => w10.heap.size ≤ k) (some ⟨w10.heap.size, 0, none⟩) [(⟨1, 1, 0⟩ : S33)].length [⟨1, 1, 0⟩] := F_tails hB11 (Nat.le_refl _) (by show 1 ≤ _; omega) fun j x hj => by
    rcases j with _ | j
    · simp only [List.getElem?_cons_zero, Option.some.injEq] at hj
      subst hj
      exact ⟨rfl, rfl, rfl⟩
    · simp at hj
  have hcr := h10.crash hb11 (c := 1) hF11 (fun k hk => .inr hk)
  have hcr : Calls Try.prog 13 #[dptr g, .slice (some ⟨w10.heap.size, 0, none⟩) 1 1] w11 _ := hcr
  have HCR := Lib.hid hcr
  clear hcr hF11 hB11
  go_wp2_with fail
  refine HCR.out.mono ?_
  rintro e w12 ⟨rfl, h12⟩
  rw [crashF_one, live_tail] at h12
  clear HCR h10 hb11 hw11
  go_wp2_with fail
  refine (h12.read_ok (n := 1) (by omega) (upF_same _ _ _)).mono ?_
  rintro e w13 ⟨v, rfl, hv, hb13, h13⟩
  obtain ⟨A13, c13, rfl, hrd⟩ := own_reads hv
  have HV := Lib.hid hv
  have hg12 := h12.glt
  clear h12 hv hrd
  go_wp2_with fail
  refine (h13.armU 0).mono ?_
  rintro e w14 ⟨rfl, h14, hu14⟩
  go_wp2_with fail
  refine (num_any 0 w14).mono ?_
  rintro e w15 ⟨rfl, hd15⟩
  have h15 := h14.below hd15.below
  have hst := ((HV.out.upd hu14 (fun k hk e => by have := (HV.out.ge k hk).1; omega)).upd (Upd.of_below hd15.below (fun _ => False)) (fun _ _ h => h)).str
  have hst : (convert 22 9 (.slice A13 3 c13)).run Try.prog w15 = .ok (.string ⟨#[97, 98, 99]⟩) w15 := hst
  clear h13 h14 hb13 hu14 hd15
  go_wp2_with fail
  refine (h15.sync_dead (n := 1) (by omega) (.inr rfl)).mono ?_
  rintro e w16 ⟨rfl, h16⟩
  clear h15 hst
  go_wp2_with fail
  refine (num_any 140 w16).mono ?_
  rintro e w17 ⟨rfl, hd17⟩
  have h17 := h16.below hd17.below
  clear h16 hd17
  go_wp2_with fail
  refine h17.isDead.mono ?_
  rintro e w18 ⟨rfl, rfl⟩
  go_wp2_with fail
  refine h17.ops_.mono ?_
  rintro e w18 ⟨rfl, rfl⟩
  go_wp2_with fail
  have hfr := h17.free
  rw [sumF_one (by omega) (by omega)] at hfr
  refine hfr.mono ?_
  rintro e w18 ⟨rfl, rfl⟩
  clear hfr
  go_wp2_with fail
  refine (h17.append_arg (n := 0) (by omega)).mono ?_
  rintro e w18 ⟨rfl, h18⟩
  clear h17
  go_wp2_with fail
  refine (num_any 2 w18).mono ?_
  rintro e w19 ⟨rfl, hd19⟩
  have h19 := h18.below hd19.below
  clear h18 hd19
  go_wp2_with fail
  go_ret
  exact ⟨rfl, h19.1⟩
end Go.Proofs.Ytnimghkkhiacfaa.P
