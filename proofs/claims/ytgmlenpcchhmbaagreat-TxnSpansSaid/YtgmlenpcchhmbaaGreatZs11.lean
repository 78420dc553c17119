/- what the claim's row stands on, part 11. -/
import Derived.Test.YtgmlenpcchhmbaaGreatZs10
import Derived.Test.YtgmlenpcchhmbaaGreatZs4
import Derived.Test.YtgmlenpcchhmbaaGreatZs6
import Derived.Test.YtgmlenpcchhmbaaGreatZs7
import Derived.Test.YtgmlenpcchhmbaaGreatZs9
import Derived.Test.YtgmlenpcchhmbaaGreatZs2
import Derived.Test.YtgmlenpcchhmbaaGreatZs3
import Derived.Test.YtgmlenpcchhmbaaGreatZs5
section
set_option linter.unusedVariables false
set_option linter.unusedSimpArgs false
namespace Go.Proofs.YtgmlenpcchhmbaaGreat.P
open Go.RowKit Go.Sort Go.Shelf Go.Proofs.YtgmlenpcchhmbaaGreatW.PrintWords Go.Proofs.YtgmlenpcchhmbaaGreatW.PrintLast Go.Proofs.YtgmlenpcchhmbaaGreatW.PrintMore
theorem RowSp.under {w w' : World} {b : Nat} {v : Value} {xs : List S71} (h : RowSp w b v xs) (hb : Below w.heap.size w w') : RowSp w' b v xs := pw_own_below h hb
theorem dropSp {A : Option Addr} {ca : Nat} {x : S71} {xs : List S71} (hc : (x :: xs).length ≤ ca) : ∃ A2 c2, xs.length ≤ c2 ∧ (∀ W : World, (Instr.slice 40 (.slice A (xs.length + 1) ca) (some (.int .i64 1)) none none).run Tryz.prog W = .ok (.slice A2 xs.length c2) W) ∧ ∀ W : World, Kd.C k71 W A (x :: xs).length (x :: xs) → Kd.C k71 W A2 xs.length xs := by
  obtain ⟨i0, hi0, _, hsz, _⟩ := info_parts info71
  simp only [List.length_cons] at hc
  refine ⟨(if ca = 1 then A else A.map (·.add (1 * 2))), ca - 1, by omega, fun W => ?_, fun W hC => ?_⟩
  rotate_left
  · have := Kd.C_drop (c := ca) (m := 1) hC (by simp) (by simpa using hc)
    rw [List.drop_one, List.tail_cons] at this
    exact this
  · have := cut_from (P := Tryz.prog) 40 71 .i64 Tryz.underlying40 hi0 2 hsz A (xs.length + 1) ca 1 (by omega) (by omega) W
    exact this
set_option maxHeartbeats 8000000 in
set_option maxRecDepth 100000 in
theorem cut_any (A : Option Addr) (c : Nat) (a : List S71) (B : Option Addr) (cb : Nat) (b : List S71) (w : World) (hr : Kd.C k71 w A a.length a) (hc : a.length ≤ c) (hs : Kd.C k71 w B b.length b) (hcb : b.length ≤ cb) (hab : a.length + b.length ≤ 1000000) :
    Calls Tryz.prog 137 #[.slice A a.length c, .slice B b.length cb] w fun e w' => ∃ v, e = .returned v ∧ RowSp w' w.heap.size v (cutL a b) ∧ Below w.heap.size w w' := by
  have HX := Lib.hid (And.intro hr (And.intro hc (And.intro hs (And.intro hcb hab))))
  clear hr hc hs hcb hab
  go_enter Tryz.func137, Tryz.ntmps137
  go_wp2_with fail
  go_loopw [0, 1, 4, 5, 13] (fun sa sb so _ _ wq => ∃ (a' b' out : List S71) (A' B' C' : Option Addr) (ca cc co : Nat), sa = .slice A' a'.length ca ∧ sb = .slice B' b'.length cc ∧ so = .slice C' out.length co ∧ RowKit.Hid (a'.length ≤ ca ∧ b'.length ≤ cc ∧ Kd.C k71 w A' a'.length a' ∧ Kd.C k71 w B' b'.length b' ∧ cutL a b = out ++ cutL a' b' ∧ a'.length + b'.length ≤ 1000000 ∧ out.length + a'.length + b'.length ≤ a.length + b.length ∧ RowSp wq w.heap.size (.slice C' out.length co) out ∧ Below w.heap.size w wq)) (fun sa sb _ _ _ _ => lenV sa + lenV sb)
  case atStart => exact ⟨a, b, [], A, B, none, c, cb, 0, rfl, rfl, rfl, Lib.hid ⟨HX.out.2.1, HX.out.2.2.2.1, HX.out.1, HX.out.2.2.1, rfl, HX.out.2.2.2.2, by simp, own_nil _ _ _ _, Below.refl _ _⟩⟩
  case round =>
    obtain ⟨a', b', out, A', B', C', ca, cc, co, rfl, rfl, rfl, HR⟩ := hrel
    rename World => wq
    rcases a' with _ | ⟨s, a'⟩
    · have HZ := Lib.hid (show cutL a b = out by rw [HR.out.2.2.2.2.1, cutL, List.append_nil])
      go_wp2
      go_ret
      exact ⟨_, rfl, by rw [HZ.out]; exact HR.out.2.2.2.2.2.2.2.1, HR.out.2.2.2.2.2.2.2.2⟩
    · rcases b' with _ | ⟨t, b'⟩
      · have HZ := Lib.hid (show cutL a b = out by rw [HR.out.2.2.2.2.1, cutL, List.append_nil])
        go_wp2
        go_ret
        exact ⟨_, rfl, by rw [HZ.out]; exact HR.out.2.2.2.2.2.2.2.1, HR.out.2.2.2.2.2.2.2.2⟩
      · obtain ⟨al, rfl, x0, x1⟩ := at_T71 HR.out.2.2.1 0 (by omega) (by simp)
        obtain ⟨bl, rfl, y0, y1⟩ := at_T71 HR.out.2.2.2.1 0 (by omega) (by simp)
        obtain ⟨s0, s1⟩ := s
        obtain ⟨t0, t1⟩ := t
        obtain ⟨M, hM⟩ : ∃ M, (if klt s0 t0 = true then t0 else s0) = M := ⟨_, rfl⟩
        obtain ⟨E, hE⟩ : ∃ E, leastE s1 t1 = E := ⟨_, rfl⟩
        have hcS : cutS ⟨s0, s1⟩ ⟨t0, t1⟩ = ⟨M, E⟩ := by unfold cutS; rw [← hM, ← hE]
        have hmx : ∀ (ats : Array TypeId) (ty : TypeId) (W : World), (Builtin.max_ ats ty #[.string s0, .string t0]).run Tryz.prog W = .ok (.string M) W := fun ats ty W => by rw [max_str, hM]
        have HLE := Lib.hid (fun (W : World) => (least_any s1 t1 W).mono (fun (e : Ending) (w' : World) (h : e = .returned (.string (leastE s1 t1)) ∧ w' = W) => (show e = .returned (.string E) ∧ w' = W from hE ▸ h)))
        have HCS := Lib.hid hcS
        obtain ⟨q, hq⟩ : ∃ q, emptyS ⟨M, E⟩ = q := ⟨_, rfl⟩
        have HEM := Lib.hid (fun (W : World) => (empty_any ⟨M, E⟩ W).mono (fun (e : Ending) (w' : World) (h : e = .returned (.bool (emptyS ⟨M, E⟩)) ∧ Below W.heap.size W w') => (show e = .returned (.bool q) ∧ Below W.heap.size W w' from hq ▸ h)))
        have HQ := Lib.hid hq
        have ea : al.add 0 = al := by cases al; rfl
        have eb : bl.add 0 = bl := by cases bl; rfl
        replace x0 : w.cell? al = some (.string s0) := by rw [← ea]; exact x0
        replace x1 : w.cell? ⟨al.block, al.off + 1, none⟩ = some (.string s1) := by rw [← ea]; exact x1
        replace y0 : w.cell? bl = some (.string t0) := by rw [← eb]; exact y0
        replace y1 : w.cell? ⟨bl.block, bl.off + 1, none⟩ = some (.string t1) := by rw [← eb]; exact y1
        have HBw := HR.out.2.2.2.2.2.2.2.2
        have x0' : wq.cell? al = some (.string s0) := pw_cell_below HBw x0
        have x1' : wq.cell? ⟨al.block, al.off + 1, none⟩ = some (.string s1) := pw_cell_below HBw x1
        have y0' : wq.cell? bl = some (.string t0) := pw_cell_below HBw y0
        have y1' : wq.cell? ⟨bl.block, bl.off + 1, none⟩ = some (.string t1) := pw_cell_below HBw y1
        have HX1 := Lib.hid (show w.cell? ⟨al.block, al.off + 1, none⟩ = some (.string s1) from x1)
        obtain ⟨A2, c2, hc2, hcut2, hC2⟩ := dropSp (x := (⟨s0, s1⟩ : S71)) (xs := a') (A := some al) HR.out.1
        obtain ⟨A3, c3, hc3, hcut3, hC3⟩ := dropSp (x := (⟨t0, t1⟩ : S71)) (xs := b') (A := some bl) HR.out.2.1
        have H23 := Lib.hid (And.intro (And.intro hc2 hC2) (And.intro hc3 hC3))
        have hxne : some wq.heap.size ≠ (Value.slice C' out.length co).ownBlock := fun e => by
          have := own_lt HR.out.2.2.2.2.2.2.2.1 _ e.symm
          omega
        have HNE := Lib.hid hxne
        clear hM hE hcS hq x0 x1 y0 y1 ea eb HBw hc2 hC2 hc3 hC3 hxne
        go_wp2_with fail
        refine wp_region_last1_held (S := (fun W => Below wq.heap.size wq W ∧ W.cell? al = some (.string s0) ∧ W.cell? ⟨al.block, al.off + 1, none⟩ = some (.string s1) ∧ W.cell? bl = some (.string t0) ∧ W.cell? ⟨bl.block, bl.off + 1, none⟩ = some (.string t1))) (l := [_, _, _, _, _, _, _, _, _, _, _, _, _, _, _, _, _, _, _, _]) (o := _) (by kernel_rfl) (by kernel_rfl) ?_;simp only [List.size_toArray, List.length_cons, List.length_nil, Nat.zero_add, Nat.reduceAdd]
        have hHeld : ((fun W => Below wq.heap.size wq W ∧ W.cell? al = some (.string s0) ∧ W.cell? ⟨al.block, al.off + 1, none⟩ = some (.string s1) ∧ W.cell? bl = some (.string t0) ∧ W.cell? ⟨bl.block, bl.off + 1, none⟩ = some (.string t1))) wq.drew := ⟨below_drew (Below.refl _ _), x0', x1', y0', y1'⟩
        refine tk_ 0 hHeld ?_;refine tk_ 1 hHeld ?_;refine tk_ 2 hHeld ?_;refine tk_ 3 hHeld ?_;refine tk_ 4 hHeld ?_;refine tk_ 5 hHeld ?_;refine tk_ 6 hHeld ?_;refine tk_ 7 hHeld ?_;refine tk_ 8 hHeld ?_;refine tk_ 9 hHeld ?_;refine tk_ 10 hHeld ?_;refine tk_ 11 hHeld ?_;refine tk_ 12 hHeld ?_;refine tk_ 13 hHeld ?_;refine tk_ 14 hHeld ?_;refine tk_ 15 hHeld ?_;refine tk_ 16 hHeld ?_;refine wpAnyH_ready (rs := [17, 19]) (by kernel_rfl) (by simp) ?_;refine (AllReadyH.cons rfl (fun K hK => ?_) (AllReadyH.cons rfl (fun K hK => ?_) AllReadyH.nil))
        · go_simp;refine (HLE.out _).mono ?_
          rintro e wn ⟨rfl, rfl⟩
          refine hK.out _ _ ?_ (fun hHeld => ?_)
          · exact hHeld
          clear hK K
          try simp only [List.getElem_toArray, List.getElem_cons_succ, List.getElem_cons_zero, Act.put, List.setIfInBounds_toArray, List.set_cons_zero, List.set_cons_succ]
          refine tk_ 18 hHeld ?_;refine wpAnyH_ready (rs := [19]) (by kernel_rfl) (by simp) ?_;refine (AllReadyH.cons rfl (fun K hK => ?_) AllReadyH.nil);go_simp;refine hK.out _ _ ?_ (fun hHeld => ?_)
          · exact ⟨hHeld.1.alloc hHeld.1.size _, cellA hHeld.2.1 _, cellA hHeld.2.2.1 _, cellA hHeld.2.2.2.1 _, cellA hHeld.2.2.2.2 _⟩
          clear hK K
          try simp only [List.getElem_toArray, List.getElem_cons_succ, List.getElem_cons_zero, Act.put, List.setIfInBounds_toArray, List.set_cons_zero, List.set_cons_succ]
          refine wpAnyH_done (by kernel_rfl) ?_ _;refine lastPost_wp ?_
          go_wp2_with fail
          refine (HEM.out _).mono ?_
          rintro e wn ⟨rfl, hbn⟩
          have hb1 : Below wq.heap.size wq (wq.alloc (.cells #[.string M, .string E] 71)).drew := below_drew ((Below.refl _ _).alloc (Nat.le_refl _) _)
          have hbn2 : Below wq.heap.size wq wn := hb1.trans (hbn.mono hb1.size)
          have hBs : Blk wn wq.heap.size 71 #[.string M, .string E] := (Blk.new wq 71 #[.string M, .string E]).drew.below hbn (by simp)
          have HN := Lib.hid (And.intro hbn2 hBs)
          clear hb1 hbn hbn2 hBs hHeld hmx
          have m0 : wn.cell? ⟨wq.heap.size, 0, none⟩ = some (.string M) := HN.out.2.cell 0
          have m1 : wn.cell? ⟨wq.heap.size, 1, none⟩ = some (.string E) := HN.out.2.cell 1
          cases q
          · go_wp2_with (first | ((with_reducible refine gate_builtin (b := .append) (xs := #[.tmp 36, .tmp 38]) rfl ?_); at_builtin; refine stop_append rfl ?_))
            refine Lib.hid ?_
            have HB9 := Lib.hid (HR.out.2.2.2.2.2.2.2.2.trans (HN.out.1.mono HR.out.2.2.2.2.2.2.2.2.size))
            refine Kd.R_append k71 (w0 := w) w.heap.size rfl (.tmp 36) (.tmp 38) 40 71 (.agg #[.string ⟨#[]⟩, .string ⟨#[]⟩]) 32 rfl Tryz.underlying40 info71 rfl (by decide) (by decide) (.slice _ out.length co) out ⟨M, E⟩ [.string M, .string E] (fun _ => True) (fun _ => False) rfl rfl (k71_mkM _ _ _ _) (fun _ h => h.elim) (fun _ _ => trivial) (RowSp.R (pw_own_below HR.out.2.2.2.2.2.2.2.1 HN.out.1)) HB9.out HB9.out.size (by have := HX.out.2.2.2.2; have := HR.out.2.2.2.2.2.2.1; simp only [List.length_cons] at *; omega) ?_;intro v9 w9 hS9 hB9 hg9 hat9
            have hBs9 := HN.out.2.grown hg9 HNE.out
            obtain ⟨A9, c9, e9⟩ := Kd.R_slice hS9
            have HN9 := Lib.hid (And.intro (RowSp.of_R hS9) hB9)
            rw [e9] at HN9
            rw [e9]
            have m1' : w9.cell? ⟨wq.heap.size, 1, none⟩ = some (.string E) := hBs9.cell 1
            have x1'' : w9.cell? ⟨al.block, al.off + 1, none⟩ = some (.string s1) := pw_cell_below hB9 HX1.out
            clear hS9 hB9 hg9 hat9 e9 m0 m1 hBs9 x0' x1' y0' y1'
            have HCL := Lib.hid (show cutL (⟨s0, s1⟩ :: a') (⟨t0, t1⟩ :: b') = [⟨M, E⟩] ++ (if E = s1 then cutL a' (⟨t0, t1⟩ :: b') else cutL (⟨s0, s1⟩ :: a') b') by
              rw [cutL, HCS.out, if_neg (show ¬ noneS (⟨M, E⟩ : S71) = true by rw [show noneS (⟨M, E⟩ : S71) = false from HQ.out]; simp)])
            by_cases he : E = s1
            · have hbe : (E.toList == s1.toList) = true := by rw [he]; simp
              have HE := Lib.hid he
              clear he
              go_wp2_with fail
              refine wp_region_held (S := (fun W => Below w9.heap.size w9 W ∧ W.cell? ⟨wq.heap.size, 1, none⟩ = some (.string E) ∧ W.cell? ⟨al.block, al.off + 1, none⟩ = some (.string s1))) (by kernel_rfl) ?_;simp only [List.size_toArray, List.length_cons, List.length_nil, Nat.zero_add, Nat.reduceAdd]
              have hHeld : ((fun W => Below w9.heap.size w9 W ∧ W.cell? ⟨wq.heap.size, 1, none⟩ = some (.string E) ∧ W.cell? ⟨al.block, al.off + 1, none⟩ = some (.string s1))) w9.drew := ⟨below_drew (Below.refl _ _), m1', x1''⟩
              refine tk_ 0 hHeld ?_;refine tk_ 1 hHeld ?_;refine tk_ 2 hHeld ?_;refine tk_ 3 hHeld ?_;refine tk_ 4 hHeld ?_;refine tk_ 5 hHeld ?_;refine tk_ 6 hHeld ?_;refine wpAnyH_done (by kernel_rfl) ?_ _
              obtain ⟨hq1, hq2, hq3⟩ := hHeld
              have HQ1 := Lib.hid hq1
              clear hq1 hq2 hq3 m1' x1''
              go_wp2
              go_roundw
              case rel => exact ⟨a', ⟨t0, t1⟩ :: b', (out++[⟨M,E⟩]), A2, some bl, A9, c2, cc, c9, rfl, by simp, by simp, Lib.hid ⟨H23.out.1.1, HR.out.2.1, H23.out.1.2 _ HR.out.2.2.1, HR.out.2.2.2.1, by rw [HR.out.2.2.2.2.1, HCL.out, if_pos HE.out]; simp, by have := HR.out.2.2.2.2.2.1; simp only [List.length_cons] at *; omega, by have := HR.out.2.2.2.2.2.2.1; simp only [List.length_cons, List.length_append, List.length_nil] at *; omega, RowSp.under HN9.out.1 HQ1.out, HN9.out.2.trans (HQ1.out.mono HN9.out.2.size)⟩⟩
              case measure => (simp [lenV]; try omega)
            · have hbe : (E.toList == s1.toList) = false := by rw [beq_eq_false_iff_ne]; intro h; exact he (toList_inj.1 h)
              have HE := Lib.hid he
              clear he
              go_wp2_with fail
              refine wp_region_held (S := (fun W => Below w9.heap.size w9 W ∧ W.cell? ⟨wq.heap.size, 1, none⟩ = some (.string E) ∧ W.cell? ⟨al.block, al.off + 1, none⟩ = some (.string s1))) (by kernel_rfl) ?_;simp only [List.size_toArray, List.length_cons, List.length_nil, Nat.zero_add, Nat.reduceAdd]
              have hHeld : ((fun W => Below w9.heap.size w9 W ∧ W.cell? ⟨wq.heap.size, 1, none⟩ = some (.string E) ∧ W.cell? ⟨al.block, al.off + 1, none⟩ = some (.string s1))) w9.drew := ⟨below_drew (Below.refl _ _), m1', x1''⟩
              refine tk_ 0 hHeld ?_;refine tk_ 1 hHeld ?_;refine tk_ 2 hHeld ?_;refine tk_ 3 hHeld ?_;refine tk_ 4 hHeld ?_;refine tk_ 5 hHeld ?_;refine tk_ 6 hHeld ?_;refine wpAnyH_done (by kernel_rfl) ?_ _
              obtain ⟨hq1, hq2, hq3⟩ := hHeld
              have HQ1 := Lib.hid hq1
              clear hq1 hq2 hq3 m1' x1''
              go_wp2
              go_roundw
              case rel => exact ⟨⟨s0, s1⟩ :: a', b', (out++[⟨M,E⟩]), some al, A3, A9, ca, c3, c9, by simp, rfl, by simp, Lib.hid ⟨HR.out.1, H23.out.2.1, HR.out.2.2.1, H23.out.2.2 _ HR.out.2.2.2.1, by rw [HR.out.2.2.2.2.1, HCL.out, if_neg HE.out]; simp, by have := HR.out.2.2.2.2.2.1; simp only [List.length_cons] at *; omega, by have := HR.out.2.2.2.2.2.2.1; simp only [List.length_cons, List.length_append, List.length_nil] at *; omega, RowSp.under HN9.out.1 HQ1.out, HN9.out.2.trans (HQ1.out.mono HN9.out.2.size)⟩⟩
              case measure => (simp [lenV]; try omega)
          · have hB9 := HR.out.2.2.2.2.2.2.2.2.trans (HN.out.1.mono HR.out.2.2.2.2.2.2.2.2.size)
            have x1'' : wn.cell? ⟨al.block, al.off + 1, none⟩ = some (.string s1) := pw_cell_below hB9 HX1.out
            have m1' : wn.cell? ⟨wq.heap.size, 1, none⟩ = some (.string E) := m1
            have HN9 := Lib.hid (And.intro (pw_own_below HR.out.2.2.2.2.2.2.2.1 HN.out.1) hB9)
            clear m0 m1 x0' x1' y0' y1' hB9
            have HCL := Lib.hid (show cutL (⟨s0, s1⟩ :: a') (⟨t0, t1⟩ :: b') = [] ++ (if E = s1 then cutL a' (⟨t0, t1⟩ :: b') else cutL (⟨s0, s1⟩ :: a') b') by
              rw [cutL, HCS.out, if_pos (show noneS (⟨M, E⟩ : S71) = true from HQ.out)])
            by_cases he : E = s1
            · have hbe : (E.toList == s1.toList) = true := by rw [he]; simp
              have HE := Lib.hid he
              clear he
              go_wp2_with fail
              refine wp_region_held (S := (fun W => Below wn.heap.size wn W ∧ W.cell? ⟨wq.heap.size, 1, none⟩ = some (.string E) ∧ W.cell? ⟨al.block, al.off + 1, none⟩ = some (.string s1))) (by kernel_rfl) ?_;simp only [List.size_toArray, List.length_cons, List.length_nil, Nat.zero_add, Nat.reduceAdd]
              have hHeld : ((fun W => Below wn.heap.size wn W ∧ W.cell? ⟨wq.heap.size, 1, none⟩ = some (.string E) ∧ W.cell? ⟨al.block, al.off + 1, none⟩ = some (.string s1))) wn.drew := ⟨below_drew (Below.refl _ _), m1', x1''⟩
              refine tk_ 0 hHeld ?_;refine tk_ 1 hHeld ?_;refine tk_ 2 hHeld ?_;refine tk_ 3 hHeld ?_;refine tk_ 4 hHeld ?_;refine tk_ 5 hHeld ?_;refine tk_ 6 hHeld ?_;refine wpAnyH_done (by kernel_rfl) ?_ _
              obtain ⟨hq1, hq2, hq3⟩ := hHeld
              have HQ1 := Lib.hid hq1
              clear hq1 hq2 hq3 m1' x1''
              go_wp2
              go_roundw
              case rel => exact ⟨a', ⟨t0, t1⟩ :: b', out, A2, some bl, C', c2, cc, co, rfl, by simp, by simp, Lib.hid ⟨H23.out.1.1, HR.out.2.1, H23.out.1.2 _ HR.out.2.2.1, HR.out.2.2.2.1, by rw [HR.out.2.2.2.2.1, HCL.out, if_pos HE.out]; simp, by have := HR.out.2.2.2.2.2.1; simp only [List.length_cons] at *; omega, by have := HR.out.2.2.2.2.2.2.1; simp only [List.length_cons, List.length_append, List.length_nil] at *; omega, RowSp.under HN9.out.1 HQ1.out, HN9.out.2.trans (HQ1.out.mono HN9.out.2.size)⟩⟩
              case measure => (simp [lenV]; try omega)
            · have hbe : (E.toList == s1.toList) = false := by rw [beq_eq_false_iff_ne]; intro h; exact he (toList_inj.1 h)
              have HE := Lib.hid he
              clear he
              go_wp2_with fail
              refine wp_region_held (S := (fun W => Below wn.heap.size wn W ∧ W.cell? ⟨wq.heap.size, 1, none⟩ = some (.string E) ∧ W.cell? ⟨al.block, al.off + 1, none⟩ = some (.string s1))) (by kernel_rfl) ?_;simp only [List.size_toArray, List.length_cons, List.length_nil, Nat.zero_add, Nat.reduceAdd]
              have hHeld : ((fun W => Below wn.heap.size wn W ∧ W.cell? ⟨wq.heap.size, 1, none⟩ = some (.string E) ∧ W.cell? ⟨al.block, al.off + 1, none⟩ = some (.string s1))) wn.drew := ⟨below_drew (Below.refl _ _), m1', x1''⟩
              refine tk_ 0 hHeld ?_;refine tk_ 1 hHeld ?_;refine tk_ 2 hHeld ?_;refine tk_ 3 hHeld ?_;refine tk_ 4 hHeld ?_;refine tk_ 5 hHeld ?_;refine tk_ 6 hHeld ?_;refine wpAnyH_done (by kernel_rfl) ?_ _
              obtain ⟨hq1, hq2, hq3⟩ := hHeld
              have HQ1 := Lib.hid hq1
              clear hq1 hq2 hq3 m1' x1''
              go_wp2
              go_roundw
              case rel => exact ⟨⟨s0, s1⟩ :: a', b', out, some al, A3, C', ca, c3, co, by simp, rfl, by simp, Lib.hid ⟨HR.out.1, H23.out.2.1, HR.out.2.2.1, H23.out.2.2 _ HR.out.2.2.2.1, by rw [HR.out.2.2.2.2.1, HCL.out, if_neg HE.out]; simp, by have := HR.out.2.2.2.2.2.1; simp only [List.length_cons] at *; omega, by have := HR.out.2.2.2.2.2.2.1; simp only [List.length_cons, List.length_append, List.length_nil] at *; omega, RowSp.under HN9.out.1 HQ1.out, HN9.out.2.trans (HQ1.out.mono HN9.out.2.size)⟩⟩
              case measure => (simp [lenV]; try omega)
        · go_simp;refine hK.out _ _ ?_ (fun hHeld => ?_)
          · exact ⟨hHeld.1.alloc hHeld.1.size _, cellA hHeld.2.1 _, cellA hHeld.2.2.1 _, cellA hHeld.2.2.2.1 _, cellA hHeld.2.2.2.2 _⟩
          clear hK K
          try simp only [List.getElem_toArray, List.getElem_cons_succ, List.getElem_cons_zero, Act.put, List.setIfInBounds_toArray, List.set_cons_zero, List.set_cons_succ]
          refine wpAnyH_ready (rs := [17]) (by kernel_rfl) (by simp) ?_;refine (AllReadyH.cons rfl (fun K hK => ?_) AllReadyH.nil);go_simp;refine (HLE.out _).mono ?_
          rintro e wn ⟨rfl, rfl⟩
          refine hK.out _ _ ?_ (fun hHeld => ?_)
          · exact hHeld
          clear hK K
          try simp only [List.getElem_toArray, List.getElem_cons_succ, List.getElem_cons_zero, Act.put, List.setIfInBounds_toArray, List.set_cons_zero, List.set_cons_succ]
          refine tk_ 18 hHeld ?_;refine wpAnyH_done (by kernel_rfl) ?_ _;refine lastPost_wp ?_
          go_wp2_with fail
          refine (HEM.out _).mono ?_
          rintro e wn ⟨rfl, hbn⟩
          have hb1 : Below wq.heap.size wq (wq.alloc (.cells #[.string M, .string E] 71)).drew := below_drew ((Below.refl _ _).alloc (Nat.le_refl _) _)
          have hbn2 : Below wq.heap.size wq wn := hb1.trans (hbn.mono hb1.size)
          have hBs : Blk wn wq.heap.size 71 #[.string M, .string E] := (Blk.new wq 71 #[.string M, .string E]).drew.below hbn (by simp)
          have HN := Lib.hid (And.intro hbn2 hBs)
          clear hb1 hbn hbn2 hBs hHeld hmx
          have m0 : wn.cell? ⟨wq.heap.size, 0, none⟩ = some (.string M) := HN.out.2.cell 0
          have m1 : wn.cell? ⟨wq.heap.size, 1, none⟩ = some (.string E) := HN.out.2.cell 1
          cases q
          · go_wp2_with (first | ((with_reducible refine gate_builtin (b := .append) (xs := #[.tmp 36, .tmp 38]) rfl ?_); at_builtin; refine stop_append rfl ?_))
            refine Lib.hid ?_
            have HB9 := Lib.hid (HR.out.2.2.2.2.2.2.2.2.trans (HN.out.1.mono HR.out.2.2.2.2.2.2.2.2.size))
            refine Kd.R_append k71 (w0 := w) w.heap.size rfl (.tmp 36) (.tmp 38) 40 71 (.agg #[.string ⟨#[]⟩, .string ⟨#[]⟩]) 32 rfl Tryz.underlying40 info71 rfl (by decide) (by decide) (.slice _ out.length co) out ⟨M, E⟩ [.string M, .string E] (fun _ => True) (fun _ => False) rfl rfl (k71_mkM _ _ _ _) (fun _ h => h.elim) (fun _ _ => trivial) (RowSp.R (pw_own_below HR.out.2.2.2.2.2.2.2.1 HN.out.1)) HB9.out HB9.out.size (by have := HX.out.2.2.2.2; have := HR.out.2.2.2.2.2.2.1; simp only [List.length_cons] at *; omega) ?_;intro v9 w9 hS9 hB9 hg9 hat9
            have hBs9 := HN.out.2.grown hg9 HNE.out
            obtain ⟨A9, c9, e9⟩ := Kd.R_slice hS9
            have HN9 := Lib.hid (And.intro (RowSp.of_R hS9) hB9)
            rw [e9] at HN9
            rw [e9]
            have m1' : w9.cell? ⟨wq.heap.size, 1, none⟩ = some (.string E) := hBs9.cell 1
            have x1'' : w9.cell? ⟨al.block, al.off + 1, none⟩ = some (.string s1) := pw_cell_below hB9 HX1.out
            clear hS9 hB9 hg9 hat9 e9 m0 m1 hBs9 x0' x1' y0' y1'
            have HCL := Lib.hid (show cutL (⟨s0, s1⟩ :: a') (⟨t0, t1⟩ :: b') = [⟨M, E⟩] ++ (if E = s1 then cutL a' (⟨t0, t1⟩ :: b') else cutL (⟨s0, s1⟩ :: a') b') by
              rw [cutL, HCS.out, if_neg (show ¬ noneS (⟨M, E⟩ : S71) = true by rw [show noneS (⟨M, E⟩ : S71) = false from HQ.out]; simp)])
            by_cases he : E = s1
            · have hbe : (E.toList == s1.toList) = true := by rw [he]; simp
              have HE := Lib.hid he
              clear he
              go_wp2_with fail
              refine wp_region_held (S := (fun W => Below w9.heap.size w9 W ∧ W.cell? ⟨wq.heap.size, 1, none⟩ = some (.string E) ∧ W.cell? ⟨al.block, al.off + 1, none⟩ = some (.string s1))) (by kernel_rfl) ?_;simp only [List.size_toArray, List.length_cons, List.length_nil, Nat.zero_add, Nat.reduceAdd]
              have hHeld : ((fun W => Below w9.heap.size w9 W ∧ W.cell? ⟨wq.heap.size, 1, none⟩ = some (.string E) ∧ W.cell? ⟨al.block, al.off + 1, none⟩ = some (.string s1))) w9.drew := ⟨below_drew (Below.refl _ _), m1', x1''⟩
              refine tk_ 0 hHeld ?_;refine tk_ 1 hHeld ?_;refine tk_ 2 hHeld ?_;refine tk_ 3 hHeld ?_;refine tk_ 4 hHeld ?_;refine tk_ 5 hHeld ?_;refine tk_ 6 hHeld ?_;refine wpAnyH_done (by kernel_rfl) ?_ _
              obtain ⟨hq1, hq2, hq3⟩ := hHeld
              have HQ1 := Lib.hid hq1
              clear hq1 hq2 hq3 m1' x1''
              go_wp2
              go_roundw
              case rel => exact ⟨a', ⟨t0, t1⟩ :: b', (out++[⟨M,E⟩]), A2, some bl, A9, c2, cc, c9, rfl, by simp, by simp, Lib.hid ⟨H23.out.1.1, HR.out.2.1, H23.out.1.2 _ HR.out.2.2.1, HR.out.2.2.2.1, by rw [HR.out.2.2.2.2.1, HCL.out, if_pos HE.out]; simp, by have := HR.out.2.2.2.2.2.1; simp only [List.length_cons] at *; omega, by have := HR.out.2.2.2.2.2.2.1; simp only [List.length_cons, List.length_append, List.length_nil] at *; omega, RowSp.under HN9.out.1 HQ1.out, HN9.out.2.trans (HQ1.out.mono HN9.out.2.size)⟩⟩
              case measure => (simp [lenV]; try omega)
            · have hbe : (E.toList == s1.toList) = false := by rw [beq_eq_false_iff_ne]; intro h; exact he (toList_inj.1 h)
              have HE := Lib.hid he
              clear he
              go_wp2_with fail
              refine wp_region_held (S := (fun W => Below w9.heap.size w9 W ∧ W.cell? ⟨wq.heap.size, 1, none⟩ = some (.string E) ∧ W.cell? ⟨al.block, al.off + 1, none⟩ = some (.string s1))) (by kernel_rfl) ?_;simp only [List.size_toArray, List.length_cons, List.length_nil, Nat.zero_add, Nat.reduceAdd]
              have hHeld : ((fun W => Below w9.heap.size w9 W ∧ W.cell? ⟨wq.heap.size, 1, none⟩ = some (.string E) ∧ W.cell? ⟨al.block, al.off + 1, none⟩ = some (.string s1))) w9.drew := ⟨below_drew (Below.refl _ _), m1', x1''⟩
              refine tk_ 0 hHeld ?_;refine tk_ 1 hHeld ?_;refine tk_ 2 hHeld ?_;refine tk_ 3 hHeld ?_;refine tk_ 4 hHeld ?_;refine tk_ 5 hHeld ?_;refine tk_ 6 hHeld ?_;refine wpAnyH_done (by kernel_rfl) ?_ _
              obtain ⟨hq1, hq2, hq3⟩ := hHeld
              have HQ1 := Lib.hid hq1
              clear hq1 hq2 hq3 m1' x1''
              go_wp2
              go_roundw
              case rel => exact ⟨⟨s0, s1⟩ :: a', b', (out++[⟨M,E⟩]), some al, A3, A9, ca, c3, c9, by simp, rfl, by simp, Lib.hid ⟨HR.out.1, H23.out.2.1, HR.out.2.2.1, H23.out.2.2 _ HR.out.2.2.2.1, by rw [HR.out.2.2.2.2.1, HCL.out, if_neg HE.out]; simp, by have := HR.out.2.2.2.2.2.1; simp only [List.length_cons] at *; omega, by have := HR.out.2.2.2.2.2.2.1; simp only [List.length_cons, List.length_append, List.length_nil] at *; omega, RowSp.under HN9.out.1 HQ1.out, HN9.out.2.trans (HQ1.out.mono HN9.out.2.size)⟩⟩
              case measure => (simp [lenV]; try omega)
          · have hB9 := HR.out.2.2.2.2.2.2.2.2.trans (HN.out.1.mono HR.out.2.2.2.2.2.2.2.2.size)
            have x1'' : wn.cell? ⟨al.block, al.off + 1, none⟩ = some (.string s1) := pw_cell_below hB9 HX1.out
            have m1' : wn.cell? ⟨wq.heap.size, 1, none⟩ = some (.string E) := m1
            have HN9 := Lib.hid (And.intro (pw_own_below HR.out.2.2.2.2.2.2.2.1 HN.out.1) hB9)
            clear m0 m1 x0' x1' y0' y1' hB9
            have HCL := Lib.hid (show cutL (⟨s0, s1⟩ :: a') (⟨t0, t1⟩ :: b') = [] ++ (if E = s1 then cutL a' (⟨t0, t1⟩ :: b') else cutL (⟨s0, s1⟩ :: a') b') by
              rw [cutL, HCS.out, if_pos (show noneS (⟨M, E⟩ : S71) = true from HQ.out)])
            by_cases he : E = s1
            · have hbe : (E.toList == s1.toList) = true := by rw [he]; simp
              have HE := Lib.hid he
              clear he
              go_wp2_with fail
              refine wp_region_held (S := (fun W => Below wn.heap.size wn W ∧ W.cell? ⟨wq.heap.size, 1, none⟩ = some (.string E) ∧ W.cell? ⟨al.block, al.off + 1, none⟩ = some (.string s1))) (by kernel_rfl) ?_;simp only [List.size_toArray, List.length_cons, List.length_nil, Nat.zero_add, Nat.reduceAdd]
              have hHeld : ((fun W => Below wn.heap.size wn W ∧ W.cell? ⟨wq.heap.size, 1, none⟩ = some (.string E) ∧ W.cell? ⟨al.block, al.off + 1, none⟩ = some (.string s1))) wn.drew := ⟨below_drew (Below.refl _ _), m1', x1''⟩
              refine tk_ 0 hHeld ?_;refine tk_ 1 hHeld ?_;refine tk_ 2 hHeld ?_;refine tk_ 3 hHeld ?_;refine tk_ 4 hHeld ?_;refine tk_ 5 hHeld ?_;refine tk_ 6 hHeld ?_;refine wpAnyH_done (by kernel_rfl) ?_ _
              obtain ⟨hq1, hq2, hq3⟩ := hHeld
              have HQ1 := Lib.hid hq1
              clear hq1 hq2 hq3 m1' x1''
              go_wp2
              go_roundw
              case rel => exact ⟨a', ⟨t0, t1⟩ :: b', out, A2, some bl, C', c2, cc, co, rfl, by simp, by simp, Lib.hid ⟨H23.out.1.1, HR.out.2.1, H23.out.1.2 _ HR.out.2.2.1, HR.out.2.2.2.1, by rw [HR.out.2.2.2.2.1, HCL.out, if_pos HE.out]; simp, by have := HR.out.2.2.2.2.2.1; simp only [List.length_cons] at *; omega, by have := HR.out.2.2.2.2.2.2.1; simp only [List.length_cons, List.length_append, List.length_nil] at *; omega, RowSp.under HN9.out.1 HQ1.out, HN9.out.2.trans (HQ1.out.mono HN9.out.2.size)⟩⟩
              case measure => (simp [lenV]; try omega)
            · have hbe : (E.toList == s1.toList) = false := by rw [beq_eq_false_iff_ne]; intro h; exact he (toList_inj.1 h)
              have HE := Lib.hid he
              clear he
              go_wp2_with fail
              refine wp_region_held (S := (fun W => Below wn.heap.size wn W ∧ W.cell? ⟨wq.heap.size, 1, none⟩ = some (.string E) ∧ W.cell? ⟨al.block, al.off + 1, none⟩ = some (.string s1))) (by kernel_rfl) ?_;simp only [List.size_toArray, List.length_cons, List.length_nil, Nat.zero_add, Nat.reduceAdd]
              have hHeld : ((fun W => Below wn.heap.size wn W ∧ W.cell? ⟨wq.heap.size, 1, none⟩ = some (.string E) ∧ W.cell? ⟨al.block, al.off + 1, none⟩ = some (.string s1))) wn.drew := ⟨below_drew (Below.refl _ _), m1', x1''⟩
              refine tk_ 0 hHeld ?_;refine tk_ 1 hHeld ?_;refine tk_ 2 hHeld ?_;refine tk_ 3 hHeld ?_;refine tk_ 4 hHeld ?_;refine tk_ 5 hHeld ?_;refine tk_ 6 hHeld ?_;refine wpAnyH_done (by kernel_rfl) ?_ _
              obtain ⟨hq1, hq2, hq3⟩ := hHeld
              have HQ1 := Lib.hid hq1
              clear hq1 hq2 hq3 m1' x1''
              go_wp2
              go_roundw
              case rel => exact ⟨⟨s0, s1⟩ :: a', b', out, some al, A3, C', ca, c3, co, by simp, rfl, by simp, Lib.hid ⟨HR.out.1, H23.out.2.1, HR.out.2.2.1, H23.out.2.2 _ HR.out.2.2.2.1, by rw [HR.out.2.2.2.2.1, HCL.out, if_neg HE.out]; simp, by have := HR.out.2.2.2.2.2.1; simp only [List.length_cons] at *; omega, by have := HR.out.2.2.2.2.2.2.1; simp only [List.length_cons, List.length_append, List.length_nil] at *; omega, RowSp.under HN9.out.1 HQ1.out, HN9.out.2.trans (HQ1.out.mono HN9.out.2.size)⟩⟩
              case measure => (simp [lenV]; try omega)
def span_Cut.f (a b : List S71) : Option (List S71) := if a.length + b.length ≤ 1000000 then some (cutL a b) else none
theorem span_Cut.calls (A0 : Option Addr) (c0 : Nat) (l0 : List S71) (A1 : Option Addr) (c1 : Nat) (l1 : List S71) (r : List S71) (w : World) (hr0 : Kd.C k71 w A0 l0.length l0) (_hc0 : l0.length ≤ c0) (hr1 : Kd.C k71 w A1 l1.length l1) (_hc1 : l1.length ≤ c1) (h : span_Cut.f l0 l1 = some r) :
    Calls Tryz.prog 137 #[.slice A0 l0.length c0, .slice A1 l1.length c1] w fun e w' => ∃ v0_ : Value, e = .returned (v0_) ∧ Kd.R k71 71 w' w.heap.size (fun _ => True) v0_ r ∧ Below w.heap.size w w' := by
  unfold span_Cut.f at h
  split at h
  · rename_i hl
    injection h with h
    subst h
    exact (cut_any A0 c0 l0 A1 c1 l1 w hr0 _hc0 hr1 _hc1 hl).mono fun e w' ⟨v, he, ho, hb⟩ => ⟨v, he, ho.R, hb⟩
  · cases h
end Go.Proofs.YtgmlenpcchhmbaaGreat.P
end
section
set_option linter.unusedVariables false
set_option linter.unusedSimpArgs false
namespace Go.Proofs.YtgmlenpcchhmbaaGreat.P
open Go.RowKit Go.Proofs.YtgmlenpcchhmbaaGreatW.PrintWords Go.Proofs.YtgmlenpcchhmbaaGreatW.PrintLast
theorem setTo_set {out : List S71} (h : out ≠ []) (m : ByteArray) : out.set (out.length - 1) ⟨(rd_T71 out ((out.length - 1 : Nat) : Int)).f0, m⟩ = setTo out m := by
  rcases List.eq_nil_or_concat out with e | ⟨init, t, e⟩
  · exact absurd e h
  · rw [List.concat_eq_append] at e
    subst e
    rw [setTo_snoc]
    have e1 : (init ++ [t]).length - 1 = init.length := by simp
    have e2 : rd_T71 (init ++ [t]) ((init.length : Nat) : Int) = t := by unfold rd_T71; rw [Int.toNat_natCast, List.getD_eq_getElem?_getD]; simp
    rw [e1, e2, List.set_append_right _ _ (Nat.le_refl _)]
    simp
theorem r3set_l0 (a b : List S71) (want : Int) (q : Bool → Bool → Bool) (hw : (want = 0 ∧ ∀ x y, q x y = (x || y)) ∨ (want = 1 ∧ ∀ x y, q x y = (x && y))) (ms : List ByteArray) (ha : a.length ≤ 1000000) (hb : b.length ≤ 1000000) (hm : ms.length ≤ 1000000) :
    ∀ (m i : Nat) (o : Bool) (out : List S71), i + m = ms.length → out.length ≤ i → (o = true → out ≠ []) → Ev (fun k => folkmootref03_set.l0 k a b want ms out o (i : Int)) (((ms.drop i).foldl (stepM fun k => q (hasSs a k) (hasSs b k)) (o, out)).2)
  | 0, i, o, out, h, _, _ => by
    refine Ev.succ ?_;simp only [folkmootref03_set.l0]
    rw [List.drop_of_length_le (by omega)]
    exact Ev.no (by omega) (Ev.some _)
  | m + 1, i, o, out, h, hol, ho => by
    have hi : i < ms.length := by omega
    have ih := fun o out => r3set_l0 a b want q hw ms ha hb hm m (i + 1) o out (by omega)
    have hrd : rdOf ByteArray.empty ms (i : Int) = ms[i] := by
      unfold rdOf
      rw [Int.toNat_natCast, List.getD_eq_getElem?_getD, List.getElem?_eq_getElem hi]; rfl
    have hd : ms.drop i = ms[i] :: ms.drop (i + 1) := List.drop_eq_getElem_cons hi
    rw [hd, List.foldl_cons]
    generalize hP : (fun k => q (hasSs a k) (hasSs b k)) = P at ih ⊢
    have hPm : P ms[i] = q (hasSs a ms[i]) (hasSs b ms[i]) := by rw [← hP]
    have hj3 : Ev (fun k => folkmootref03_set.j3 k a b want ms out o (i : Int) (P ms[i])) (((ms.drop (i + 1)).foldl (stepM P) (stepM P (o, out) ms[i])).2) := by
      refine Ev.succ ?_;simp only [folkmootref03_set.j3]
      cases hp : P ms[i] with
      | true =>
        refine Ev.yes (by simp) (Ev.succ ?_);simp only [folkmootref03_set.j4]
        rw [hrd, w64_succ (by omega)]
        cases o with
        | true =>
          have e : stepM P (true, out) ms[i] = (true, out) := by unfold stepM; rw [hp]; rfl
          rw [e]
          exact Ev.no (by simp) (Ev.yes (by simp) (ih true out (by omega) (fun _ => ho rfl)))
        | false =>
          have e : stepM P (false, out) ms[i] = (true, out ++ [⟨ms[i], emptyB⟩]) := by unfold stepM; rw [hp]; rfl
          rw [e]
          exact Ev.yes (by simp) (Ev.yes (by omega) (Ev.yes (by omega) (Ev.yes (by omega) (Ev.bind1 rfl (Ev.yes (by simp) (ih true (out ++ [⟨ms[i], emptyB⟩]) (by rw [List.length_append]; simp only [List.length_cons, List.length_nil]; omega) (fun _ => by simp)))))))
      | false =>
        refine Ev.no (by simp) (Ev.succ ?_);simp only [folkmootref03_set.j4]
        rw [hrd, w64_succ (by omega)]
        cases o with
        | true =>
          have e : stepM P (true, out) ms[i] = (false, setTo out ms[i]) := by unfold stepM; rw [hp]; rfl
          rw [e, ← setTo_set (ho rfl)]
          have hlen : 0 < out.length := List.length_pos_iff.2 (ho rfl)
          have hw1 : wrap64 ((out.length : Int) - 1) = ((out.length - 1 : Nat) : Int) := by unfold wrap64; omega
          rw [hw1, Int.toNat_natCast]
          exact Ev.no (by simp) (Ev.no (by simp) (Ev.yes (by simp) (Ev.yes (by omega) (Ev.yes (by omega) (Ev.yes (by omega) (Ev.yes (by omega) (ih false _ (by rw [List.length_set]; omega) (fun g => by cases g))))))))
        | false =>
          have e : stepM P (false, out) ms[i] = (false, out) := by unfold stepM; rw [hp]; rfl
          rw [e]
          exact Ev.no (by simp) (Ev.no (by simp) (Ev.no (by simp) (ih false out (by omega) (fun g => by cases g))))
    have hj1 : Ev (fun k => folkmootref03_set.j1 k a b want ms out o (i : Int) (hasSs a ms[i]) (hasSs b ms[i]) (hasSs a ms[i] || hasSs b ms[i])) (((ms.drop (i + 1)).foldl (stepM P) (stepM P (o, out) ms[i])).2) := by
      refine Ev.succ ?_;simp only [folkmootref03_set.j1]
      have hj2 : ∀ x : Bool, x = P ms[i] → Ev (fun k => folkmootref03_set.j2 k a b want ms out o (i : Int) (hasSs a ms[i]) (hasSs b ms[i]) x) (((ms.drop (i + 1)).foldl (stepM P) (stepM P (o, out) ms[i])).2) := fun x hx => by
        refine Ev.succ ?_;simp only [folkmootref03_set.j2];subst hx
        exact Ev.no (by omega) hj3
      rcases hw with ⟨rfl, hq⟩ | ⟨rfl, hq⟩
      · exact Ev.no (by omega) (hj2 _ (by rw [hPm, hq]))
      · refine Ev.yes rfl (Ev.cond (fun e => hj2 _ (by rw [hPm, hq, e, Bool.true_and])) (fun e => hj2 _ (by rw [hPm, hq, Bool.eq_false_iff.2 e, Bool.false_and])))
    refine Ev.succ ?_;simp only [folkmootref03_set.l0]
    rw [hrd]
    refine Ev.yes (by omega) (Ev.yes (by omega) (Ev.bind (ev_has a _ (by omega)) (Ev.bind (ev_has b _ (by omega)) (Ev.cond (fun e => ?_) (fun e => ?_)))))
    · rw [e, Bool.true_or] at hj1; rw [e]; exact hj1
    · rw [Bool.eq_false_iff.2 e, Bool.false_or] at hj1; rw [Bool.eq_false_iff.2 e]; exact hj1
theorem ev_r3set (a b : List S71) (want : Int) (q : Bool → Bool → Bool) (hw : (want = 0 ∧ ∀ x y, q x y = (x || y)) ∨ (want = 1 ∧ ∀ x y, q x y = (x && y))) (hl : a.length + b.length ≤ 10000) :
    Ev (fun k => folkmootref03_set.f k a b want) (setM (fun k => q (hasSs a k) (hasSs b k)) (marksL (a ++ b))).2 := by
  unfold folkmootref03_set.f
  have hm := marks_len (a ++ b)
  rw [List.length_append] at hm
  have hf : folkmootref03_marks.f ([] ++ a ++ b) = some (marksL (a ++ b)) := by
    unfold folkmootref03_marks.f
    rw [List.nil_append, if_pos (by rw [List.length_append]; omega)]
  have h0 := r3set_l0 a b want q hw (marksL (a ++ b)) (by omega) (by omega) (by omega) (marksL (a ++ b)).length 0 false [] (by omega) (by simp) (fun g => by cases g)
  rw [List.drop_zero] at h0
  exact Ev.bind1 rfl (Ev.yes (by simp only [List.length_nil]; omega) (Ev.bind1 rfl (Ev.yes (by simp only [List.nil_append]; omega) (Ev.bind1 hf h0))))
theorem ev_r3union (l : List S71) (hl : l.length ≤ 10000) : Ev (fun k => folkmootref03_Union.f k l) (unionT l) := by
  unfold folkmootref03_Union.f
  refine Ev.bind (ev_r3set l [] 0 (· || ·) (.inl ⟨rfl, fun _ _ => rfl⟩) (by simp only [List.length_nil]; omega)) ?_
  rw [setM_union]
  exact Ev.some _
theorem r3same_l0 (d : List S71) (hd : d.length ≤ 1000000) : ∀ (m i : Nat), i + m = d.length → Ev (fun k => folkmootref03_Same.l0 k d d (i : Int)) true
  | 0, i, h => by
    refine Ev.succ ?_;simp only [folkmootref03_Same.l0]
    exact Ev.no (by omega) (Ev.some _)
  | m + 1, i, h => by
    refine Ev.succ ?_;simp only [folkmootref03_Same.l0]
    rw [w64_succ (by omega)]
    exact Ev.yes (by omega) (Ev.yes (by omega) (Ev.yes (by omega) (Ev.no (by simp) (r3same_l0 d hd m (i + 1) (by omega)))))
theorem ev_r3same (d : List S71) (hd : d.length ≤ 1000000) : Ev (fun k => folkmootref03_Same.f k d d) true := by
  unfold folkmootref03_Same.f
  exact Ev.yes rfl (r3same_l0 d hd d.length 0 (by omega))
end Go.Proofs.YtgmlenpcchhmbaaGreat.P
end
section
set_option linter.unusedVariables false
set_option linter.unusedSimpArgs false

end
section
set_option linter.unusedVariables false
set_option linter.unusedSimpArgs false
namespace Go.Proofs.YtgmlenpcchhmbaaGreat.P
open Go.RowKit Go.Proofs.YtgmlenpcchhmbaaGreatW.PrintWords Go.Proofs.YtgmlenpcchhmbaaGreatW.PrintLast Go.Proofs.YtgmlenpcchhmbaaGreatW.PrintMore
attribute [local go_sem] max2_int min2_int max_two min_two max_three min_three max_four min_four   -- for this text's walks alone
def txn_All.f (k : Nat) (l0 : List (S63)) : Option ((List (S71))) := (txn_Reads.f k l0).bind fun t775 => ((txn_Writes.f k l0).bind fun t778 => (if t775.length + t778.length < 4398046511104 then ((span_Union.f (t775 ++ t778)).bind fun t784 => (some t784)) else (none)))
set_option maxHeartbeats 8000000 in
set_option maxRecDepth 100000 in
theorem txn_All.calls (k : Nat) (A0 : Option Addr) (c0 : Nat) (l0 : List (S63)) (r : List (S71)) (w : World) (hr0 : Kd.C k63 w A0 l0.length l0) (hc0 : l0.length ≤ c0) (h : txn_All.f k l0 = some r) :
  Calls Tryz.prog 42 #[.slice A0 l0.length c0] w fun e w' => ∃ v0_ : Value, e = .returned (v0_) ∧ Kd.R k71 71 w' w.heap.size (fun _ => True) v0_ r ∧ Below w.heap.size w w' := by
 have HR0 := Aside0.mk hr0
 have HC0 := Aside0.mk hc0
 clear hr0 hc0
 have HB := Aside0.mk (Below.refl w.heap.size w)
 have H : ((txn_Reads.f k l0).bind fun t775 => ((txn_Writes.f k l0).bind fun t778 => (if t775.length + t778.length < 4398046511104 then ((span_Union.f (t775 ++ t778)).bind fun t784 => (some t784)) else (none)))) = some r := h
 clear h
 replace H := Option.bind_eq_some_iff.mp H
 obtain ⟨t775, A20, H⟩ := H
 replace H : ((txn_Writes.f k l0).bind fun t778 => (if t775.length + t778.length < 4398046511104 then ((span_Union.f (t775 ++ t778)).bind fun t784 => (some t784)) else (none))) = some r := H
 have A2 := Aside0.mk A20
 clear A20
 replace H := Option.bind_eq_some_iff.mp H
 obtain ⟨t778, A30, H⟩ := H
 replace H : (if t775.length + t778.length < 4398046511104 then ((span_Union.f (t775 ++ t778)).bind fun t784 => (some t784)) else (none)) = some r := H
 have A3 := Aside0.mk A30
 clear A30
 by_cases c4 : t775.length + t778.length < 4398046511104
 ·rw [if_pos c4] at H
  have LMc4 := Aside0.mk c4
  clear c4
  obtain ⟨y781, hy781⟩ : ∃ y_ : List (S71), y_ = (t775 ++ t778) := ⟨_, rfl⟩
  replace H : ((span_Union.f y781).bind fun t784 => (some t784)) = some r := by first | (rw [hy781]; with_reducible exact H) | (have H2_ := (Option.bind_some _ _).symm.trans H; rw [hy781]; with_reducible exact H2_) | (have H2_ := (Option.bind_some _ _).symm.trans H; with_reducible exact H2_) | with_reducible exact H | (rw [hy781]; exact H) | exact H
  have Ny781 := Aside0.mk hy781
  clear hy781
  replace H := Option.bind_eq_some_iff.mp H
  obtain ⟨t784, A50, H⟩ := H
  replace H : (some t784) = some r := H
  have A5 := Aside0.mk A50
  clear A50;obtain rfl := Option.some.inj H
  go_enter Tryz.func42, Tryz.ntmps42
  go_wp2_with (first | ((with_reducible refine gate_callee (f := 38) rfl ?_); refine goesL_ (some 4) rfl rfl Tryz.func38 (by kernel_rfl) rfl #[.slice A0 l0.length c0] rfl (by (try simp only [List.map_toArray, List.map_cons, List.map_nil]); first | done | rfl | (simp only [List.length_drop, List.length_take]; rfl)) ?_; (with_reducible refine (txn_Reads.calls k _ _ l0 t775 _ ?side1 ?side2 A2.out).mono ?_); (case side1 => repeat (first | exact HR0.out | (with_reducible refine Kd.C_alloc ?_ _) | (with_reducible refine Kd.C_drewN ?_ _) | (with_reducible refine Kd.C_drew ?_))); (case side2 => exact HC0.out); rintro e w6 ⟨v776, rfl, ho0, hb⟩; refine ⟨_, rfl, ?_⟩; have n0_ := Aside0.mk (Kd.R_lower ho0 (below_size bB_)); have n1_ := Aside0.mk (below_step bB_ hb); clear HB; have HO777 := n0_; have HB := n1_; clear n0_ n1_; (try clear hb); (try clear hb2); (try clear hk); (try clear hi); (try clear ho0)) | ((with_reducible refine gate_callee (f := 39) rfl ?_); refine goesL_ (some 6) rfl rfl Tryz.func39 (by kernel_rfl) rfl #[.slice A0 l0.length c0] rfl (by (try simp only [List.map_toArray, List.map_cons, List.map_nil]); first | done | rfl | (simp only [List.length_drop, List.length_take]; rfl)) ?_; (with_reducible refine (txn_Writes.calls k _ _ l0 t778 _ ?side1 ?side2 A3.out).mono ?_); (case side1 => repeat (first | exact (Kd.C_below HR0.out HB.out) | (with_reducible refine Kd.C_alloc ?_ _) | (with_reducible refine Kd.C_drewN ?_ _) | (with_reducible refine Kd.C_drew ?_))); (case side2 => exact HC0.out); rintro e w7 ⟨v779, rfl, ho0, hb⟩; refine ⟨_, rfl, ?_⟩; have n0_ := Aside0.mk (Kd.R_elder' (rR_ HO777.out) (Kd.R_base ho0) hb); have n1_ := Aside0.mk (Kd.R_lower (Kd.R_new' ho0 (Kd.R_lt (rR_ HO777.out))) (below_size bB_)); have n2_ := Aside0.mk (below_step bB_ hb); clear HO777; clear HB; have HO777 := n0_; have HO780 := n1_; have HB := n2_; clear n0_ n1_ n2_; (try clear hb); (try clear hb2); (try clear hk); (try clear hi); (try clear ho0); obtain ⟨Ao9, co9, eo9⟩ := Kd.R_slice HO780.out; subst eo9) | ((with_reducible refine gate_builtin (b := .append) (xs := #[.tmp 4, .tmp 6]) rfl ?_); at_builtin; refine Kd.R_append_rows k71 (w0 := w) w.heap.size rfl (.tmp 4) (.tmp 6) 40 71 (.agg #[(.string ⟨#[]⟩), (.string ⟨#[]⟩)]) 32 rfl Tryz.underlying40 info71 rfl (by decide) (by omega) v776 t775 t778 _ _ _ (fun k_ => some k_ ≠ (.slice Ao9 t778.length co9 : Value).ownBlock) (fun _ => False) rfl rfl ?aO ?aR (fun _ _ h => h) (fun _ h => h.elim) ?aF ?aB ?aS ?aL ?_; (case aR => repeat (first | exact (Kd.R_reads' HO780.out).2.2 | (with_reducible refine Kd.C_alloc ?_ _) | (with_reducible refine Kd.C_drewN ?_ _) | (with_reducible refine Kd.C_drew ?_))); (case aB => exact bB_); (case aF => exact (fun k_ hk => Kd.fresh' (Kd.R_lt (rR_ HO780.out)) k_ hk)); (case aO => exact (by (with_reducible repeat (first | apply Kd.R_alloc | apply Kd.R_drewN | apply Kd.R_drew)); exact Kd.R_mono HO777.out (fun _ hk => hk.2))); (case aS => exact (below_size bB_)); (case aL => have := LMc4.out; omega); intro v782 w8 ho hb hg hat; rw [← Ny781.out] at ho; have n0_ := Aside0.mk (Kd.R_after (ok := (fun _ => True)) (rR_ HO780.out) hg hat); have n1_ := Aside0.mk (hb); have n2_ := Aside0.mk (ho); clear HO780; clear HB; clear HO777; have HO780 := n0_; have HB := n1_; have HO783 := n2_; clear n0_ n1_ n2_; clear ho hb hg hat; obtain ⟨Ao10, co10, eo10⟩ := Kd.R_slice HO783.out; subst eo10) | ((with_reducible refine gate_callee (f := 88) rfl ?_); refine goesL_ (some 8) rfl rfl Tryz.func88 (by kernel_rfl) rfl #[.slice Ao10 y781.length co10] rfl (by (try simp only [List.map_toArray, List.map_cons, List.map_nil]); first | done | rfl | (simp only [List.length_drop, List.length_take]; rfl)) ?_; (with_reducible refine (span_Union.calls _ _ y781 t784 _ ?side1 ?side2 A5.out).mono ?_); (case side1 => repeat (first | exact (Kd.R_reads' HO783.out).2.2 | (with_reducible refine Kd.C_alloc ?_ _) | (with_reducible refine Kd.C_drewN ?_ _) | (with_reducible refine Kd.C_drew ?_))); (case side2 => exact (Kd.R_reads' HO783.out).2.1); rintro e w11 ⟨v785, rfl, ho0, hb⟩; refine ⟨_, rfl, ?_⟩; have n0_ := Aside0.mk (Kd.R_elder' (rR_ HO780.out) (Kd.R_base ho0) hb); have n1_ := Aside0.mk (Kd.R_elder' (rR_ HO783.out) (Kd.R_base ho0) hb); have n2_ := Aside0.mk (Kd.R_lower (Kd.R_new' (Kd.R_new' ho0 (Kd.R_lt (rR_ HO780.out))) (Kd.R_lt (rR_ HO783.out))) (below_size bB_)); have n3_ := Aside0.mk (below_step bB_ hb); clear HO780; clear HO783; clear HB; have HO780 := n0_; have HO783 := n1_; have HO786 := n2_; have HB := n3_; clear n0_ n1_ n2_ n3_; (try clear hb); (try clear hb2); (try clear hk); (try clear hi); (try clear ho0)))
  go_ret
  exact ⟨_, by first | rfl | (rw [bl_gt] <;> rfl) | (simp [errW_none, errW_some] <;> rfl) | (simp [*, errW_none, errW_some] <;> rfl), by (with_reducible repeat (first | apply Kd.R_alloc | apply Kd.R_drewN | apply Kd.R_drew)); exact Kd.R_mono HO786.out (fun _ hk => trivial), bB_⟩
 ·rw [if_neg c4] at H
  exact absurd H (by simp)
end Go.Proofs.YtgmlenpcchhmbaaGreat.P
end
section
set_option linter.unusedVariables false
set_option linter.unusedSimpArgs false
namespace Go.Proofs.YtgmlenpcchhmbaaGreat.P
open Go.RowKit Go.Proofs.YtgmlenpcchhmbaaGreatW.PrintWords Go.Proofs.YtgmlenpcchhmbaaGreatW.PrintLast Go.Proofs.YtgmlenpcchhmbaaGreatW.PrintMore
attribute [local go_sem] max2_int min2_int max_two min_two max_three min_three max_four min_four   -- for this text's walks alone
end Go.Proofs.YtgmlenpcchhmbaaGreat.P
end
section
set_option linter.unusedVariables false
set_option linter.unusedSimpArgs false
namespace Go.Proofs.YtgmlenpcchhmbaaGreat.P
open Go.RowKit Go.Proofs.YtgmlenpcchhmbaaGreatW.PrintWords Go.Proofs.YtgmlenpcchhmbaaGreatW.PrintLast
def allT (l : List S63) : List S71 := unionT (unionT (setSp rK l) ++ unionT (setSp wK l))
theorem reads_le (l : List S63) (hl : l.length ≤ 8) : (unionT (setSp rK l)).length ≤ 16 ∧ (unionT (setSp wK l)).length ≤ 16 := by
  have h1 := union_len (setSp rK l)
  have h2 := union_len (setSp wK l)
  have h3 := setSp_le rK l
  have h4 := setSp_le wK l
  omega
theorem allT_le (l : List S63) (hl : l.length ≤ 8) : (allT l).length ≤ 32 := by
  have h1 := union_len (unionT (setSp rK l) ++ unionT (setSp wK l))
  have h2 := reads_le l hl
  rw [List.length_append] at h1
  unfold allT
  omega
theorem ev_all (l : List S63) (hl : l.length ≤ 8) (hs : ∀ o ∈ l, o.f1.size ≤ 16 ∧ o.f2.size ≤ 16) : Ev (fun k => txn_All.f k l) (allT l) := by
  have h := reads_le l hl
  unfold txn_All.f
  refine Ev.bind (ev_reads l hl hs) (Ev.bind (ev_writes l hl hs) (Ev.yes (by omega) (Ev.bind1 (r := allT l) ?_ (Ev.some _))))
  unfold span_Union.f
  rw [if_pos (by rw [List.length_append]; omega)]
  rfl
end Go.Proofs.YtgmlenpcchhmbaaGreat.P
end
section
set_option linter.unusedVariables false
set_option linter.unusedSimpArgs false
namespace Go.Proofs.YtgmlenpcchhmbaaGreat.P
open Go.RowKit Go.Proofs.YtgmlenpcchhmbaaGreatW.PrintWords Go.Proofs.YtgmlenpcchhmbaaGreatW.PrintLast
theorem size_nil (k : ByteArray) : k.size = 0 ↔ k = emptyB := by
  obtain ⟨a⟩ := k
  constructor
  · intro h
    have : a = #[] := Array.size_eq_zero_iff.1 h
    rw [this]; rfl
  · intro h; rw [h]; rfl
theorem rkey_f (k : ByteArray) : folkmootref03_Key.f k = some (keyT k) := by
  unfold folkmootref03_Key.f keyT
  by_cases h : k = emptyB
  · have := (size_nil k).2 h
    rw [if_neg (by omega)]; simp [h]
  · have h1 : ¬ k.size = 0 := fun e => h ((size_nil k).1 e)
    rw [if_pos (by omega)]
    congr 1
    by_cases h2 : k.size ≤ 16
    · rw [decide_eq_true (by omega : (k.size : Int) ≤ 16)]; simp [h, h2]
    · rw [decide_eq_false (by omega : ¬ (k.size : Int) ≤ 16)]; simp [h2]
theorem ris_f {n : Int} (h0 : 0 ≤ n) (h1 : n < 18446744073709551616) : folkmootref07_Is.f n = some (numOk n) := by
  unfold folkmootref07_Is.f
  rw [rRight_f h0 h1]
  show some (rightN n == n) = some (decide (rightN n = n))
  congr 1
theorem rchk_j2 {l : List S63} {i : Nat} {R : Int} (hi : i < 9223372036854775807) (h : Ev (fun k => folkmootref08_Check.l0 k l ((i + 1 : Nat) : Int)) R) (o : S63) (h0 : 0 ≤ o.f3) (h1 : o.f3 < 18446744073709551616) (a b : Bool) :
    Ev (fun k => folkmootref08_Check.j2 k l (i : Int) a b o.f0 o.f1 o.f2 o.f3) (if (keyT o.f1 && a && b && numOk o.f3) = true then R else 80) := by
  refine Ev.succ ?_;simp only [folkmootref08_Check.j2]
  rw [w64_succ hi]
  refine Ev.bind1 (rkey_f o.f1) ?_
  cases hk : keyT o.f1 with
  | false => exact Ev.no (by simp) (Ev.some _)
  | true =>
    refine Ev.yes rfl ?_
    cases a with
    | false => exact Ev.no (by simp) (Ev.some _)
    | true =>
      refine Ev.yes rfl ?_
      cases b with
      | false => exact Ev.no (by simp) (Ev.some _)
      | true =>
        refine Ev.yes rfl (Ev.bind1 (ris_f h0 h1) ?_)
        cases hn : numOk o.f3 with
        | false => exact Ev.no (by simp) (Ev.some _)
        | true => exact Ev.yes rfl h
theorem rd_atO {d : List S63} {i : Nat} (h : i < d.length) : rd_T63 d (i : Int) = d[i] := by
  unfold rd_T63
  rw [Int.toNat_natCast, List.getD_eq_getElem?_getD, List.getElem?_eq_getElem h]; rfl
theorem beq_nil (t : ByteArray) : (t.toList == ([] : List UInt8)) = decide (t = emptyB) := by
  rw [Bool.eq_iff_iff, beq_iff_eq, decide_eq_true_eq, toList_nil]
theorem beq_zero (n : Int) : (n == 0) = decide (n = 0) := by rw [Bool.eq_iff_iff, beq_iff_eq, decide_eq_true_eq]
theorem bne_text (a b : ByteArray) : (a.toList != b.toList) = decide (a ≠ b) := by
  rw [Bool.eq_iff_iff, bne_iff_ne, decide_eq_true_eq, Ne, toList_inj]
theorem rchk_l0 (l : List S63) (hl : l.length ≤ 1000) (hn : ∀ o ∈ l, 0 ≤ o.f3 ∧ o.f3 < 18446744073709551616) : ∀ (m i : Nat), i + m = l.length → Ev (fun k => folkmootref08_Check.l0 k l (i : Int)) (if (l.drop i).all isT = true then (if l.length = 0 then 80 else 0) else 80)
  | 0, i, h => by
    refine Ev.succ ?_;simp only [folkmootref08_Check.l0]
    rw [List.drop_of_length_le (by omega)]
    refine Ev.no (by omega) (Ev.cond (fun e => ?_) (fun e => ?_))
    · rw [if_pos (by rfl), if_pos (by omega)]; exact Ev.some _
    · rw [if_pos (by rfl), if_neg (by omega)]; exact Ev.some _
  | m + 1, i, h => by
    have hi : i < l.length := by omega
    have ih := rchk_l0 l hl hn m (i + 1) (by omega)
    obtain ⟨n0, n1⟩ := hn l[i] (List.getElem_mem hi)
    have hd : (l.drop i).all isT = (isT l[i] && (l.drop (i + 1)).all isT) := by rw [List.drop_eq_getElem_cons hi, List.all_cons]
    rw [hd]
    refine Ev.succ ?_;simp only [folkmootref08_Check.l0]
    rw [rd_atO hi]
    generalize hR : (if (l.drop (i + 1)).all isT = true then (if l.length = 0 then (80 : Int) else 0) else 80) = R at ih
    have hj2 := fun a b => rchk_j2 (by omega) ih l[i] n0 n1 a b
    have hgoal : (if (isT l[i] && (l.drop (i + 1)).all isT) = true then (if l.length = 0 then (80 : Int) else 0) else 80) = if isT l[i] = true then R else 80 := by
      cases isT l[i] with
      | false => rfl
      | true => rw [← hR]; rfl
    rw [hgoal]
    generalize l[i] = o at *
    have fin : ∀ a b : Bool, isT o = (keyT o.f1 && a && b && numOk o.f3) → Ev (fun k => folkmootref08_Check.j2 k l (i : Int) a b o.f0 o.f1 o.f2 o.f3) (if isT o = true then R else 80) := fun a b e => by rw [e]; exact hj2 a b
    rw [beq_nil, beq_zero]
    refine Ev.yes (by omega) (Ev.yes (by omega) ?_);refine Ev.cond (fun k2 => ?_) (fun k2 => Ev.cond (fun k6 => ?_) (fun k6 => Ev.cond (fun k3 => ?_) (fun k3 => ?_)))
    · refine Ev.cond (fun e => ?_) (fun e => Ev.bind1 (rkey_f o.f2) (Ev.cond (fun g => ?_) (fun g => ?_)))
      · have e' := (toList_nil _).1 e
        refine fin _ _ ?_
        unfold isT
        rw [if_neg (by omega), if_neg (by omega), if_pos k2, e']
        simp [Bool.and_comm, Bool.and_assoc]
      · have e' : ¬ o.f2 = emptyB := fun h => e ((toList_nil _).2 h)
        rw [klt_list]
        refine fin _ _ ?_
        unfold isT
        rw [if_neg (by omega), if_neg (by omega), if_pos k2, decide_eq_false e', g]
        cases keyT o.f1 <;> cases numOk o.f3 <;> cases klt o.f1 o.f2 <;> cases decide (o.f3 = 0) <;> rfl
      · have e' : ¬ o.f2 = emptyB := fun h => e ((toList_nil _).2 h)
        refine fin _ _ ?_
        unfold isT
        rw [if_neg (by omega), if_neg (by omega), if_pos k2, decide_eq_false e', Bool.eq_false_iff.2 g]
        cases keyT o.f1 <;> cases numOk o.f3 <;> cases decide (o.f3 = 0) <;> rfl
    · refine Ev.bind1 (rkey_f o.f2) (Ev.cond (fun g => ?_) (fun g => ?_))
      · rw [bne_text]
        refine fin _ _ ?_
        unfold isT
        rw [if_neg (by omega), if_neg (by omega), if_neg (by omega), if_pos k6, g]
        cases keyT o.f1 <;> cases numOk o.f3 <;> cases decide (o.f2 ≠ o.f1) <;> rfl
      · refine fin _ _ ?_
        unfold isT
        rw [if_neg (by omega), if_neg (by omega), if_neg (by omega), if_pos k6, Bool.eq_false_iff.2 g]
        cases keyT o.f1 <;> cases numOk o.f3 <;> rfl
    · refine Ev.succ ?_;simp only [folkmootref08_Check.j1];refine Ev.yes (by rw [k3]; rfl) (fin _ _ ?_)
      unfold isT
      rw [if_neg (by omega), if_pos (by omega)]
      cases keyT o.f1 <;> cases numOk o.f3 <;> cases decide (o.f2 = emptyB) <;> rfl
    · refine Ev.succ ?_;simp only [folkmootref08_Check.j1];refine Ev.cond (fun k4 => fin _ _ ?_) (fun k4 => Ev.cond (fun k1 => fin _ _ ?_) (fun k1 => Ev.cond (fun k5 => fin _ _ ?_) (fun k5 => ?_)))
      · have k4' : o.f0 = 4 := by simpa using k4
        unfold isT
        rw [if_neg (by omega), if_pos (by omega)]
        cases keyT o.f1 <;> cases numOk o.f3 <;> cases decide (o.f2 = emptyB) <;> rfl
      · unfold isT
        rw [if_pos (by omega)]
        cases keyT o.f1 <;> cases numOk o.f3 <;> cases decide (o.f2 = emptyB) <;> cases decide (o.f3 = 0) <;> rfl
      · unfold isT
        rw [if_pos (by omega)]
        cases keyT o.f1 <;> cases numOk o.f3 <;> cases decide (o.f2 = emptyB) <;> cases decide (o.f3 = 0) <;> rfl
      · have k4' : ¬ o.f0 = 4 := by simpa using k4
        have : isT o = false := by
          unfold isT
          rw [if_neg (by omega), if_neg (by omega), if_neg (by omega), if_neg (by omega), Bool.and_false]
        rw [this]
        exact Ev.some _
theorem ev_rcheck (l : List S63) (hn : ∀ o ∈ l, 0 ≤ o.f3 ∧ o.f3 < 18446744073709551616) : Ev (fun k => folkmootref08_Check.f k l) (checkT l) := by
  unfold folkmootref08_Check.f checkT
  refine Ev.cond (fun e => ?_) (fun e => ?_)
  · rw [if_pos (by omega)]; exact Ev.some _
  · rw [if_neg (by omega)]
    have h := rchk_l0 l (by omega) hn l.length 0 (by omega)
    rw [List.drop_zero] at h
    refine Ev.eq h ?_
    by_cases h0 : l.length = 0
    · rw [if_pos (Or.inl h0 : l.length = 0 ∨ l.any (fun o => !isT o) = true)]; split <;> simp [h0]
    · rw [if_neg h0]
      by_cases ha : l.all isT = true
      · have hno : ¬ (l.length = 0 ∨ l.any (fun o => !isT o) = true) := by
          rintro (h | h)
          · exact h0 h
          · obtain ⟨o, ho, e⟩ := List.any_eq_true.1 h
            rw [List.all_eq_true.1 ha o ho] at e; cases e
        rw [if_pos ha, if_neg hno]
      · rw [if_neg ha, if_pos (Or.inr ?_ : l.length = 0 ∨ l.any (fun o => !isT o) = true)]
        rw [List.any_eq_true]
        have : ¬ ∀ o ∈ l, isT o = true := fun h => ha (List.all_eq_true.2 h)
        simp only [Classical.not_forall] at this
        obtain ⟨o, ho, e⟩ := this
        exact ⟨o, ho, by simp [Bool.eq_false_iff.2 e]⟩
end Go.Proofs.YtgmlenpcchhmbaaGreat.P
end
section
set_option linter.unusedVariables false
set_option linter.unusedSimpArgs false
namespace Go.Proofs.YtgmlenpcchhmbaaGreat.P
open Go.RowKit Go.Proofs.YtgmlenpcchhmbaaGreatW.PrintWords Go.Proofs.YtgmlenpcchhmbaaGreatW.PrintLast Go.Proofs.YtgmlenpcchhmbaaGreatW.PrintMore
attribute [local go_sem] max2_int min2_int max_two min_two max_three min_three max_four min_four   -- for this text's walks alone
def span_Meet.f (l0 : List (S71)) (l1 : List (S71)) : Option (Bool) := (span_Cut.f l0 l1).bind fun t893 => (some (decide ((t893.length : Int) > 0)))
set_option maxHeartbeats 8000000 in
set_option maxRecDepth 100000 in
theorem span_Meet.calls (A0 : Option Addr) (c0 : Nat) (l0 : List (S71)) (A1 : Option Addr) (c1 : Nat) (l1 : List (S71)) (r : Bool) (w : World) (hr0 : Kd.C k71 w A0 l0.length l0) (hc0 : l0.length ≤ c0) (hr1 : Kd.C k71 w A1 l1.length l1) (hc1 : l1.length ≤ c1) (h : span_Meet.f l0 l1 = some r) :
  Calls Tryz.prog 90 #[.slice A0 l0.length c0, .slice A1 l1.length c1] w fun e w' => e = .returned (.bool r) ∧ Below w.heap.size w w' := by
 have HR0 := Aside0.mk hr0
 have HC0 := Aside0.mk hc0
 clear hr0 hc0
 have HR1 := Aside0.mk hr1
 have HC1 := Aside0.mk hc1
 clear hr1 hc1
 have HB := Aside0.mk (Below.refl w.heap.size w)
 have H : ((span_Cut.f l0 l1).bind fun t893 => (some (decide ((t893.length : Int) > 0)))) = some r := h
 clear h
 replace H := Option.bind_eq_some_iff.mp H
 obtain ⟨t893, A30, H⟩ := H
 replace H : (some (decide ((t893.length : Int) > 0))) = some r := H
 have A3 := Aside0.mk A30
 clear A30;obtain rfl := Option.some.inj H
 go_enter Tryz.func90, Tryz.ntmps90
 go_wp2_with (first | ((with_reducible refine gate_callee (f := 137) rfl ?_); refine goesL_ (some 7) rfl rfl Tryz.func137 (by kernel_rfl) rfl #[.slice A0 l0.length c0, .slice A1 l1.length c1] rfl (by (try simp only [List.map_toArray, List.map_cons, List.map_nil]); first | done | rfl | (simp only [List.length_drop, List.length_take]; rfl)) ?_; (with_reducible refine (span_Cut.calls _ _ l0 _ _ l1 t893 _ ?side1 ?side2 ?side3 ?side4 A3.out).mono ?_); (case side1 => repeat (first | exact HR0.out | (with_reducible refine Kd.C_alloc ?_ _) | (with_reducible refine Kd.C_drewN ?_ _) | (with_reducible refine Kd.C_drew ?_))); (case side2 => exact HC0.out); (case side3 => repeat (first | exact HR1.out | (with_reducible refine Kd.C_alloc ?_ _) | (with_reducible refine Kd.C_drewN ?_ _) | (with_reducible refine Kd.C_drew ?_))); (case side4 => exact HC1.out); rintro e w4 ⟨v894, rfl, ho0, hb⟩; refine ⟨_, rfl, ?_⟩; have n0_ := Aside0.mk (Kd.R_lower ho0 (below_size bB_)); have n1_ := Aside0.mk (below_step bB_ hb); clear HB; have HO895 := n0_; have HB := n1_; clear n0_ n1_; (try clear hb); (try clear hb2); (try clear hk); (try clear hi); (try clear ho0); obtain ⟨Ao5, co5, eo5⟩ := Kd.R_slice HO895.out; subst eo5))
 go_ret
 exact ⟨by first | rfl | (rw [bl_gt] <;> rfl) | (simp [errW_none, errW_some] <;> rfl) | (simp [*, errW_none, errW_some] <;> rfl), bB_⟩
end Go.Proofs.YtgmlenpcchhmbaaGreat.P
end
section
set_option linter.unusedVariables false
set_option linter.unusedSimpArgs false
namespace Go.Proofs.YtgmlenpcchhmbaaGreat.P
open Go.RowKit Go.Proofs.YtgmlenpcchhmbaaGreatW.PrintWords Go.Proofs.YtgmlenpcchhmbaaGreatW.PrintLast Go.Proofs.YtgmlenpcchhmbaaGreatW.PrintMore
attribute [local go_sem] max2_int min2_int max_two min_two max_three min_three max_four min_four   -- for this text's walks alone
def txn_Conflict.f (k : Nat) (l0 : List (S63)) (l1 : List (S63)) : Option (Bool) := (txn_Writes.f k l0).bind fun t896 => ((txn_All.f k l1).bind fun t899 => ((span_Meet.f t896 t899).bind fun t902 => (if t902 = true then (some true) else ((txn_Writes.f k l1).bind fun t903 => ((txn_All.f k l0).bind fun t906 => ((span_Meet.f t903 t906).bind fun t909 => (some t909)))))))
set_option maxHeartbeats 8000000 in
set_option maxRecDepth 100000 in
theorem txn_Conflict.calls (k : Nat) (A0 : Option Addr) (c0 : Nat) (l0 : List (S63)) (A1 : Option Addr) (c1 : Nat) (l1 : List (S63)) (r : Bool) (w : World) (hr0 : Kd.C k63 w A0 l0.length l0) (hc0 : l0.length ≤ c0) (hr1 : Kd.C k63 w A1 l1.length l1) (hc1 : l1.length ≤ c1) (h : txn_Conflict.f k l0 l1 = some r) :
  Calls Tryz.prog 46 #[.slice A0 l0.length c0, .slice A1 l1.length c1] w fun e w' => e = .returned (.bool r) ∧ Below w.heap.size w w' := by
 have HR0 := Aside0.mk hr0
 have HC0 := Aside0.mk hc0
 clear hr0 hc0
 have HR1 := Aside0.mk hr1
 have HC1 := Aside0.mk hc1
 clear hr1 hc1
 have HB := Aside0.mk (Below.refl w.heap.size w)
 have H : ((txn_Writes.f k l0).bind fun t896 => ((txn_All.f k l1).bind fun t899 => ((span_Meet.f t896 t899).bind fun t902 => (if t902 = true then (some true) else ((txn_Writes.f k l1).bind fun t903 => ((txn_All.f k l0).bind fun t906 => ((span_Meet.f t903 t906).bind fun t909 => (some t909)))))))) = some r := h
 clear h
 replace H := Option.bind_eq_some_iff.mp H
 obtain ⟨t896, A30, H⟩ := H
 replace H : ((txn_All.f k l1).bind fun t899 => ((span_Meet.f t896 t899).bind fun t902 => (if t902 = true then (some true) else ((txn_Writes.f k l1).bind fun t903 => ((txn_All.f k l0).bind fun t906 => ((span_Meet.f t903 t906).bind fun t909 => (some t909))))))) = some r := H
 have A3 := Aside0.mk A30
 clear A30
 replace H := Option.bind_eq_some_iff.mp H
 obtain ⟨t899, A40, H⟩ := H
 replace H : ((span_Meet.f t896 t899).bind fun t902 => (if t902 = true then (some true) else ((txn_Writes.f k l1).bind fun t903 => ((txn_All.f k l0).bind fun t906 => ((span_Meet.f t903 t906).bind fun t909 => (some t909)))))) = some r := H
 have A4 := Aside0.mk A40
 clear A40
 replace H := Option.bind_eq_some_iff.mp H
 obtain ⟨t902, A50, H⟩ := H
 replace H : (if t902 = true then (some true) else ((txn_Writes.f k l1).bind fun t903 => ((txn_All.f k l0).bind fun t906 => ((span_Meet.f t903 t906).bind fun t909 => (some t909))))) = some r := H
 have A5 := Aside0.mk A50
 clear A50
 by_cases c6 : t902 = true
 ·subst c6
  have H1 : (some true) = some r := by rw [if_pos rfl] at H; exact H
  clear H;have H := H1;clear H1;obtain rfl := Option.some.inj H
  go_enter Tryz.func46, Tryz.ntmps46
  go_wp2_with (first | ((with_reducible refine gate_callee (f := 39) rfl ?_); refine goesL_ (some 6) rfl rfl Tryz.func39 (by kernel_rfl) rfl #[.slice A0 l0.length c0] rfl (by (try simp only [List.map_toArray, List.map_cons, List.map_nil]); first | done | rfl | (simp only [List.length_drop, List.length_take]; rfl)) ?_; (with_reducible refine (txn_Writes.calls k _ _ l0 t896 _ ?side1 ?side2 A3.out).mono ?_); (case side1 => repeat (first | exact HR0.out | (with_reducible refine Kd.C_alloc ?_ _) | (with_reducible refine Kd.C_drewN ?_ _) | (with_reducible refine Kd.C_drew ?_))); (case side2 => exact HC0.out); rintro e w7 ⟨v897, rfl, ho0, hb⟩; refine ⟨_, rfl, ?_⟩; have n0_ := Aside0.mk (Kd.R_lower ho0 (below_size bB_)); have n1_ := Aside0.mk (below_step bB_ hb); clear HB; have HO898 := n0_; have HB := n1_; clear n0_ n1_; (try clear hb); (try clear hb2); (try clear hk); (try clear hi); (try clear ho0)) | ((with_reducible refine gate_callee (f := 42) rfl ?_); refine goesL_ (some 8) rfl rfl Tryz.func42 (by kernel_rfl) rfl #[.slice A1 l1.length c1] rfl (by (try simp only [List.map_toArray, List.map_cons, List.map_nil]); first | done | rfl | (simp only [List.length_drop, List.length_take]; rfl)) ?_; (with_reducible refine (txn_All.calls k _ _ l1 t899 _ ?side1 ?side2 A4.out).mono ?_); (case side1 => repeat (first | exact (Kd.C_below HR1.out HB.out) | (with_reducible refine Kd.C_alloc ?_ _) | (with_reducible refine Kd.C_drewN ?_ _) | (with_reducible refine Kd.C_drew ?_))); (case side2 => exact HC1.out); rintro e w8 ⟨v900, rfl, ho0, hb⟩; refine ⟨_, rfl, ?_⟩; have n0_ := Aside0.mk (Kd.R_elder' (rR_ HO898.out) (Kd.R_base ho0) hb); have n1_ := Aside0.mk (Kd.R_lower (Kd.R_new' ho0 (Kd.R_lt (rR_ HO898.out))) (below_size bB_)); have n2_ := Aside0.mk (below_step bB_ hb); clear HO898; clear HB; have HO898 := n0_; have HO901 := n1_; have HB := n2_; clear n0_ n1_ n2_; (try clear hb); (try clear hb2); (try clear hk); (try clear hi); (try clear ho0); obtain ⟨Ao9, co9, eo9⟩ := Kd.R_slice HO898.out; subst eo9; obtain ⟨Ao10, co10, eo10⟩ := Kd.R_slice HO901.out; subst eo10) | ((with_reducible refine gate_callee (f := 90) rfl ?_); refine goesL_ (some 9) rfl rfl Tryz.func90 (by kernel_rfl) rfl #[.slice Ao9 t896.length co9, .slice Ao10 t899.length co10] rfl (by (try simp only [List.map_toArray, List.map_cons, List.map_nil]); first | done | rfl | (simp only [List.length_drop, List.length_take]; rfl)) ?_; (with_reducible refine (span_Meet.calls _ _ t896 _ _ t899 true _ ?side1 ?side2 ?side3 ?side4 A5.out).mono ?_); (case side1 => repeat (first | exact (Kd.R_reads' HO898.out).2.2 | (with_reducible refine Kd.C_alloc ?_ _) | (with_reducible refine Kd.C_drewN ?_ _) | (with_reducible refine Kd.C_drew ?_))); (case side2 => exact (Kd.R_reads' HO898.out).2.1); (case side3 => repeat (first | exact (Kd.R_reads' HO901.out).2.2 | (with_reducible refine Kd.C_alloc ?_ _) | (with_reducible refine Kd.C_drewN ?_ _) | (with_reducible refine Kd.C_drew ?_))); (case side4 => exact (Kd.R_reads' HO901.out).2.1); rintro e w11 ⟨rfl, hb⟩; refine ⟨_, rfl, ?_⟩; have n0_ := Aside0.mk (Kd.R_below (rR_ HO898.out) hb); have n1_ := Aside0.mk (Kd.R_below (rR_ HO901.out) hb); have n2_ := Aside0.mk (below_step bB_ hb); clear HO898; clear HO901; clear HB; have HO898 := n0_; have HO901 := n1_; have HB := n2_; clear n0_ n1_ n2_; (try clear hb); (try clear hb2); (try clear hk); (try clear hi)))
  go_ret
  exact ⟨by first | rfl | (rw [bl_gt] <;> rfl) | (simp [errW_none, errW_some] <;> rfl) | (simp [*, errW_none, errW_some] <;> rfl), bB_⟩
 ·replace c6 := Bool.eq_false_iff.mpr c6
  subst c6
  have H1 : ((txn_Writes.f k l1).bind fun t903 => ((txn_All.f k l0).bind fun t906 => ((span_Meet.f t903 t906).bind fun t909 => (some t909)))) = some r := by rw [if_neg (show ¬ (false = true) by decide)] at H; exact H
  clear H;have H := H1;clear H1
  replace H := Option.bind_eq_some_iff.mp H
  obtain ⟨t903, A120, H⟩ := H
  replace H : ((txn_All.f k l0).bind fun t906 => ((span_Meet.f t903 t906).bind fun t909 => (some t909))) = some r := H
  have A12 := Aside0.mk A120
  clear A120
  replace H := Option.bind_eq_some_iff.mp H
  obtain ⟨t906, A130, H⟩ := H
  replace H : ((span_Meet.f t903 t906).bind fun t909 => (some t909)) = some r := H
  have A13 := Aside0.mk A130
  clear A130
  replace H := Option.bind_eq_some_iff.mp H
  obtain ⟨t909, A140, H⟩ := H
  replace H : (some t909) = some r := H
  have A14 := Aside0.mk A140
  clear A140;obtain rfl := Option.some.inj H
  go_enter Tryz.func46, Tryz.ntmps46
  go_wp2_with (first | ((with_reducible refine gate_callee (f := 39) rfl ?_); refine goesL_ (some 6) rfl rfl Tryz.func39 (by kernel_rfl) rfl #[.slice A0 l0.length c0] rfl (by (try simp only [List.map_toArray, List.map_cons, List.map_nil]); first | done | rfl | (simp only [List.length_drop, List.length_take]; rfl)) ?_; (with_reducible refine (txn_Writes.calls k _ _ l0 t896 _ ?side1 ?side2 A3.out).mono ?_); (case side1 => repeat (first | exact HR0.out | (with_reducible refine Kd.C_alloc ?_ _) | (with_reducible refine Kd.C_drewN ?_ _) | (with_reducible refine Kd.C_drew ?_))); (case side2 => exact HC0.out); rintro e w15 ⟨v897, rfl, ho0, hb⟩; refine ⟨_, rfl, ?_⟩; have n0_ := Aside0.mk (Kd.R_lower ho0 (below_size bB_)); have n1_ := Aside0.mk (below_step bB_ hb); clear HB; have HO898 := n0_; have HB := n1_; clear n0_ n1_; (try clear hb); (try clear hb2); (try clear hk); (try clear hi); (try clear ho0)) | ((with_reducible refine gate_callee (f := 42) rfl ?_); refine goesL_ (some 8) rfl rfl Tryz.func42 (by kernel_rfl) rfl #[.slice A1 l1.length c1] rfl (by (try simp only [List.map_toArray, List.map_cons, List.map_nil]); first | done | rfl | (simp only [List.length_drop, List.length_take]; rfl)) ?_; (with_reducible refine (txn_All.calls k _ _ l1 t899 _ ?side1 ?side2 A4.out).mono ?_); (case side1 => repeat (first | exact (Kd.C_below HR1.out HB.out) | (with_reducible refine Kd.C_alloc ?_ _) | (with_reducible refine Kd.C_drewN ?_ _) | (with_reducible refine Kd.C_drew ?_))); (case side2 => exact HC1.out); rintro e w16 ⟨v900, rfl, ho0, hb⟩; refine ⟨_, rfl, ?_⟩; have n0_ := Aside0.mk (Kd.R_elder' (rR_ HO898.out) (Kd.R_base ho0) hb); have n1_ := Aside0.mk (Kd.R_lower (Kd.R_new' ho0 (Kd.R_lt (rR_ HO898.out))) (below_size bB_)); have n2_ := Aside0.mk (below_step bB_ hb); clear HO898; clear HB; have HO898 := n0_; have HO901 := n1_; have HB := n2_; clear n0_ n1_ n2_; (try clear hb); (try clear hb2); (try clear hk); (try clear hi); (try clear ho0); obtain ⟨Ao17, co17, eo17⟩ := Kd.R_slice HO898.out; subst eo17; obtain ⟨Ao18, co18, eo18⟩ := Kd.R_slice HO901.out; subst eo18) | ((with_reducible refine gate_callee (f := 90) rfl ?_); refine goesL_ (some 9) rfl rfl Tryz.func90 (by kernel_rfl) rfl #[.slice Ao17 t896.length co17, .slice Ao18 t899.length co18] rfl (by (try simp only [List.map_toArray, List.map_cons, List.map_nil]); first | done | rfl | (simp only [List.length_drop, List.length_take]; rfl)) ?_; (with_reducible refine (span_Meet.calls _ _ t896 _ _ t899 false _ ?side1 ?side2 ?side3 ?side4 A5.out).mono ?_); (case side1 => repeat (first | exact (Kd.R_reads' HO898.out).2.2 | (with_reducible refine Kd.C_alloc ?_ _) | (with_reducible refine Kd.C_drewN ?_ _) | (with_reducible refine Kd.C_drew ?_))); (case side2 => exact (Kd.R_reads' HO898.out).2.1); (case side3 => repeat (first | exact (Kd.R_reads' HO901.out).2.2 | (with_reducible refine Kd.C_alloc ?_ _) | (with_reducible refine Kd.C_drewN ?_ _) | (with_reducible refine Kd.C_drew ?_))); (case side4 => exact (Kd.R_reads' HO901.out).2.1); rintro e w19 ⟨rfl, hb⟩; refine ⟨_, rfl, ?_⟩; have n0_ := Aside0.mk (Kd.R_below (rR_ HO898.out) hb); have n1_ := Aside0.mk (Kd.R_below (rR_ HO901.out) hb); have n2_ := Aside0.mk (below_step bB_ hb); clear HO898; clear HO901; clear HB; have HO898 := n0_; have HO901 := n1_; have HB := n2_; clear n0_ n1_ n2_; (try clear hb); (try clear hb2); (try clear hk); (try clear hi)) | (go_at_call 39; (with_reducible refine (txn_Writes.calls k _ _ l1 t903 _ ?side1 ?side2 A12.out).mono ?_); (case side1 => repeat (first | exact (Kd.C_below HR1.out HB.out) | (with_reducible refine Kd.C_alloc ?_ _) | (with_reducible refine Kd.C_drewN ?_ _) | (with_reducible refine Kd.C_drew ?_))); (case side2 => exact HC1.out); rintro e w20 ⟨v904, rfl, ho0, hb⟩; have n0_ := Aside0.mk (Kd.R_elder' (rR_ HO898.out) (Kd.R_base ho0) hb); have n1_ := Aside0.mk (Kd.R_elder' (rR_ HO901.out) (Kd.R_base ho0) hb); have n2_ := Aside0.mk (Kd.R_lower (Kd.R_new' (Kd.R_new' ho0 (Kd.R_lt (rR_ HO898.out))) (Kd.R_lt (rR_ HO901.out))) (below_size bB_)); have n3_ := Aside0.mk (below_step bB_ hb); clear HO898; clear HO901; clear HB; have HO898 := n0_; have HO901 := n1_; have HO905 := n2_; have HB := n3_; clear n0_ n1_ n2_ n3_; (try clear hb); (try clear hb2); (try clear hk); (try clear hi); (try clear ho0)) | (go_at_call 42; (with_reducible refine (txn_All.calls k _ _ l0 t906 _ ?side1 ?side2 A13.out).mono ?_); (case side1 => repeat (first | exact (Kd.C_below HR0.out HB.out) | (with_reducible refine Kd.C_alloc ?_ _) | (with_reducible refine Kd.C_drewN ?_ _) | (with_reducible refine Kd.C_drew ?_))); (case side2 => exact HC0.out); rintro e w21 ⟨v907, rfl, ho0, hb⟩; have n0_ := Aside0.mk (Kd.R_elder' (rR_ HO898.out) (Kd.R_base ho0) hb); have n1_ := Aside0.mk (Kd.R_elder' (rR_ HO901.out) (Kd.R_base ho0) hb); have n2_ := Aside0.mk (Kd.R_elder' (rR_ HO905.out) (Kd.R_base ho0) hb); have n3_ := Aside0.mk (Kd.R_lower (Kd.R_new' (Kd.R_new' (Kd.R_new' ho0 (Kd.R_lt (rR_ HO898.out))) (Kd.R_lt (rR_ HO901.out))) (Kd.R_lt (rR_ HO905.out))) (below_size bB_)); have n4_ := Aside0.mk (below_step bB_ hb); clear HO898; clear HO901; clear HO905; clear HB; have HO898 := n0_; have HO901 := n1_; have HO905 := n2_; have HO908 := n3_; have HB := n4_; clear n0_ n1_ n2_ n3_ n4_; (try clear hb); (try clear hb2); (try clear hk); (try clear hi); (try clear ho0); obtain ⟨Ao22, co22, eo22⟩ := Kd.R_slice HO905.out; subst eo22; obtain ⟨Ao23, co23, eo23⟩ := Kd.R_slice HO908.out; subst eo23) | (go_at_call 90; (with_reducible refine (span_Meet.calls _ _ t903 _ _ t906 t909 _ ?side1 ?side2 ?side3 ?side4 A14.out).mono ?_); (case side1 => repeat (first | exact (Kd.R_reads' HO905.out).2.2 | (with_reducible refine Kd.C_alloc ?_ _) | (with_reducible refine Kd.C_drewN ?_ _) | (with_reducible refine Kd.C_drew ?_))); (case side2 => exact (Kd.R_reads' HO905.out).2.1); (case side3 => repeat (first | exact (Kd.R_reads' HO908.out).2.2 | (with_reducible refine Kd.C_alloc ?_ _) | (with_reducible refine Kd.C_drewN ?_ _) | (with_reducible refine Kd.C_drew ?_))); (case side4 => exact (Kd.R_reads' HO908.out).2.1); rintro e w24 ⟨rfl, hb⟩; have n0_ := Aside0.mk (Kd.R_below (rR_ HO898.out) hb); have n1_ := Aside0.mk (Kd.R_below (rR_ HO901.out) hb); have n2_ := Aside0.mk (Kd.R_below (rR_ HO905.out) hb); have n3_ := Aside0.mk (Kd.R_below (rR_ HO908.out) hb); have n4_ := Aside0.mk (below_step bB_ hb); clear HO898; clear HO901; clear HO905; clear HO908; clear HB; have HO898 := n0_; have HO901 := n1_; have HO905 := n2_; have HO908 := n3_; have HB := n4_; clear n0_ n1_ n2_ n3_ n4_; (try clear hb); (try clear hb2); (try clear hk); (try clear hi)))
  go_ret
  exact ⟨by first | rfl | (rw [bl_gt] <;> rfl) | (simp [errW_none, errW_some] <;> rfl) | (simp [*, errW_none, errW_some] <;> rfl), bB_⟩
end Go.Proofs.YtgmlenpcchhmbaaGreat.P
end
section
set_option linter.unusedVariables false
set_option linter.unusedSimpArgs false
namespace Go.Proofs.YtgmlenpcchhmbaaGreat.P
open Go.RowKit Go.Proofs.YtgmlenpcchhmbaaGreatW.PrintWords Go.Proofs.YtgmlenpcchhmbaaGreatW.PrintLast Go.Proofs.YtgmlenpcchhmbaaGreatW.PrintMore
attribute [local go_sem] max2_int min2_int max_two min_two max_three min_three max_four min_four   -- for this text's walks alone
end Go.Proofs.YtgmlenpcchhmbaaGreat.P
end
section
set_option linter.unusedVariables false
set_option linter.unusedSimpArgs false
namespace Go.Proofs.YtgmlenpcchhmbaaGreat.P
open Go.RowKit Go.Proofs.YtgmlenpcchhmbaaGreatW.PrintWords Go.Proofs.YtgmlenpcchhmbaaGreatW.PrintLast
def clashT (a b : List S63) : Bool := decide (0 < (cutL (unionT (setSp wK a)) (allT b)).length) || decide (0 < (cutL (unionT (setSp wK b)) (allT a)).length)
theorem meet_f (a b : List S71) (h : a.length + b.length ≤ 1000000) : span_Meet.f a b = some (decide (0 < (cutL a b).length)) := by
  unfold span_Meet.f span_Cut.f
  rw [if_pos h]
  show some _ = _
  congr 1
  rw [Bool.eq_iff_iff, decide_eq_true_eq, decide_eq_true_eq]
  omega
theorem ev_conflict (a b : List S63) (ha : a.length ≤ 8) (hb : b.length ≤ 8) (ka : ∀ o ∈ a, o.f1.size ≤ 16 ∧ o.f2.size ≤ 16) (kb : ∀ o ∈ b, o.f1.size ≤ 16 ∧ o.f2.size ≤ 16) : Ev (fun k => txn_Conflict.f k a b) (clashT a b) := by
  have h1 := reads_le a ha
  have h2 := reads_le b hb
  have h3 := allT_le a ha
  have h4 := allT_le b hb
  unfold txn_Conflict.f clashT
  refine Ev.bind (ev_writes a ha ka) (Ev.bind (ev_all b hb kb) (Ev.bind1 (meet_f _ _ (by omega)) (Ev.cond (fun e => ?_) (fun e => ?_))))
  · rw [e, Bool.true_or]; exact Ev.some _
  · rw [Bool.eq_false_iff.2 e, Bool.false_or]
    exact Ev.bind (ev_writes b hb kb) (Ev.bind (ev_all a ha ka) (Ev.bind1 (meet_f _ _ (by omega)) (Ev.some _)))
end Go.Proofs.YtgmlenpcchhmbaaGreat.P
end
