/- A tally: what its methods do. -/
import Derived.Test.YtmljpidhhiineaaPPure
import Derived.Deep.QuietTactic
import Derived.BigQuiet
namespace Go.Proofs.Ytmljpidhhiineaa.P
open Go.RowKit Go.Proofs.YtmljpidhhiineaaW.PrintWords Go.Proofs.YtmljpidhhiineaaW.PrintLast
/-- a tally at block g, its map at block mb; what it reads lies in ok. -/
def Tal (w : World) (ok : Nat → Prop) (g mb : Nat) (shs : List S40) (all N : List Int) : Prop :=
  ∃ A1 c1 A2 c2, Blk w g 48 #[.slice A1 shs.length c1, .slice A2 all.length c2, .map (some mb)] ∧ Kd.F k40 w ok A1 shs.length shs ∧ Kd.F (Kd.int .i64) w ok A2 all.length all ∧ SetIs w mb N ∧ shs.length ≤ c1 ∧ all.length ≤ c2
theorem F_upd {α : Type} {d : Kd α} {w w' : World} {ok S : Nat → Prop} {A : Option Addr} {n : Nat} {xs : List α} (h : Kd.F d w ok A n xs) (hu : Upd w w' S) (hs : ∀ k, ok k → ¬ S k) : Kd.F d w' ok A n xs := Kd.F_step h (fun k hk hlt => hu.block k hlt (hs k hk))
theorem Tal.set {w : World} {ok : Nat → Prop} {g mb : Nat} {shs : List S40} {all N : List Int} (h : Tal w ok g mb shs all N) : SetIs w mb N := by
  obtain ⟨_, _, _, _, _, _, _, hS, _⟩ := h
  exact hS
theorem Tal.lt {w : World} {ok : Nat → Prop} {g mb : Nat} {shs : List S40} {all N : List Int} (h : Tal w ok g mb shs all N) : g < w.heap.size ∧ mb < w.heap.size ∧ g ≠ mb := by
  obtain ⟨_, _, _, _, hb, _, _, hS, _⟩ := h
  refine ⟨hb.lt, hS.lt, fun e => ?_⟩
  obtain ⟨es, clock, h2, _⟩ := hS.own
  subst e
  unfold Blk at hb
  rw [hb] at h2
  cases h2
theorem Tal.upd {w w' : World} {ok S : Nat → Prop} {g mb : Nat} {shs : List S40} {all N : List Int} (h : Tal w ok g mb shs all N) (hu : Upd w w' S) (hok : ∀ k, ok k → ¬ S k) (hg : ¬ S g) (hm : ¬ S mb) : Tal w' ok g mb shs all N := by
  obtain ⟨A1, c1, A2, c2, hb, h1, h2, hS, hk1, hk2⟩ := h
  exact ⟨A1, c1, A2, c2, hb.upd hu hg, F_upd h1 hu hok, F_upd h2 hu hok, hS.upd hu hm, hk1, hk2⟩
theorem Tal.below {w w' : World} {ok : Nat → Prop} {g mb : Nat} {shs : List S40} {all N : List Int} (h : Tal w ok g mb shs all N) (hb : Below w.heap.size w w') : Tal w' ok g mb shs all N := h.upd (Upd.of_below hb (fun _ => False)) (fun _ _ x => x) (fun x => x) (fun x => x)
theorem Tal.put {w w' : World} {ok : Nat → Prop} {g mb : Nat} {shs : List S40} {all N N' : List Int} (h : Tal w ok g mb shs all N) (hu : Upd w w' (· = mb)) (hok : ¬ ok mb) (hS : SetIs w' mb N') : Tal w' ok g mb shs all N' := by
  have hne := h.lt.2.2
  obtain ⟨A1, c1, A2, c2, hb, h1, h2, _, hk1, hk2⟩ := h
  exact ⟨A1, c1, A2, c2, hb.upd hu hne, F_upd h1 hu (fun k hk e => hok (e ▸ hk)), F_upd h2 hu (fun k hk e => hok (e ▸ hk)), hS, hk1, hk2⟩
section
variable {w : World} {ok : Nat → Prop} {g mb : Nat} {shs : List S40} {all N : List Int}
theorem tyHas_any (h : Tal w ok g mb shs all N) {x : Int} (hx : wfI x) : Calls Try.prog 24 #[.pointer (some ⟨g, 0, none⟩), .int .i64 x] w fun e w' => e = .returned (.bool (decide (x ∈ N))) ∧ w' = w := by
  obtain ⟨A1, c1, A2, c2, hb, h1, h2, hS, hk1, hk2⟩ := h
  have hl := hS.look hx
  have hc := hb.cell 2
  have hc2 : w.cell? ⟨g, 2, none⟩ = some (.map (some mb)) := hc
  clear hc
  generalize decide (x ∈ N) = r at *
  go_enter Try.func24, Try.ntmps24
  go_wp2
  go_ret
  exact ⟨rfl, rfl⟩
theorem tyHas_nil (x : Int) (w : World) : Calls Try.prog 24 #[.pointer none, .int .i64 x] w fun e w' => e = .returned (.bool false) ∧ w' = w := by
  go_enter Try.func24, Try.ntmps24
  go_wp2
  go_ret
  exact ⟨rfl, rfl⟩
def AddIn (w : World) (ok : Nat → Prop) (g mb : Nat) (shs : List S40) (all N : List Int) (x : Int) (e : Ending) (w' : World) : Prop :=
  e = .returned (.bool (decide (x ∉ N ∧ x ∈ all))) ∧ Tal w' ok g mb shs all (if x ∉ N ∧ x ∈ all then N ++ [x] else N) ∧ Upd w w' (· = mb)
theorem tyAdd_any (h : Tal w ok g mb shs all N) (hok : ¬ ok mb) {x : Int} (hx : wfI x) (hN : N.length < 1000000000) : Calls Try.prog 26 #[.pointer (some ⟨g, 0, none⟩), .int .i64 x] w (AddIn w ok g mb shs all N x) := by
  have h0 := Lib.hid h
  obtain ⟨A1, c1, A2, c2, hb, h1, h2, hS, hk1, hk2⟩ := h
  have hl := hS.look hx
  have hc2 : w.cell? ⟨g, 2, none⟩ = some (.map (some mb)) := hb.cell 2
  have hc1 : w.cell? ⟨g, 1, none⟩ = some (.slice A2 all.length c2) := hb.cell 1
  have hC := Kd.F_now h2
  have hmax := hC.2.1
  have hcon := fun hle => slices_Contains_int_int.calls (all.length + 1) A2 c2 all x (decide (x ∈ all)) w hC hle (contains_f all x hmax)
  by_cases hin : x ∈ N
  · rw [decide_eq_true hin] at hl
    have HA := Lib.hid hin; clear hin
    clear hcon hmax hC
    go_enter Try.func26, Try.ntmps26
    go_wp2
    go_ret
    refine ⟨by simp [HA.out], by rw [if_neg (fun h => h.1 HA.out)]; exact h0.out, Upd.refl _ _⟩
  · rw [decide_eq_false hin] at hl
    have hcon2 := hcon hk2
    have HIN := Lib.hid hin; clear hin
    have HS := Lib.hid hS; clear hS
    clear hcon hC
    by_cases ha : x ∈ all
    · rw [decide_eq_true ha] at hcon2
      have HA := Lib.hid ha; clear ha
      go_enter Try.func26, Try.ntmps26
      go_wp2_with (go_at_call 44; refine hcon2.mono ?_; rintro e w' ⟨rfl, ⟨nd, rfl⟩⟩; obtain ⟨w2, hrun, hS2, hU2⟩ := (HS.out.upd ((Upd.refl w (fun _ => False)).drewN nd) (fun z => z)).put hx HIN.out (by unfold maxLen; omega))
      go_ret
      refine ⟨by simp [HIN.out, HA.out], ?_, ((Upd.refl w (· = mb)).drewN nd).trans hU2⟩
      rw [if_pos ⟨HIN.out, HA.out⟩]
      exact h0.out.put (((Upd.refl w (· = mb)).drewN nd).trans hU2) hok hS2
    · rw [decide_eq_false ha] at hcon2
      have HA := Lib.hid ha; clear ha
      go_enter Try.func26, Try.ntmps26
      go_wp2_with (go_at_call 44; refine hcon2.mono ?_; rintro e w' ⟨rfl, ⟨nd, rfl⟩⟩)
      go_ret
      refine ⟨by simp [HA.out], ?_, (Upd.refl w (· = mb)).drewN nd⟩
      rw [if_neg (fun h => HA.out h.2)]
      exact h0.out.upd ((Upd.refl w (fun _ => False)).drewN nd) (fun _ _ z => z) (fun z => z) (fun z => z)
theorem tyAdd_nil (x : Int) (w : World) : Calls Try.prog 26 #[.pointer none, .int .i64 x] w fun e w' => e = .returned (.bool false) ∧ w' = w := by
  go_enter Try.func26, Try.ntmps26
  go_wp2
  go_ret
  exact ⟨rfl, rfl⟩
theorem tyNodes_any (h : Tal w ok g mb shs all N) (hN : N.length < 1000000000) : Calls Try.prog 20 #[.pointer (some ⟨g, 0, none⟩)] w fun e w' => ∃ v, e = .returned v ∧ w'.ownsRow w.heap.size 3 1 v N.length (nums .i64 (N.mergeSort fun x y => decide (x ≤ y))) ∧ Below w.heap.size w w' := by
  obtain ⟨A1, c1, A2, c2, hb, h1, h2, hS, hk1, hk2⟩ := h
  have hc2 : w.cell? ⟨g, 2, none⟩ = some (.map (some mb)) := hb.cell 2
  have hS2 : SetIs (w.alloc (.cells #[.map (some mb)] 46)) mb N := hS.below ((Below.refl _ _).alloc (Nat.le_refl _) _)
  have hso := sorted_any (Bm := w.heap.size) hS2 (by simp) ((Blk.new w 46 #[.map (some mb)]).cell 0) (by omega)
  have HSO := Lib.hid hso; clear hso
  go_enter Try.func20, Try.ntmps20
  go_wp2_with (first
    | (go_at_call 41; refine (keys_any _ _).mono ?_; rintro e w' ⟨rfl, rfl⟩)
    | (go_at_call 40; refine HSO.out.mono ?_; rintro e w' ⟨v, rfl, ho, hbl⟩))
  go_ret
  have hle : w.heap.size ≤ (w.alloc (.cells #[.map (some mb)] 46)).heap.size := by simp
  exact ⟨v, rfl, own_weaken ho hle, ((Below.refl _ _).alloc (Nat.le_refl _) _).trans (hbl.mono hle)⟩
theorem tyNodes_nil (w : World) : Calls Try.prog 20 #[.pointer none] w fun e w' => e = .returned (.slice none 0 0) ∧ w' = w := by
  go_enter Try.func20, Try.ntmps20
  go_wp2
  go_ret
  exact ⟨rfl, rfl⟩
theorem tyWaiting_any (h : Tal w ok g mb shs all N) (hw : ∀ x ∈ all, wfI x) (hal : all.length * 8 ≤ 140737488355328) : Calls Try.prog 22 #[.pointer (some ⟨g, 0, none⟩)] w fun e w' => ∃ v, e = .returned v ∧ w'.ownsRow w.heap.size 3 1 v (all.filter fun x => !decide (x ∈ N)).length (nums .i64 (all.filter fun x => !decide (x ∈ N))) ∧ Below w.heap.size w w' := by
  have h0 := Lib.hid h
  obtain ⟨A1, c1, A2, c2, hb, h1, h2, hS, hk1, hk2⟩ := h
  have hc1 : w.cell? ⟨g, 1, none⟩ = some (.slice A2 all.length c2) := hb.cell 1
  have hcl := iclone_any A2 c2 all w (Kd.F_now h2) hal
  have HCL := Lib.hid hcl; clear hcl
  have heg := enters_of Try.func24 (by kernel_rfl) rfl
  have hdel := fun v w1 (ho : (w1 : World).ownsRow w.heap.size 3 1 v all.length (nums .i64 all)) (hb1 : Below w.heap.size w w1) => delF_own 24 #[.pointer (some ⟨g, 0, none⟩)] #[] (fun x => decide (x ∈ N)) heg w.heap.size v all w1 w ho hb1 hb1.size
    (fun W x hx hB => (tyHas_any (h0.out.below hB) (hw x hx)).mono fun e w' ⟨he, hw'⟩ => ⟨he, hw' ▸ Below.refl _ _⟩)
  have HDEL := Lib.hid hdel; clear hdel heg
  go_enter Try.func22, Try.ntmps22
  go_wp2_with fail
  refine HCL.out.mono ?_
  rintro e w1 ⟨v, rfl, ho, hbl⟩
  go_wp2_with fail
  refine (HDEL.out v w1 ho hbl).mono ?_
  rintro e w2 ⟨v2, rfl, ho2, hbl2⟩
  go_wp2_with fail
  go_ret
  exact ⟨v2, rfl, ho2, hbl2⟩
theorem tyWaiting_nil (w : World) : Calls Try.prog 22 #[.pointer none] w fun e w' => e = .returned (.slice none 0 0) ∧ w' = w := by
  go_enter Try.func22, Try.ntmps22
  go_wp2
  go_ret
  exact ⟨rfl, rfl⟩
end
end Go.Proofs.Ytmljpidhhiineaa.P
