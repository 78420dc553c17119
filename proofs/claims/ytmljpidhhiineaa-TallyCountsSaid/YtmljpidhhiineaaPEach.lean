/- A tally: whether enough have answered. -/
import Derived.Test.YtmljpidhhiineaaPTal
import Derived.Deep.RegionHeld3
import Derived.Deep.DeepMust
namespace Go.Proofs.Ytmljpidhhiineaa.P
open Go.RowKit Go.Proofs.YtmljpidhhiineaaW.PrintWords Go.Proofs.YtmljpidhhiineaaW.PrintLast
section
variable {w : World} {ok : Nat → Prop} {g mb : Nat} {shs : List S40} {all N : List Int}
theorem tyeach1_any (h : Tal w ok g mb shs all N) {B : Nat} (hB : w.cell? ⟨B, 0, none⟩ = some (.pointer (some ⟨g, 0, none⟩))) {x : Int} (hx : wfI x) :
    Calls Try.prog 47 #[.int .i64 x, .pointer (some ⟨B, 0, none⟩)] w fun e w' => e = .returned (.bool (!decide (x ∈ N))) ∧ w' = w := by
  obtain ⟨A1, c1, A2, c2, hb, h1, h2, hS, hk1, hk2⟩ := h
  have hl := hS.look hx
  have hc2 : w.cell? ⟨g, 2, none⟩ = some (.map (some mb)) := hb.cell 2
  generalize decide (x ∈ N) = r at *
  go_enter Try.func47, Try.ntmps47
  go_wp2
  go_ret
  exact ⟨rfl, rfl⟩
def enoughB (en : S40 → Int) (N : List Int) (s : S40) : Bool := decide (en s ≤ ((s.f1.filter fun x => decide (x ∈ N)).length : Int))
def EachRel (w0 : World) (shs : List S40) (p : S40 → Bool) (kv : Value) (wr : World) : Prop := ∃ k : Nat, kv = .int .i64 k ∧ k ≤ shs.length ∧ Below w0.heap.size w0 wr ∧ (shs.take k).all p = true
def SReg (W0 : World) (b : Nat) (u v x : Value) (W : World) : Prop := Below W0.heap.size W0 W ∧ W.cell? ⟨b, 0, none⟩ = some u ∧ W.cell? ⟨b, 1, none⟩ = some v ∧ W.cell? ⟨b, 2, none⟩ = some x
set_option maxHeartbeats 4000000 in
theorem tyeach_any (h : Tal w ok g mb shs all N) (hwf : ∀ s ∈ shs, ∀ x ∈ s.f1, wfI x) (hlen : ∀ s ∈ shs, s.f1.length * 8 ≤ 140737488355328) (gf : Nat) (en : S40 → Int) (eg : ∀ args w, (callFunc gf args).run Try.prog w = .ok (.enter gf args) w)
    (hen : ∀ (W : World) (s : S40) (A : Option Addr) (c : Nat), s ∈ shs → s.f1.length ≤ c → Kd.C (Kd.int .i64) W A s.f1.length s.f1 → Calls Try.prog gf #[.agg #[.string s.f0.f0, .string s.f0.f1, .slice A s.f1.length c]] W fun e w' => e = .returned (.int .i64 (en s)) ∧ Below W.heap.size W w') :
    Calls Try.prog 35 #[.pointer (some ⟨g, 0, none⟩), .func (.func gf) #[] #[]] w fun e w' => e = .returned (.bool (shs.all (enoughB en N))) ∧ Below w.heap.size w w' := by
  have h0 := Lib.hid h
  obtain ⟨A1, c1, A2, c2, hb, h1, h2, hS, hk1, hk2⟩ := h
  have hg := hb.lt
  have HF := Lib.hid (Kd.F_now h1)
  have hcg := hb.cell 0
  have hmax := HF.out.2.1
  have HB := Lib.hid hb
  have HW := Lib.hid hwf
  have HL := Lib.hid hlen
  have HE := Lib.hid hen
  clear hb h1 h2 hS hwf hlen hen
  obtain ⟨w0, hw0⟩ : ∃ w0, w.alloc (.cells #[.pointer (some ⟨g, 0, none⟩)] 26) = w0 := ⟨_, rfl⟩
  have hB0 : Below w.heap.size w w0 := hw0 ▸ (Below.refl _ _).alloc (Nat.le_refl _) _
  have hbox : w0.cell? ⟨w.heap.size, 0, none⟩ = some (.pointer (some ⟨g, 0, none⟩)) := hw0 ▸ (Blk.new w 26 #[.pointer (some ⟨g, 0, none⟩)]).cell 0
  have hcg0 : w0.cell? ⟨g, 0, none⟩ = some (.slice A1 shs.length c1) := pw_cell_below hB0 hcg
  have hT0 := h0.out.below hB0
  clear hcg
  have HT0 := Lib.hid hT0; clear hT0
  have hF0 := Lib.hid (Kd.C_below HF.out hB0)
  go_enter Try.func35, Try.ntmps35
  go_wp2
  clear hcg0
  have HW0 := Lib.hid hw0; clear hw0
  go_loopw [6, 14] (fun _ kv wr => EachRel w0 shs (enoughB en N) kv wr) (fun _ k _ => shs.length - (intOf k).toNat)
  case atStart => exact ⟨0, rfl, Nat.zero_le _, Below.refl _ _, by simp⟩
  case round =>
    obtain ⟨k, rfl, hk, hBl, hp⟩ := hrel
    have HP := Lib.hid hp; clear hp
    by_cases hlt : k < shs.length
    · obtain ⟨ad, A3, c3, rfl, hx0, hx1, hx2, hl3, hi3⟩ := at_T40 hF0.out (k : Int) (by omega) (by omega)
      have hg3 : Go.Proofs.Ytmljpidhhiineaa.P.rd_T40 shs (k : Int) = shs[k] := by unfold Go.Proofs.Ytmljpidhhiineaa.P.rd_T40; simp [List.getElem?_eq_getElem hlt]
      rw [hg3] at hx0 hx1 hx2 hl3 hi3
      have hsm := List.getElem_mem hlt
      have hsn := take_snocI shs hlt
      generalize shs[k] = s at *
      have HSN := Lib.hid hsn; clear hsn hg3
      simp only [Int.toNat_natCast] at hx0 hx1 hx2
      replace hx0 := pw_cell_below hBl hx0
      replace hx1 := pw_cell_below hBl hx1
      replace hx2 := pw_cell_below hBl hx2
      have HI := Lib.hid (Kd.C_below hi3 hBl); clear hi3
      have hl8 := HL.out s hsm
      have HSM := Lib.hid hsm; clear hsm
      go_upto_region 6 with fail
      obtain ⟨W0, hW0⟩ : ∃ W0, wr.alloc (.cells #[.string s.f0.f0, .string s.f0.f1, .slice A3 s.f1.length c3] 40) = W0 := ⟨_, rfl⟩
      have hBW : Below wr.heap.size wr W0 := hW0 ▸ (Below.refl _ _).alloc (Nat.le_refl _) _
      have hbk : Blk W0 wr.heap.size 40 #[.string s.f0.f0, .string s.f0.f1, .slice A3 s.f1.length c3] := hW0 ▸ Blk.new wr _ _
      have hB2 : Below w0.heap.size w0 W0 := below_then hBl hBl.size hBW
      have hT2 := HT0.out.below hB2
      have hC2 := Kd.C_below HI.out hBW
      have hbox2 := pw_cell_below hB2 hbox
      rw [hW0]
      clear hW0 hx0 hx1 hx2
      generalize wr.heap.size = bx at *
      have mkS : ∀ W, Below W0.heap.size W0 W → SReg W0 bx (.string s.f0.f0) (.string s.f0.f1) (.slice A3 s.f1.length c3) W := fun W hb => ⟨hb, pw_cell_below hb (hbk.cell 0), pw_cell_below hb (hbk.cell 1), pw_cell_below hb (hbk.cell 2)⟩
      have hS0 := mkS W0 (Below.refl _ _)
      have hcl : ∀ W, Below W0.heap.size W0 W → Calls Try.prog 32 #[.slice A3 s.f1.length c3] W fun e w' => ∃ v, e = .returned v ∧ w'.ownsRow W0.heap.size 3 1 v s.f1.length (nums .i64 s.f1) ∧ Below W0.heap.size W0 w' ∧ Below W.heap.size W w' := fun W hb =>
        (iclone_any A3 c3 s.f1 W (Kd.C_below hC2 hb) hl8).mono fun e w' ⟨v, he, ho, h⟩ => ⟨v, he, own_weaken ho hb.size, below_then hb hb.size h, h⟩
      have hdl : ∀ v W, World.ownsRow W W0.heap.size 3 1 v s.f1.length (nums .i64 s.f1) → Below W0.heap.size W0 W → Calls Try.prog 43 #[v, .func (.func 47) #[] #[.pointer (some ⟨w.heap.size, 0, none⟩)]] W fun e w' => ∃ v', e = .returned v' ∧ w'.ownsRow W0.heap.size 3 1 v' (s.f1.filter fun x => !(!decide (x ∈ N))).length (nums .i64 (s.f1.filter fun x => !(!decide (x ∈ N)))) ∧ Below W0.heap.size W0 w' := fun v W ho hb =>
        delF_own 47 #[] #[.pointer (some ⟨w.heap.size, 0, none⟩)] (fun x => !decide (x ∈ N)) (enters_of Try.func47 (by kernel_rfl) rfl) W0.heap.size v s.f1 W W0 ho hb hb.size
          (fun W2 x hx h2 => (tyeach1_any (hT2.below h2) (pw_cell_below h2 hbox2) (HW.out s HSM.out x hx)).mono fun e w' ⟨he, hw'⟩ => ⟨he, hw' ▸ Below.refl _ _⟩)
      have hfn : ∀ W, Below W0.heap.size W0 W → Calls Try.prog gf #[.agg #[.string s.f0.f0, .string s.f0.f1, .slice A3 s.f1.length c3]] W fun e w' => e = .returned (.int .i64 (en s)) ∧ Below W0.heap.size W0 w' ∧ Below W.heap.size W w' := fun W hb =>
        (HE.out W s A3 c3 HSM.out hl3 (Kd.C_below hC2 hb)).mono fun e w' ⟨he, h⟩ => ⟨he, below_then hb hb.size h, h⟩
      obtain ⟨LL, hLL⟩ : ∃ LL, (s.f1.filter fun x => !(!decide (x ∈ N))) = LL := ⟨_, rfl⟩
      rw [hLL] at hdl
      have hff : LL = s.f1.filter fun x => decide (x ∈ N) := by rw [← hLL]; simp
      have HFF := Lib.hid hff; clear hff hLL
      have HCL := Lib.hid hcl; have HDL := Lib.hid hdl; have HFN := Lib.hid hfn; have HMK := Lib.hid mkS
      clear hcl hdl hfn mkS hT2 hC2 hbox2 hbk hBW
      unfold SReg at hS0
      have hD : Below W0.heap.size W0 W0.drew := below_drew (Below.refl _ _)
      go_region_held3 (fun W => Below W0.heap.size W0 W ∧ W.cell? ⟨bx, 0, none⟩ = some (.string s.f0.f0) ∧ W.cell? ⟨bx, 1, none⟩ = some (.string s.f0.f1) ∧ W.cell? ⟨bx, 2, none⟩ = some (.slice A3 s.f1.length c3))
        (first
          | exact HMK.out _ (by assumption)
          | go_keep)
        (first
          | (go_at_call 32; go_must (go_split_ands; refine (HCL.out _ (by assumption)).mono ?_; rintro e wq ⟨vq, rfl, hoq, hBq, hbq⟩))
          | (go_at_call 43; go_must (go_split_ands; refine (HDL.out _ _ (by first | exact hoq | exact pw_own_below hoq hbs) (by assumption)).mono ?_; rintro e wr2 ⟨vr, rfl, hor, hBr⟩; obtain ⟨A4, c4, rfl⟩ := own_slice hor))
          | (go_at_fn gf; go_must (go_split_ands; refine (HFN.out _ (by assumption)).mono ?_; rintro e ws ⟨rfl, hBs, hbs⟩)))
      all_goals
        have hBE : ∀ W, Below W0.heap.size W0 W → Below w0.heap.size w0 W := fun W h => below_then hB2 hB2.size h
        have HBE := Lib.hid hBE; clear hBE
        by_cases hq : (LL.length : Int) < en s
        · go_wp2
          go_ret
          refine ⟨?_, hB0.trans ((HBE.out _ (by assumption)).mono hB0.size)⟩
          have he : enoughB en N s = false := by
            unfold enoughB
            rw [← HFF.out]
            exact decide_eq_false (by omega)
          have : shs.all (enoughB en N) = false := List.all_eq_false.2 ⟨s, HSM.out, by rw [he]; simp⟩
          rw [this]
          rfl
        · go_wp2
          go_roundw
          case rel => exact ⟨k + 1, by go_num, by omega, HBE.out _ (by assumption), by
            rw [HSN.out, List.all_append, HP.out]
            have he : enoughB en N s = true := by
              unfold enoughB
              rw [← HFF.out]
              exact decide_eq_true (by omega)
            simp [he]⟩
          case measure => simp [intOf]; omega
    · obtain rfl : k = shs.length := by omega
      go_wp2
      go_ret
      have := HP.out
      rw [List.take_length] at this
      exact ⟨by rw [this]; rfl, hB0.trans (hBl.mono hB0.size)⟩
end
end Go.Proofs.Ytmljpidhhiineaa.P
