/- A tally: Quorum, All, Each. -/
import Derived.Test.YtmljpidhhiineaaPEach
import Derived.Test.YtmljpidhhiineaaPBR
namespace Go.Proofs.Ytmljpidhhiineaa.P
open Go.RowKit Go.Proofs.YtmljpidhhiineaaW.PrintWords Go.Proofs.YtmljpidhhiineaaW.PrintLast
section
variable {w : World} {ok : Nat → Prop} {g mb : Nat} {shs : List S40} {all N : List Int}
def enQ (s : S40) : Int := ((s.f1.length / 2 + 1 : Nat) : Int)
def enA (s : S40) : Int := (s.f1.length : Int)
def enE (_ : S40) : Int := 1
theorem tyQuorum_any (h : Tal w ok g mb shs all N) (hwf : ∀ s ∈ shs, ∀ x ∈ s.f1, wfI x) (hlen : ∀ s ∈ shs, s.f1.length * 8 ≤ 140737488355328) :
    Calls Try.prog 13 #[.pointer (some ⟨g, 0, none⟩)] w fun e w' => e = .returned (.bool (shs.all (enoughB enQ N))) ∧ Below w.heap.size w w' := by
  have H := tyeach_any h hwf hlen 36 enQ (enters_of Try.func36 (by kernel_rfl) rfl) (fun W s A c hs hl hC => by
    have h8 := hlen s hs
    have hq : topo_Quorum.f s.f0.f0 s.f0.f1 s.f1 = some (enQ s) := by
      unfold topo_Quorum.f enQ
      rw [w64 (x := (s.f1.length : Int) / 2) (by omega) (by omega), w64 (by omega) (by omega)]
      congr 1
    exact (topo_Quorum.calls s.f0.f0 s.f0.f1 A c s.f1 (enQ s) W hC hl hq).mono fun e w' h => h)
  have HH := Lib.hid H; clear H
  go_enter Try.func13, Try.ntmps13
  go_wp2_with fail
  refine HH.out.mono ?_
  rintro e w1 ⟨rfl, hb⟩
  go_wp2_with fail
  go_ret
  exact ⟨rfl, hb⟩
theorem tyAll1_any (s : S40) (A : Option Addr) (c : Nat) (W : World) : Calls Try.prog 38 #[.agg #[.string s.f0.f0, .string s.f0.f1, .slice A s.f1.length c]] W fun e w' => e = .returned (.int .i64 (enA s)) ∧ Below W.heap.size W w' := by
  go_enter Try.func38, Try.ntmps38
  go_wp2
  go_ret
  exact ⟨rfl, (Below.refl _ _).alloc (Nat.le_refl _) _⟩
theorem tyEach1_any (s : S40) (A : Option Addr) (c : Nat) (W : World) : Calls Try.prog 39 #[.agg #[.string s.f0.f0, .string s.f0.f1, .slice A s.f1.length c]] W fun e w' => e = .returned (.int .i64 (enE s)) ∧ Below W.heap.size W w' := by
  go_enter Try.func39, Try.ntmps39
  go_wp2
  go_ret
  exact ⟨rfl, (Below.refl _ _).alloc (Nat.le_refl _) _⟩
theorem tyAll_any (h : Tal w ok g mb shs all N) (hwf : ∀ s ∈ shs, ∀ x ∈ s.f1, wfI x) (hlen : ∀ s ∈ shs, s.f1.length * 8 ≤ 140737488355328) :
    Calls Try.prog 15 #[.pointer (some ⟨g, 0, none⟩)] w fun e w' => e = .returned (.bool (shs.all (enoughB enA N))) ∧ Below w.heap.size w w' := by
  have H := tyeach_any h hwf hlen 38 enA (enters_of Try.func38 (by kernel_rfl) rfl) (fun W s A c hs hl hC => tyAll1_any s A c W)
  have HH := Lib.hid H; clear H
  go_enter Try.func15, Try.ntmps15
  go_wp2_with fail
  refine HH.out.mono ?_
  rintro e w1 ⟨rfl, hb⟩
  go_wp2_with fail
  go_ret
  exact ⟨rfl, hb⟩
theorem tyEach_any (h : Tal w ok g mb shs all N) (hwf : ∀ s ∈ shs, ∀ x ∈ s.f1, wfI x) (hlen : ∀ s ∈ shs, s.f1.length * 8 ≤ 140737488355328) :
    Calls Try.prog 17 #[.pointer (some ⟨g, 0, none⟩)] w fun e w' => e = .returned (.bool (shs.all (enoughB enE N))) ∧ Below w.heap.size w w' := by
  have H := tyeach_any h hwf hlen 39 enE (enters_of Try.func39 (by kernel_rfl) rfl) (fun W s A c hs hl hC => tyEach1_any s A c W)
  have HH := Lib.hid H; clear H
  go_enter Try.func17, Try.ntmps17
  go_wp2_with fail
  refine HH.out.mono ?_
  rintro e w1 ⟨rfl, hb⟩
  go_wp2_with fail
  go_ret
  exact ⟨rfl, hb⟩
theorem tyeach_nil (v : Value) (w : World) : Calls Try.prog 35 #[.pointer none, v] w fun e w' => e = .returned (.bool false) ∧ Below w.heap.size w w' := by
  go_enter Try.func35, Try.ntmps35
  go_wp2
  go_ret
  exact ⟨rfl, (Below.refl _ _).alloc (Nat.le_refl _) _⟩
theorem tyQuorum_nil (w : World) : Calls Try.prog 13 #[.pointer none] w fun e w' => e = .returned (.bool false) ∧ Below w.heap.size w w' := by
  go_enter Try.func13, Try.ntmps13
  go_wp2_with fail
  refine (tyeach_nil _ _).mono ?_
  rintro e w1 ⟨rfl, hb⟩
  go_wp2_with fail
  go_ret
  exact ⟨rfl, hb⟩
theorem tyAll_nil (w : World) : Calls Try.prog 15 #[.pointer none] w fun e w' => e = .returned (.bool false) ∧ Below w.heap.size w w' := by
  go_enter Try.func15, Try.ntmps15
  go_wp2_with fail
  refine (tyeach_nil _ _).mono ?_
  rintro e w1 ⟨rfl, hb⟩
  go_wp2_with fail
  go_ret
  exact ⟨rfl, hb⟩
theorem tyEach_nil (w : World) : Calls Try.prog 17 #[.pointer none] w fun e w' => e = .returned (.bool false) ∧ Below w.heap.size w w' := by
  go_enter Try.func17, Try.ntmps17
  go_wp2_with fail
  refine (tyeach_nil _ _).mono ?_
  rintro e w1 ⟨rfl, hb⟩
  go_wp2_with fail
  go_ret
  exact ⟨rfl, hb⟩
end
end Go.Proofs.Ytmljpidhhiineaa.P
