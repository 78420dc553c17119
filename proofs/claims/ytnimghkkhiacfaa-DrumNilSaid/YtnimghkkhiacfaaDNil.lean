/- A nil drum: each way, and the walk of the statement. -/
import Derived.Test.YtnimghkkhiacfaaDFiles
import Derived.Test.YtnimghkkhiacfaaDLive
namespace Go.Proofs.Ytnimghkkhiacfaa.P
open Go.RowKit Go.Proofs.YtnimghkkhiacfaaW.PrintWords Go.Proofs.YtnimghkkhiacfaaW.PrintLast Go.Proofs.YtnimghkkhiacfaaW.PrintMore
theorem nilArm (n : Int) (w : World) : Calls Try.prog 15 #[.pointer none, .int .i64 n] w fun e w' => e = .returned (.tuple #[]) ∧ w' = w := by
  go_enter Try.func15, Try.ntmps15
  go_wp2
  (try simp only [Exit.inBlock, Exit.then]); refine bodyPost_end (results_none rfl _ _ _) rfl ?_
  exact ⟨rfl, rfl⟩
theorem nilCrash (v : Value) (w : World) : Calls Try.prog 13 #[.pointer none, v] w fun e w' => e = .returned (.tuple #[]) ∧ Below w.heap.size w w' := by
  go_enter Try.func13, Try.ntmps13
  go_wp2
  (try simp only [Exit.inBlock, Exit.then]); refine bodyPost_ret (results_none rfl _ _ _) rfl ?_
  exact ⟨rfl, by repeat (first | exact Below.refl _ _ | refine Below.alloc ?_ (by simp) _)⟩
theorem nilDead (w : World) : Calls Try.prog 16 #[.pointer none] w fun e w' => e = .returned (.bool false) ∧ w' = w := by
  go_enter Try.func16, Try.ntmps16
  go_wp2
  go_ret
  exact ⟨rfl, rfl⟩
theorem nilOps (w : World) : Calls Try.prog 17 #[.pointer none] w fun e w' => e = .returned (.int .i64 0) ∧ w' = w := by
  go_enter Try.func17, Try.ntmps17
  go_wp2
  go_ret
  exact ⟨rfl, rfl⟩
theorem nilFree (w : World) : Calls Try.prog 29 #[.pointer none] w fun e w' => e = .returned (.int .i64 0) ∧ w' = w := by
  go_enter Try.func29, Try.ntmps29
  go_wp2
  go_ret
  exact ⟨rfl, rfl⟩
theorem nilFiles (w : World) : Calls Try.prog 28 #[.pointer none] w fun e w' => e = .returned (.slice none 0 0) ∧ w' = w := by
  go_enter Try.func28, Try.ntmps28
  go_wp2
  go_ret
  exact ⟨rfl, rfl⟩
theorem nilRead (n : Int) (w : World) : Calls Try.prog 14 #[.pointer none, .int .i64 n] w fun e w' => e = .returned (.tuple #[.slice none 0 0, .int .i64 7]) ∧ w' = w := by
  go_enter Try.func14, Try.ntmps14
  go_wp2
  go_ret2
  exact ⟨rfl, rfl⟩
theorem nilOperate (n : Int) (f : Value) (w : World) : Calls Try.prog 30 #[.pointer none, .int .i64 n, f] w fun e w' => e = .returned (.int .i64 7) ∧ w' = w := by
  go_enter Try.func30, Try.ntmps30
  go_wp2
  go_ret
  exact ⟨rfl, rfl⟩
theorem nilSync (n : Int) (w : World) : Calls Try.prog 12 #[.pointer none, .int .i64 n] w fun e w' => e = .returned (.int .i64 7) ∧ Below w.heap.size w w' := by
  obtain ⟨w3, hw3⟩ : ∃ w3, ((w.alloc (.cells #[.pointer none] 24)).alloc (.cells #[.int .i64 n] 3)) = w3 := ⟨_, rfl⟩
  have hb3 : Below w.heap.size w w3 := hw3 ▸ ((Below.refl _ _).alloc (Nat.le_refl _) _).alloc (by simp) _
  have e1 : (w.alloc (.cells #[.pointer none] 24)).heap.size = w.heap.size + 1 := by simp
  have h0 : w3.cell? ⟨w.heap.size, 0, none⟩ = some (.pointer none) := hw3 ▸ ((Blk.new w 24 #[.pointer none]).alloc _).cell 0
  have h1 : w3.cell? ⟨w.heap.size + 1, 0, none⟩ = some (.int .i64 n) := by
    have := (Blk.new (w.alloc (.cells #[.pointer none] 24)) 3 #[.int .i64 n]).cell 0
    rw [e1, hw3] at this
    exact this
  go_enter Try.func12, Try.ntmps12
  go_wp2_with fail
  refine (nilOperate n _ w3).mono ?_
  rintro e w' ⟨rfl, rfl⟩
  go_wp2
  go_ret
  exact ⟨rfl, hb3⟩
theorem nilDelete (n : Int) (w : World) : Calls Try.prog 24 #[.pointer none, .int .i64 n] w fun e w' => e = .returned (.int .i64 7) ∧ Below w.heap.size w w' := by
  obtain ⟨w3, hw3⟩ : ∃ w3, ((w.alloc (.cells #[.pointer none] 24)).alloc (.cells #[.int .i64 n] 3)) = w3 := ⟨_, rfl⟩
  have hb3 : Below w.heap.size w w3 := hw3 ▸ ((Below.refl _ _).alloc (Nat.le_refl _) _).alloc (by simp) _
  have e1 : (w.alloc (.cells #[.pointer none] 24)).heap.size = w.heap.size + 1 := by simp
  have h0 : w3.cell? ⟨w.heap.size, 0, none⟩ = some (.pointer none) := hw3 ▸ ((Blk.new w 24 #[.pointer none]).alloc _).cell 0
  have h1 : w3.cell? ⟨w.heap.size + 1, 0, none⟩ = some (.int .i64 n) := by
    have := (Blk.new (w.alloc (.cells #[.pointer none] 24)) 3 #[.int .i64 n]).cell 0
    rw [e1, hw3] at this
    exact this
  go_enter Try.func24, Try.ntmps24
  go_wp2_with fail
  refine (nilOperate n _ w3).mono ?_
  rintro e w' ⟨rfl, rfl⟩
  go_wp2
  go_ret
  exact ⟨rfl, hb3⟩
theorem nilAppend (n : Int) (A : Option Addr) (m c : Nat) (w : World) : Calls Try.prog 11 #[.pointer none, .int .i64 n, .slice A m c] w fun e w' => e = .returned (.int .i64 7) ∧ Below w.heap.size w w' := by
  obtain ⟨w3, hw3⟩ : ∃ w3, (((w.alloc (.cells #[.pointer none] 24)).alloc (.cells #[.int .i64 n] 3)).alloc (.cells #[.slice A m c] 44)) = w3 := ⟨_, rfl⟩
  have hb3 : Below w.heap.size w w3 := hw3 ▸ (((Below.refl _ _).alloc (Nat.le_refl _) _).alloc (by simp) _).alloc (by simp; omega) _
  have e1 : (w.alloc (.cells #[.pointer none] 24)).heap.size = w.heap.size + 1 := by simp
  have h0 : w3.cell? ⟨w.heap.size, 0, none⟩ = some (.pointer none) := hw3 ▸ (((Blk.new w 24 #[.pointer none]).alloc _).alloc _).cell 0
  have h1 : w3.cell? ⟨w.heap.size + 1, 0, none⟩ = some (.int .i64 n) := by
    have := ((Blk.new (w.alloc (.cells #[.pointer none] 24)) 3 #[.int .i64 n]).alloc (.cells #[.slice A m c] 44)).cell 0
    rw [e1, hw3] at this
    exact this
  go_enter Try.func11, Try.ntmps11
  go_wp2_with fail
  refine (nilOperate n _ w3).mono ?_
  rintro e w' ⟨rfl, rfl⟩
  go_wp2
  go_ret
  exact ⟨rfl, hb3⟩
set_option maxHeartbeats 4000000 in
set_option maxRecDepth 100000 in
theorem drumNil_any (n : Int) (A : Option Addr) (c m : Nat) (w : World) (hm : m ≤ 140737488355328) : Calls Try.prog 6 #[.int .i64 n, .slice A m c] w fun e w' => e = .returned (.bool true) ∧ Below w.heap.size w w' := by
  go_enter Try.func6, Try.ntmps6
  by_cases b1 : 20000 < m
  · have d1 : decide ((20000 : Int) < (m : Int)) = true := decide_eq_true (by omega)
    go_wp2_with fail
    refine (live14_any _).mono ?_
    rintro e w2 ⟨rfl, hb2⟩
    go_wp2_with fail
    go_ret
    exact ⟨rfl, hb2⟩
  · have d1 : decide ((20000 : Int) < (m : Int)) = false := decide_eq_false (by omega)
    go_wp2_with fail
    refine (nilArm _ _).mono ?_
    rintro e w1 ⟨rfl, rfl⟩
    go_wp2_with fail
    refine (nilCrash _ _).mono ?_
    rintro e w2 ⟨rfl, hb2⟩
    go_wp2_with fail
    refine (nilRead _ _).mono ?_
    rintro e w3 ⟨rfl, rfl⟩
    go_wp2_with fail
    obtain ⟨w4, hw4⟩ : ∃ w4, w3.alloc (.cells #[.slice A m c] 22) = w4 := ⟨_, rfl⟩
    have hb4 := hb2.trans ((hw4 ▸ ((Below.refl w3.heap.size w3).alloc (Nat.le_refl _) _) : Below w3.heap.size w3 w4).mono hb2.size)
    rw [hw4]
    clear hw4 hb2
    refine (nilAppend _ _ _ _ _).mono ?_
    rintro e w5 ⟨rfl, hb5⟩
    have hb5 := hb4.trans (hb5.mono hb4.size); clear hb4
    go_wp2_with fail
    refine (num_any _ _).mono ?_
    rintro e w6 ⟨rfl, hd6⟩
    have hb6 := hb5.trans (hd6.below.mono hb5.size); clear hb5 hd6
    go_wp2_with fail
    refine (nilSync _ _).mono ?_
    rintro e w7 ⟨rfl, hb7⟩
    have hb7 := hb6.trans (hb7.mono hb6.size); clear hb6
    go_wp2_with fail
    refine (num_any _ _).mono ?_
    rintro e w8 ⟨rfl, hd8⟩
    have hb8 := hb7.trans (hd8.below.mono hb7.size); clear hb7 hd8
    go_wp2_with fail
    refine (nilDelete _ _).mono ?_
    rintro e w9 ⟨rfl, hb9⟩
    have hb9 := hb8.trans (hb9.mono hb8.size); clear hb8
    go_wp2_with fail
    refine (num_any _ _).mono ?_
    rintro e w10 ⟨rfl, hd10⟩
    have hb10 := hb9.trans (hd10.below.mono hb9.size); clear hb9 hd10
    go_wp2_with fail
    refine (num_any _ _).mono ?_
    rintro e w11 ⟨rfl, hd11⟩
    have hb11 := hb10.trans (hd11.below.mono hb10.size); clear hb10 hd11
    go_wp2_with fail
    refine (nilFiles _).mono ?_
    rintro e w12 ⟨rfl, rfl⟩
    go_wp2_with fail
    refine (nilFree _).mono ?_
    rintro e w12 ⟨rfl, rfl⟩
    go_wp2_with fail
    refine (nilDead _).mono ?_
    rintro e w12 ⟨rfl, rfl⟩
    go_wp2_with fail
    refine (nilOps _).mono ?_
    rintro e w12 ⟨rfl, rfl⟩
    go_wp2_with fail
    refine (live14_any _).mono ?_
    rintro e w13 ⟨rfl, hb13⟩
    go_wp2_with fail
    go_ret
    exact ⟨rfl, hb11.trans (hb13.mono hb11.size)⟩
end Go.Proofs.Ytnimghkkhiacfaa.P
