/- what the claim's row stands on, part 9. -/
import Derived.Test.YtgmlenpcchhmbaaGreatZs7
import Derived.Test.YtgmlenpcchhmbaaGreatZs8
section
set_option linter.unusedVariables false
set_option linter.unusedSimpArgs false
namespace Go.Proofs.YtgmlenpcchhmbaaGreat.P
open Go.RowKit Go.Proofs.YtgmlenpcchhmbaaGreatW.PrintWords Go.Proofs.YtgmlenpcchhmbaaGreatW.PrintLast
def sEnd (s : St) (k : ByteArray) (n : Int) : St := (s.put k n).drop k
def seesL (k : ByteArray) (n : Int) (t : ByteArray) : List S63 := [⟨3, k, ⟨#[]⟩, n⟩, ⟨1, k, ⟨#[]⟩, 0⟩, ⟨5, k, ⟨#[]⟩, 0⟩, ⟨1, k, ⟨#[]⟩, 0⟩, ⟨2, k, t, 0⟩]
def seesA (k : ByteArray) (n : Int) (t : ByteArray) (d : List S61) : List S65 := [⟨true, 0, []⟩, ⟨true, n, []⟩, ⟨true, 0, []⟩, ⟨false, 0, []⟩, ⟨true, 0, pickT [⟨k, t⟩] d⟩]
theorem getL_put_self {V : Type} (l : List (ByteArray × V)) (k : ByteArray) (v : V) : getL (putL l k v) k = some v := by rw [getL_put, if_pos rfl]
theorem getL_del_self {V : Type} (l : List (ByteArray × V)) (k : ByteArray) : getL (delL l k) k = none := by rw [getL_del, if_pos rfl]
theorem runA_sees (k : ByteArray) (n : Int) (t : ByteArray) (s : St) : runA (seesL k n t) s = seesA k n t ((sEnd s k n).d.map ofA) := by
  simp [seesL, seesA, sEnd, runA, stepA, stepS, St.has, St.at, St.put, St.drop, getL_put_self, getL_del_self]
theorem runS_sees (k : ByteArray) (n : Int) (t : ByteArray) (s : St) : runS (seesL k n t) s = sEnd s k n := by
  simp [seesL, sEnd, runS, stepS]
theorem del_put {l : List (ByteArray × Int)} (h : SortK l) (k : ByteArray) (n : Int) : delL (putL l k n) k = delL l k :=
  sort_ext ((h.put k n).del k) (h.del k) fun x => by
    rw [getL_del, getL_del]
    by_cases e : x = k
    · rw [if_pos e, if_pos e]
    · rw [if_neg e, if_neg e, getL_put, if_neg e]
theorem writes_sees (d : List S61) (k : ByteArray) (n : Int) : writesT (sEnd (startT d) k n) = [⟨k, 0, true⟩] := by
  have hc : (sEnd (startT d) k n).c = [(k, true)] := by
    show putL (putL [] k true) k true = _
    simp [putL, klt_irrefl]
  have hg : getL (sEnd (startT d) k n).d k = none := getL_del_self _ _
  unfold writesT
  rw [hc]
  simp [hg]
theorem sEnd_d {d : List S61} (h : SortK (d.map toA)) (k : ByteArray) (n : Int) : (sEnd (startT d) k n).d = delL (d.map toA) k := by
  show delL (putL (startT d).d k n) k = _
  rw [start_d h, del_put h]
theorem ev_j1s (k : ByteArray) (n : Int) (t : ByteArray) (d : List S61) (hs : SortK (d.map toA)) (hl : d.length ≤ 60) : Ev (fun f => folkmootlaw08_TxnSees.j1 f k d t [⟨k, 0, true⟩] (seesA k n t ((delL (d.map toA) k).map ofA)) false) true := by
  have h1 : applyT d [⟨k, 0, true⟩] = (delL (d.map toA) k).map ofA := by
    show doW d ⟨k, 0, true⟩ = _
    unfold doW
    rw [if_pos rfl]
  have h2 : (delL (d.map toA) k).length ≤ 60 := by
    have := delL_le2 (d.map toA) k
    rw [List.length_map] at this
    omega
  have ha : txn_Apply.f d [⟨k, 0, true⟩] = some ((delL (d.map toA) k).map ofA) := by rw [apply_f hs (by simp; omega), h1]
  have hp : txn_Pick.f ((delL (d.map toA) k).map ofA) [⟨k, t⟩] = some (pickT [⟨k, t⟩] ((delL (d.map toA) k).map ofA)) := by
    unfold txn_Pick.f
    rw [if_pos (by rw [List.length_map]; omega)]
  refine Ev.succ ?_
  simp only [folkmootlaw08_TxnSees.j1]
  refine Ev.no (by decide) (Ev.bind1 ha (Ev.yes (by simp [seesA]) (Ev.bind1 hp (Ev.bind (r := true) ?_ (Ev.yes rfl (Ev.bind1 ha (Ev.bind (ev_pairs _ (by rw [List.length_map]; omega)) (Ev.yes rfl ev_live))))))))
  refine ev_pairs (pickT [⟨k, t⟩] ((delL (d.map toA) k).map ofA)) ?_
  have : (pickT [⟨k, t⟩] ((delL (d.map toA) k).map ofA)).length ≤ ((delL (d.map toA) k).map ofA).length := List.length_filter_le _ _
  rw [List.length_map] at this
  omega
theorem ev_j0s (k : ByteArray) (n : Int) (t : ByteArray) (d : List S61) (q : Bool) (h : q = false → TxIn (seesL k n t) d) : Ev (fun f => folkmootlaw08_TxnSees.j0 f k n d t (seesL k n t) q) true := by
  refine Ev.succ ?_
  simp only [folkmootlaw08_TxnSees.j0]
  refine Ev.cond (fun _ => ev_live) (fun hq => ?_)
  have hi := h (by simpa using hq)
  have hs := hi.dt.1
  have hd := hi.dl
  have he := eval_f hi.len hi.ops (by omega) (dataT_keys hi.dt)
  rw [runS_sees, runA_sees, writes_sees, sEnd_d hs] at he
  exact Ev.bind1 he (Ev.yes (by simp [seesA]) (Ev.yes (by simp [seesA]) (Ev.yes rfl (Ev.yes (by simp [seesA]) (Ev.yes rfl (Ev.yes rfl (Ev.yes (by simp [seesA]) (Ev.yes rfl (Ev.yes (by simp [seesA]) (Ev.no (by show ¬ (false = true); decide) (Ev.yes rfl (Ev.yes rfl (Ev.yes (by simp) (ev_j1s k n t d hs hd))))))))))))))
theorem txnSees_any (a0 : ByteArray) (a1 : Int) (A2 : Option Addr) (c2 : Nat) (d : List S61) (a3 : ByteArray) (w : World)
    (C2 : Kd.C k61 w A2 d.length d) (hc2 : d.length ≤ c2) (hp2 : d.length ≤ 9223372036854775807 ∧ ∀ p ∈ d, (Lit.int .u64 p.f1).wf = true) :
    Calls Tryz.prog 7 #[.string a0, .int .u64 a1, .slice A2 d.length c2, .string a3] w fun e w' => e = .returned (.bool true) ∧ Below w.heap.size w w' := by
  have hb : ∀ p ∈ d, 0 ≤ p.f1 ∧ p.f1 < 18446744073709551616 := fun p hp => by
    have h := hp2.2 p hp
    simp [Lit.wf, IntKind.min, IntKind.max, IntKind.bits, IntKind.signed] at h
    omega
  obtain ⟨b, hb1, hb2⟩ := ev_small (seesL a0 a1 a3) d
  obtain ⟨b3, hb3, hb4⟩ := ev_data d hp2.1 hb
  have hev : Ev (fun k => folkmootlaw08_TxnSees.f k a0 a1 d a3) true := by
    unfold folkmootlaw08_TxnSees.f
    have hq : Ev (fun f => folkmootlaw08_TxnSees.j0 f a0 a1 d a3 (seesL a0 a1 a3) true) true := ev_j0s a0 a1 a3 d true (fun h => by cases h)
    refine Ev.bind1 rfl (Ev.bind hb1 (Ev.cond (fun h1 => Ev.bind1 rfl (Ev.bind1 rfl (Ev.cond (fun h2 => Ev.bind hb3 (ev_j0s a0 a1 a3 d _ (fun h5 => ?_))) (fun _ => hq)))) (fun _ => hq)))
    obtain ⟨g1, g2⟩ := chk_of h2
    have h3 : b3 = true := by simpa using h5
    exact ⟨g1, g2, (hb2 h1).2, hb4 h3⟩
  obtain ⟨k, hk⟩ := hev.get
  exact folkmootlaw08_TxnSees.calls k a0 a1 A2 c2 d a3 true w C2 hc2 hk
end Go.Proofs.YtgmlenpcchhmbaaGreat.P
end
