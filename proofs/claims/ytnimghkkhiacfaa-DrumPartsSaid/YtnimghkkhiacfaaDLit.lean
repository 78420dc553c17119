/- Literal bytes, and lists of them, as arguments. -/
import Derived.Test.YtnimghkkhiacfaaDLaw
import Derived.Test.YtnimghkkhiacfaaPx1
import Derived.Laws.BytesArg
import Derived.Lib.BufferRead
namespace Go.Proofs.Ytnimghkkhiacfaa.P
open Go.RowKit Go.Proofs.YtnimghkkhiacfaaW.PrintWords Go.Proofs.YtnimghkkhiacfaaW.PrintLast Go.Proofs.YtnimghkkhiacfaaW.PrintMore
/-- a block that is known whole, whatever its mark. -/
def BlkM (w : World) (b : Nat) (cs : Array Value) : Prop := ∃ t m, w.heap[b]? = some (.cells cs t m)
theorem BlkM.lt {w : World} {b : Nat} {cs : Array Value} (h : BlkM w b cs) : b < w.heap.size := by
  obtain ⟨t, m, h⟩ := h
  exact (Array.getElem?_eq_some_iff.1 h).1
theorem BlkM.cell {w : World} {b : Nat} {cs : Array Value} (h : BlkM w b cs) (i : Nat) : w.cell? ⟨b, i, none⟩ = cs[i]? := by
  obtain ⟨t, m, h⟩ := h
  exact cell_of_row w b i cs t m h
theorem BlkM.alloc {w : World} {b : Nat} {cs : Array Value} (h : BlkM w b cs) (o : Obj) : BlkM (w.alloc o) b cs := by
  have hl := h.lt
  obtain ⟨t, m, h⟩ := h
  exact ⟨t, m, (Below.heap_alloc w o b hl).trans h⟩
theorem BlkM.new (w : World) (cs : Array Value) (t : TypeId) (m : Nat × Nat) : BlkM (w.alloc (.cells cs t m)) w.heap.size cs := ⟨t, m, heap_alloc_new w _⟩
theorem BlkM.foot {W W' : World} {b : Nat} {cs : Array Value} {ok : Nat → Prop} (hb : BlkM W b cs) (h : ∀ k, ok k → k < W.heap.size → W'.heap[k]? = W.heap[k]?) (hk : ok b) : BlkM W' b cs := by
  have hl := hb.lt
  obtain ⟨t, m, hb⟩ := hb
  exact ⟨t, m, (h b hk hl).trans hb⟩
theorem C_blk {W : World} {b : Nat} {p : List Int} (hb : BlkM W b (nums .u8 p).toArray) (hm : p.length ≤ 1000000) : Kd.C (Kd.int .u8) W (some ⟨b, 0, none⟩) p.length p :=
  C_of_int ⟨rfl, by omega, fun _ => ⟨_, rfl, fun j hj => by
    rw [add_plain, hb.cell]
    simp [nums, List.getD_eq_getElem?_getD, List.getElem?_eq_getElem hj]⟩⟩
theorem Blk.foot {W W' : World} {b : Nat} {t : TypeId} {cs : Array Value} {ok : Nat → Prop} (hb : Blk W b t cs) (h : ∀ k, ok k → k < W.heap.size → W'.heap[k]? = W.heap[k]?) (hk : ok b) : Blk W' b t cs := (h b hk hb.lt).trans hb
/-- a literal list of literal bytes. -/
theorem F_lits {W : World} {g : Nat} {t : TypeId} {cs : Array Value} {ls : List (List Int)} {ok : Nat → Prop} (hb : Blk W g t cs) (hg : ok g) (hn : ls.length ≤ 1000000)
    (h : ∀ (j : Nat) p, ls[j]? = some p → ∃ b c, cs[j]? = some (.slice (some ⟨b, 0, none⟩) p.length c) ∧ p.length ≤ c ∧ ok b ∧ p.length ≤ 1000000 ∧ BlkM W b (nums .u8 p).toArray) : Kd.F kBs W ok (some ⟨g, 0, none⟩) ls.length ls :=
  fun W' hW' => blk_bs (hb.foot hW' hg) hn fun j p hj => by
    obtain ⟨b, c, h1, h2, h3, h4, h5⟩ := h j p hj
    exact ⟨_, c, h1, h2, C_blk (h5.foot hW' h3) h4⟩
theorem num_any (x : Int) (w : World) : Calls Try.prog 10 #[.int .i64 x] w fun e w' => e = .returned (.int .i64 x) ∧ Drawn0 w w' := folkmootlaw14_num.calls x x w rfl
set_option maxRecDepth 100000 in
/-- string(b) of a row of one's own. -/
theorem RowB.str {w : World} {b c : Nat} {A : Option Addr} {xs : List Int} (h : RowB w b (.slice A xs.length c) xs) : (convert 22 9 (.slice A xs.length c)).run Try.prog w = .ok (.string (strOfNums xs)) w := by
  have hr := own_reads' h
  obtain ⟨_, h⟩ := h
  rcases h with ⟨e, hn⟩ | ⟨g, cap, cur, e, _, hb, _, _⟩
  · have hx : xs = [] := List.eq_nil_of_length_eq_zero hn
    subst hx
    cases e
    show (convert 22 9 (.slice none 0 0)).run Try.prog w = _
    rw [Go.Lib.run_convert_nil_bytes (P := Try.prog) w 22 9 5 0 Try.underlying22 Try.underlying5 Try.underlying9]
    rfl
  · injection e with e
    subst e
    exact run_convert_bytes_arg (P := Try.prog) w 22 5 Try.underlying22 Try.underlying5 g 0 xs.length c xs rfl (fun i hi => by
      obtain ⟨ad, h1, h2⟩ := hr.2.2 (by omega)
      injection h1 with h1
      subst h1
      have := h2 i hi
      rw [add_plain] at this
      rw [Nat.zero_add]; exact this) 9 Try.underlying9
end Go.Proofs.Ytnimghkkhiacfaa.P
